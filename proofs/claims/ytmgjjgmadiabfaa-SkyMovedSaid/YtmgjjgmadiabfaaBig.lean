/- What the reference's Miss answers; what counts as too great. No condition. -/
import Derived.Test.YtmgjjgmadiabfaaMissed
namespace Go.Proofs.Ytmgjjgmadiabfaa
open Go.RowKit

set_option maxRecDepth 4000 in
set_option maxHeartbeats 1000000 in
theorem refMiss_c (A1 : Option Addr) (n1 c1 : Nat) (home : Int) (A2 : Option Addr) (n2 c2 : Nat) (A3 : Option Addr) (n3 c3 : Nat) (s : Sky) (gx gy gu gv : Int) (t0 : Int) (A : Option Addr) (n c : Nat) (l : List Sight) (w : World) (hs : IsSky w A1 n1 home A2 n2 A3 n3 s) (hl : Sights w A n l) :
    Calls Try.prog 39 #[.agg #[.slice A1 n1 c1, .int .i64 home, .slice A2 n2 c2, .slice A3 n3 c3], .slice A n c, .agg #[.int .i64 gx, .int .i64 gy, .int .i64 gu, .int .i64 gv], .int .i64 t0] w fun e w' => e = .returned (.int .i64 (missM s l ⟨gx, gy, gu, gv⟩ t0)) ∧ Ext w w' := by
  have HT := Lib.hid fun W (hW : Ext w W) => refCheckTracklet_c A1 n1 c1 home A2 n2 c2 A3 n3 c3 s A n c l W (hs.ext hW) (Sights.ext hW hl)
  have HV := Lib.hid fun W => Guess_c gx gy gu gv W
  have HM : Hid (missM s l ⟨gx, gy, gu, gv⟩ t0 = if trkErr s l ≠ 0 ∨ gOK ⟨gx, gy, gu, gv⟩ = false ∨ within t0 0 1073741824 = false then -2 else missFrom s ⟨gx, gy, gu, gv⟩ t0 l 0) := Lib.hid rfl
  by_cases hT : trkErr s l = 0
  · have HO := Lib.hid (trk_ok hT)
    rw [hT] at HT HM
    clear hT
    cases hg : gOK ⟨gx, gy, gu, gv⟩
    · rw [hg] at HV HM
      clear hg hs hl HO
      go_enter Try.func39, Try.ntmps39
      go_wp2_with fail
      refine (HT.out _ (by (repeat' (first | exact Ext.refl _ | assumption | apply Ext.alloc | apply Ext.drew | refine Ext.set ?_ (by dsimp only; omega) _ | refine Ext.trans ?_ (by assumption))))).mono ?_
      rintro e w1 ⟨rfl, h1⟩; obtain ⟨hc_w1, hf_w1, hz_w1⟩ := bcell h1; (repeat (first | rw [World.size_alloc] at hz_w1 | rw [World.size_drew] at hz_w1 | rw [World.size_setCell] at hz_w1)); have : w.heap.size < w1.heap.size := (by omega); have : w.heap.size + 1 < w1.heap.size := (by omega)
      go_wp2_with fail
      refine (HV.out _).mono ?_
      rintro e w2 ⟨rfl, h2⟩; obtain ⟨hc_w2, hf_w2, hz_w2⟩ := bcell h2; (repeat (first | rw [World.size_alloc] at hz_w2 | rw [World.size_drew] at hz_w2 | rw [World.size_setCell] at hz_w2)); have : w.heap.size < w2.heap.size := (by omega); have : w.heap.size + 1 < w2.heap.size := (by omega)
      go_wp2_with fail
      go_ret
      exact ⟨ret_i (by rw [HM.out]; simp), by (repeat' (first | exact Ext.refl _ | assumption | apply Ext.alloc | apply Ext.drew | refine Ext.set ?_ (by dsimp only; omega) _ | refine Ext.trans ?_ (by assumption)))⟩
    · cases ht : within t0 0 1073741824
      · rw [hg] at HV HM
        rw [ht] at HM
        have Ht := Lib.hid ht
        clear hg hs hl HO ht
        go_enter Try.func39, Try.ntmps39
        go_wp2_with fail
        refine (HT.out _ (by (repeat' (first | exact Ext.refl _ | assumption | apply Ext.alloc | apply Ext.drew | refine Ext.set ?_ (by dsimp only; omega) _ | refine Ext.trans ?_ (by assumption))))).mono ?_
        rintro e w1 ⟨rfl, h1⟩; obtain ⟨hc_w1, hf_w1, hz_w1⟩ := bcell h1; (repeat (first | rw [World.size_alloc] at hz_w1 | rw [World.size_drew] at hz_w1 | rw [World.size_setCell] at hz_w1)); have : w.heap.size < w1.heap.size := (by omega); have : w.heap.size + 1 < w1.heap.size := (by omega)
        go_wp2_with fail
        refine (HV.out _).mono ?_
        rintro e w2 ⟨rfl, h2⟩; obtain ⟨hc_w2, hf_w2, hz_w2⟩ := bcell h2; (repeat (first | rw [World.size_alloc] at hz_w2 | rw [World.size_drew] at hz_w2 | rw [World.size_setCell] at hz_w2)); have : w.heap.size < w2.heap.size := (by omega); have : w.heap.size + 1 < w2.heap.size := (by omega)
        go_wp2_with fail
        refine (between_c _ _ _ _).mono ?_
        rintro e w3 ⟨rfl, rfl⟩
        rw [Ht.out]
        go_wp2_with fail
        go_ret
        exact ⟨ret_i (by rw [HM.out]; simp), by (repeat' (first | exact Ext.refl _ | assumption | apply Ext.alloc | apply Ext.drew | refine Ext.set ?_ (by dsimp only; omega) _ | refine Ext.trans ?_ (by assumption)))⟩
      · have HQ := Lib.hid fun W (hW : Ext w W) => refmiss_c A1 n1 c1 home A2 n2 c2 A3 n3 c3 s gx gy gu gv t0 A n c l W (hs.ext hW) (Sights.ext hW hl) HO.out hg ht
        rw [hg] at HV HM
        rw [ht] at HM
        have Ht := Lib.hid ht
        clear hg hs hl HO ht
        go_enter Try.func39, Try.ntmps39
        go_wp2_with fail
        refine (HT.out _ (by (repeat' (first | exact Ext.refl _ | assumption | apply Ext.alloc | apply Ext.drew | refine Ext.set ?_ (by dsimp only; omega) _ | refine Ext.trans ?_ (by assumption))))).mono ?_
        rintro e w1 ⟨rfl, h1⟩; obtain ⟨hc_w1, hf_w1, hz_w1⟩ := bcell h1; (repeat (first | rw [World.size_alloc] at hz_w1 | rw [World.size_drew] at hz_w1 | rw [World.size_setCell] at hz_w1)); have : w.heap.size < w1.heap.size := (by omega); have : w.heap.size + 1 < w1.heap.size := (by omega)
        go_wp2_with fail
        refine (HV.out _).mono ?_
        rintro e w2 ⟨rfl, h2⟩; obtain ⟨hc_w2, hf_w2, hz_w2⟩ := bcell h2; (repeat (first | rw [World.size_alloc] at hz_w2 | rw [World.size_drew] at hz_w2 | rw [World.size_setCell] at hz_w2)); have : w.heap.size < w2.heap.size := (by omega); have : w.heap.size + 1 < w2.heap.size := (by omega)
        go_wp2_with fail
        refine (between_c _ _ _ _).mono ?_
        rintro e w3 ⟨rfl, rfl⟩
        rw [Ht.out]
        go_wp2_with fail
        refine (HQ.out _ (by (repeat' (first | exact Ext.refl _ | assumption | apply Ext.alloc | apply Ext.drew | refine Ext.set ?_ (by dsimp only; omega) _ | refine Ext.trans ?_ (by assumption))))).mono ?_
        rintro e w4 ⟨rfl, h4⟩; obtain ⟨hc_w4, hf_w4, hz_w4⟩ := bcell h4; (repeat (first | rw [World.size_alloc] at hz_w4 | rw [World.size_drew] at hz_w4 | rw [World.size_setCell] at hz_w4)); have : w.heap.size < w4.heap.size := (by omega); have : w.heap.size + 1 < w4.heap.size := (by omega)
        go_wp2_with fail
        go_ret
        exact ⟨ret_i (by rw [HM.out]; simp), by (repeat' (first | exact Ext.refl _ | assumption | apply Ext.alloc | apply Ext.drew | refine Ext.set ?_ (by dsimp only; omega) _ | refine Ext.trans ?_ (by assumption)))⟩
  · have hT' : (trkErr s l != 0) = true := by simpa using hT
    have hT2 : Hid (missM s l ⟨gx, gy, gu, gv⟩ t0 = -2) := Lib.hid (by rw [HM.out, if_pos (.inl hT)])
    clear HM
    generalize trkErr s l = T at *
    clear hs hl hT
    go_enter Try.func39, Try.ntmps39
    go_wp2_with fail
    refine (HT.out _ (by (repeat' (first | exact Ext.refl _ | assumption | apply Ext.alloc | apply Ext.drew | refine Ext.set ?_ (by dsimp only; omega) _ | refine Ext.trans ?_ (by assumption))))).mono ?_
    rintro e w1 ⟨rfl, h1⟩; obtain ⟨hc_w1, hf_w1, hz_w1⟩ := bcell h1; (repeat (first | rw [World.size_alloc] at hz_w1 | rw [World.size_drew] at hz_w1 | rw [World.size_setCell] at hz_w1)); have : w.heap.size < w1.heap.size := (by omega); have : w.heap.size + 1 < w1.heap.size := (by omega)
    go_wp2_with fail
    go_ret
    exact ⟨ret_i (by rw [hT2.out]), by (repeat' (first | exact Ext.refl _ | assumption | apply Ext.alloc | apply Ext.drew | refine Ext.set ?_ (by dsimp only; omega) _ | refine Ext.trans ?_ (by assumption)))⟩

/-- Lists of sights, in memory. -/
def trkAt (w : World) (p : List Sight) (b o : Nat) : Prop := ∃ A n c, w.cell? ⟨b, o, none⟩ = some (.slice A n c) ∧ Sights w A n p
abbrev Trks (w : World) (A : Option Addr) (n : Nat) (l : List (List Sight)) : Prop := SlR 1 (trkAt w) A n l
theorem trkAt.ext {w w' : World} (e : Ext w w') {p : List Sight} {b o : Nat} (h : trkAt w p b o) : trkAt w' p b o := by
  obtain ⟨A, n, c, h1, h2⟩ := h
  exact ⟨A, n, c, e.cell h1, Sights.ext e h2⟩
theorem Trks.ext {w w' : World} (e : Ext w w') {A n l} (h : Trks w A n l) : Trks w' A n l := SlR.mono h fun _ _ _ _ => trkAt.ext e
def bigM (s : Sky) (n : Nat) (l : List (List Sight)) : Bool := bigSky s || decide (66 < n) || decide (18 < l.length) || l.any fun x => decide (66 < x.length)

set_option maxRecDepth 4000 in
set_option maxHeartbeats 1000000 in
theorem big_c (A1 : Option Addr) (n1 c1 : Nat) (home : Int) (A2 : Option Addr) (n2 c2 : Nat) (A3 : Option Addr) (n3 c3 : Nat) (s : Sky) (A0 : Option Addr) (n0 c0 : Nat) (A : Option Addr) (n c : Nat) (l : List (List Sight)) (w : World) (hs : IsSky w A1 n1 home A2 n2 A3 n3 s) (h0 : n0 ≤ 9223372036854775807) (hl : Trks w A n l) :
    Calls Try.prog 35 #[.agg #[.slice A1 n1 c1, .int .i64 home, .slice A2 n2 c2, .slice A3 n3 c3], .slice A0 n0 c0, .slice A n c] w fun e w' => e = .returned (.bool (bigM s n0 l)) ∧ Ext w w' := by
  have hn := hl.le
  have hln := Lib.hid hl.len
  have HB := Lib.hid fun W (hW : Ext w W) => BigSky_c A1 n1 c1 home A2 n2 c2 A3 n3 c3 s W (hs.ext hW)
  unfold bigM
  generalize bigSky s = B at *
  clear hs
  cases B
  · by_cases h1 : n0 ≤ 66
    · by_cases h2 : n ≤ 18
      · have HT : Hid ((false || decide (66 < n0) || decide (18 < l.length) || l.any fun x => decide (66 < x.length)) = l.any fun x => decide (66 < x.length)) := by
          have h4 := hln.out
          have e1 : ¬ 66 < n0 := by omega
          have e2 : ¬ 18 < l.length := by omega
          exact Lib.hid (by simp [e1, e2])
        go_enter Try.func35, Try.ntmps35
        go_wp2_with fail
        refine (HB.out _ (by (repeat' (first | exact Ext.refl _ | assumption | apply Ext.alloc | apply Ext.drew | refine Ext.set ?_ (by dsimp only; omega) _ | refine Ext.trans ?_ (by assumption))))).mono ?_
        rintro e w1 ⟨rfl, h1⟩; obtain ⟨hc_w1, hf_w1, hz_w1⟩ := bcell h1; (repeat (first | rw [World.size_alloc] at hz_w1 | rw [World.size_drew] at hz_w1 | rw [World.size_setCell] at hz_w1)); have : w.heap.size < w1.heap.size := (by omega)
        go_wp2_with fail
        go_loopw [7] (fun i wr => ∃ k : Nat, k ≤ n ∧ i = .int .i64 k ∧ Hid (((l.drop k).any fun x => decide (66 < x.length)) = l.any fun x => decide (66 < x.length)) ∧ Ext w1 wr) (fun i _ => n - (intOf i).toNat)
        case atStart => exact ⟨0, Nat.zero_le _, rfl, rfl, Ext.refl _⟩
        case round =>
          obtain ⟨k, hk, rfl, HI, hb⟩ := hrel
          obtain ⟨hcb, hfb, hzb⟩ := bcell hb
          by_cases hlt : k < n
          · obtain ⟨b, off, x, rfl, HD, hxm, hx⟩ := hl.one hlt
            rw [Nat.mul_one] at hx
            obtain ⟨A', n', c', hx0, hx1⟩ := trkAt.ext (Ext.trans (by (repeat' (first | exact Ext.refl _ | assumption | apply Ext.alloc | apply Ext.drew | refine Ext.set ?_ (by dsimp only; omega) _ | refine Ext.trans ?_ (by assumption)))) hb) hx
            have hn' := hx1.le
            have hi := HI.out; rw [HD.out, List.any_cons, ← hx1.len] at hi
            clear hx1
            by_cases hp : 66 < n'
            · simp only [hp, decide_true, Bool.true_or] at hi
              have Hi := Lib.hid hi; clear hi
              go_wp2_with fail
              go_ret
              exact ⟨ret_b (by rw [HT.out, ← Hi.out]), by (repeat' (first | exact Ext.refl _ | assumption | apply Ext.alloc | apply Ext.drew | refine Ext.set ?_ (by dsimp only; omega) _ | refine Ext.trans ?_ (by assumption)))⟩
            · simp only [hp, decide_false, Bool.false_or] at hi
              have Hi := Lib.hid hi; clear hi
              have hp' : n' ≤ 66 := by omega
              clear hp
              go_wp2_with fail
              go_roundw
              case rel => exact ⟨k + 1, by omega, by go_num, Hi, by (repeat' (first | exact Ext.refl _ | assumption | apply Ext.alloc | apply Ext.drew | refine Ext.set ?_ (by dsimp only; omega) _ | refine Ext.trans ?_ (by assumption)))⟩
              case measure => simp [intOf]; omega
          · have : k = n := by omega
            subst this
            have hi := HI.out; rw [hln.out, List.drop_length, List.any_nil] at hi
            have Hj := Lib.hid hi; clear hi
            go_wp2_with fail
            go_ret
            exact ⟨ret_b (by rw [HT.out, ← Hj.out]), by (repeat' (first | exact Ext.refl _ | assumption | apply Ext.alloc | apply Ext.drew | refine Ext.set ?_ (by dsimp only; omega) _ | refine Ext.trans ?_ (by assumption)))⟩
      · have h2' : 18 < n := by omega
        have h3 : Hid (18 < l.length) := Lib.hid (by have h4 := hln.out; omega)
        clear h2
        go_enter Try.func35, Try.ntmps35
        go_wp2_with fail
        refine (HB.out _ (by (repeat' (first | exact Ext.refl _ | assumption | apply Ext.alloc | apply Ext.drew | refine Ext.set ?_ (by dsimp only; omega) _ | refine Ext.trans ?_ (by assumption))))).mono ?_
        rintro e w1 ⟨rfl, h1⟩; obtain ⟨hc_w1, hf_w1, hz_w1⟩ := bcell h1; (repeat (first | rw [World.size_alloc] at hz_w1 | rw [World.size_drew] at hz_w1 | rw [World.size_setCell] at hz_w1)); have : w.heap.size < w1.heap.size := (by omega)
        go_wp2_with fail
        go_ret
        exact ⟨ret_b (by simp [h3.out]), by (repeat' (first | exact Ext.refl _ | assumption | apply Ext.alloc | apply Ext.drew | refine Ext.set ?_ (by dsimp only; omega) _ | refine Ext.trans ?_ (by assumption)))⟩
    · have h1' : 66 < n0 := by omega
      clear h1
      go_enter Try.func35, Try.ntmps35
      go_wp2_with fail
      refine (HB.out _ (by (repeat' (first | exact Ext.refl _ | assumption | apply Ext.alloc | apply Ext.drew | refine Ext.set ?_ (by dsimp only; omega) _ | refine Ext.trans ?_ (by assumption))))).mono ?_
      rintro e w1 ⟨rfl, h1⟩; obtain ⟨hc_w1, hf_w1, hz_w1⟩ := bcell h1; (repeat (first | rw [World.size_alloc] at hz_w1 | rw [World.size_drew] at hz_w1 | rw [World.size_setCell] at hz_w1)); have : w.heap.size < w1.heap.size := (by omega)
      go_wp2_with fail
      go_ret
      exact ⟨ret_b (by simp), by (repeat' (first | exact Ext.refl _ | assumption | apply Ext.alloc | apply Ext.drew | refine Ext.set ?_ (by dsimp only; omega) _ | refine Ext.trans ?_ (by assumption)))⟩
  · go_enter Try.func35, Try.ntmps35
    go_wp2_with fail
    refine (HB.out _ (by (repeat' (first | exact Ext.refl _ | assumption | apply Ext.alloc | apply Ext.drew | refine Ext.set ?_ (by dsimp only; omega) _ | refine Ext.trans ?_ (by assumption))))).mono ?_
    rintro e w1 ⟨rfl, h1⟩; obtain ⟨hc_w1, hf_w1, hz_w1⟩ := bcell h1; (repeat (first | rw [World.size_alloc] at hz_w1 | rw [World.size_drew] at hz_w1 | rw [World.size_setCell] at hz_w1)); have : w.heap.size < w1.heap.size := (by omega)
    go_wp2_with fail
    go_ret
    exact ⟨ret_b (by simp), by (repeat' (first | exact Ext.refl _ | assumption | apply Ext.alloc | apply Ext.drew | refine Ext.set ?_ (by dsimp only; omega) _ | refine Ext.trans ?_ (by assumption)))⟩
end Go.Proofs.Ytmgjjgmadiabfaa
