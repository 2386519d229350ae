/- What Miss answers: the program and the reference. No condition. -/
import Derived.Test.YtmgjjgmadiabfaaMisses
namespace Go.Proofs.Ytmgjjgmadiabfaa
open Go.RowKit

set_option maxHeartbeats 1000000 in
theorem misses_c (A1 : Option Addr) (n1 c1 : Nat) (home : Int) (A2 : Option Addr) (n2 c2 : Nat) (A3 : Option Addr) (n3 c3 : Nat) (s : Sky) (gx gy gu gv : Int) (t0 : Int) (A : Option Addr) (n c : Nat) (l : List Sight) (w : World) (hs : IsSky w A1 n1 home A2 n2 A3 n3 s) (hl : Sights w A n l) (hok : ∀ x ∈ l, sightErr2 s x = 0) (hg : gOK ⟨gx, gy, gu, gv⟩ = true) (ht : within t0 0 1073741824 = true) :
    Calls Try.prog 80 #[.agg #[.int .i64 gx, .int .i64 gy, .int .i64 gu, .int .i64 gv, .int .i64 t0], .agg #[.slice A1 n1 c1, .int .i64 home, .slice A2 n2 c2, .slice A3 n3 c3], .slice A n c] w fun e w' => e = .returned (.int .i64 (missFrom s ⟨gx, gy, gu, gv⟩ t0 l 0)) ∧ Ext w w' := by
  unfold missFrom
  have hn := hl.le
  go_enter Try.func80, Try.ntmps80
  go_wp2_with fail
  refine (idxSight_c A n c l 115 #[.pointer (some ⟨w.heap.size, 0, none⟩), .pointer (some ⟨w.heap.size + 1, 0, none⟩)] (fun x => !fitsM s x ⟨gx, gy, gu, gv⟩ t0) _ (Sights.ext (by (repeat' (first | exact Ext.refl _ | assumption | apply Ext.alloc | apply Ext.drew | refine Ext.set ?_ (by dsimp only; omega) _ | refine Ext.trans ?_ (by assumption)))) hl) Try.call115
    (fun x hx W hW => misses1_c A1 n1 c1 home A2 n2 c2 A3 n3 c3 s gx gy gu gv t0 x _ _ W (hs.ext (Ext.trans (by (repeat' (first | exact Ext.refl _ | assumption | apply Ext.alloc | apply Ext.drew | refine Ext.set ?_ (by dsimp only; omega) _ | refine Ext.trans ?_ (by assumption)))) hW)) ⟨_, (Blk.alloc (Blk.newAt rfl) _).ext hW⟩ ⟨_, (Blk.newAt (by simp)).ext hW⟩ (hok x hx) hg ht)).mono ?_
  rintro e w1 ⟨rfl, h1⟩; obtain ⟨hc_w1, hf_w1, hz_w1⟩ := bcell h1; (repeat (first | rw [World.size_alloc] at hz_w1 | rw [World.size_drew] at hz_w1 | rw [World.size_setCell] at hz_w1)); have : w.heap.size < w1.heap.size := (by omega); have : w.heap.size + 1 < w1.heap.size := (by omega)
  go_wp2_with fail
  go_ret
  exact ⟨rfl, by (repeat' (first | exact Ext.refl _ | assumption | apply Ext.alloc | apply Ext.drew | refine Ext.set ?_ (by dsimp only; omega) _ | refine Ext.trans ?_ (by assumption)))⟩

set_option maxRecDepth 4000 in
set_option maxHeartbeats 1000000 in
theorem refmiss_c (A1 : Option Addr) (n1 c1 : Nat) (home : Int) (A2 : Option Addr) (n2 c2 : Nat) (A3 : Option Addr) (n3 c3 : Nat) (s : Sky) (gx gy gu gv : Int) (t0 : Int) (A : Option Addr) (n c : Nat) (l : List Sight) (w : World) (hs : IsSky w A1 n1 home A2 n2 A3 n3 s) (hl : Sights w A n l) (hok : ∀ x ∈ l, sightErr2 s x = 0) (hg : gOK ⟨gx, gy, gu, gv⟩ = true) (ht : within t0 0 1073741824 = true) :
    Calls Try.prog 82 #[.agg #[.slice A1 n1 c1, .int .i64 home, .slice A2 n2 c2, .slice A3 n3 c3], .slice A n c, .agg #[.int .i64 gx, .int .i64 gy, .int .i64 gu, .int .i64 gv], .int .i64 t0] w fun e w' => e = .returned (.int .i64 (missFrom s ⟨gx, gy, gu, gv⟩ t0 l 0)) ∧ Ext w w' := by
  unfold missFrom
  have hn := hl.le
  have hln := Lib.hid hl.len
  have HF := Lib.hid fun (x : Sight) (hx : x ∈ l) W (hW : Ext w W) => fits_c A1 n1 c1 home A2 n2 c2 A3 n3 c3 s x.kind x.station x.catalog x.tick x.dx x.dy x.err x.lo x.hi gx gy gu gv t0 W (hs.ext hW) (hok x hx) hg ht
  clear hok hg ht hs
  go_enter Try.func82, Try.ntmps82
  go_wp2_with fail
  go_loopw [9] (fun i wr => ∃ k : Nat, k ≤ n ∧ i = .int .i64 k ∧ Hid (idxFrom (fun x => !fitsM s x ⟨gx, gy, gu, gv⟩ t0) (l.drop k) k = idxFrom (fun x => !fitsM s x ⟨gx, gy, gu, gv⟩ t0) l 0) ∧ Ext ((w.alloc (.cells #[.slice A1 n1 c1, .int .i64 home, .slice A2 n2 c2, .slice A3 n3 c3] 28)).alloc (.cells #[.int .i64 gx, .int .i64 gy, .int .i64 gu, .int .i64 gv] 53)) wr) (fun i _ => n - (intOf i).toNat)
  case atStart => exact ⟨0, Nat.zero_le _, rfl, rfl, Ext.refl _⟩
  case round =>
    obtain ⟨k, hk, rfl, HI, hb⟩ := hrel
    obtain ⟨hcb, hfb, hzb⟩ := bcell hb
    simp only [World.size_alloc] at hzb
    by_cases hlt : k < n
    · obtain ⟨b, off, x, rfl, HD, hxm, hx⟩ := hl.one hlt
      obtain ⟨hx0, hx1, hx2, hx3, hx4, hx5, hx6, hx7, hx8⟩ := sightAt.ext (Ext.trans (by (repeat' (first | exact Ext.refl _ | assumption | apply Ext.alloc | apply Ext.drew | refine Ext.set ?_ (by dsimp only; omega) _ | refine Ext.trans ?_ (by assumption)))) hb) hx
      have hi := HI.out; rw [HD.out, idxFrom] at hi
      have hcx := HF.out x hxm
      generalize fitsM s x ⟨gx, gy, gu, gv⟩ t0 = M at hi hcx
      have HFx := Lib.hid hcx; clear hcx
      have Hi := Lib.hid hi; clear hi
      have hbw := World.block_lt_of_cell? wr _ hx0
      dsimp only at hbw
      have hwr0 : w.heap.size < wr.heap.size := by omega
      have hwr1 : w.heap.size + 1 < wr.heap.size := by omega
      go_wp2_with fail
      refine wp_region_text (by kernel_rfl) (by kernel_rfl) ?_
      repeat' (first | (refine bl_off (by rfl) ?_; simp only [Act.put, List.setIfInBounds_toArray, List.set_cons_zero, List.set_cons_succ]) | (apply bl_op; rfl; (intro w1 h1; obtain ⟨hc, hf, hz⟩ := bcell h1; go_simp; (try go_bits); (first | exact ⟨rfl, Ext.refl _⟩ | (apply gives_call; first | (go_at_call 102; exact HFx.out _ (by (repeat' (first | exact Ext.refl _ | assumption | apply Ext.alloc | apply Ext.drew | refine Ext.set ?_ (by dsimp only; omega) _ | refine Ext.trans ?_ (by assumption)))))) | (go_invoke; go_simp; apply gives_call; first | (go_at_call 102; exact HFx.out _ (by (repeat' (first | exact Ext.refl _ | assumption | apply Ext.alloc | apply Ext.drew | refine Ext.set ?_ (by dsimp only; omega) _ | refine Ext.trans ?_ (by assumption)))))))); simp only [Act.put, List.setIfInBounds_toArray, List.set_cons_zero, List.set_cons_succ]) | (refine bl_split rfl rfl (fun hx => ?_) (fun hx => ?_) <;> simp only [hx]))
      refine bl_nil ?_
      intro w2 h2
      obtain ⟨hc2, hf2, hz2⟩ := bcell h2
      cases M
      · go_wp2_with fail
        go_ret
        exact ⟨ret_i (by have := Hi.out; simpa using this), by (repeat' (first | exact Ext.refl _ | assumption | apply Ext.alloc | apply Ext.drew | refine Ext.set ?_ (by dsimp only; omega) _ | refine Ext.trans ?_ (by assumption)))⟩
      · go_wp2_with fail
        go_roundw
        case rel => exact ⟨k + 1, by omega, by go_num, by have := Hi.out; simpa [Hid] using this, by (repeat' (first | exact Ext.refl _ | assumption | apply Ext.alloc | apply Ext.drew | refine Ext.set ?_ (by dsimp only; omega) _ | refine Ext.trans ?_ (by assumption)))⟩
        case measure => simp [intOf]; omega
    · have : k = n := by omega
      subst this
      have hi := HI.out; rw [hln.out, List.drop_length, idxFrom] at hi
      have Hj := Lib.hid hi; clear hi
      go_wp2_with fail
      go_ret
      exact ⟨ret_i (by rw [← Hj.out]), by (repeat' (first | exact Ext.refl _ | assumption | apply Ext.alloc | apply Ext.drew | refine Ext.set ?_ (by dsimp only; omega) _ | refine Ext.trans ?_ (by assumption)))⟩

def missM (s : Sky) (l : List Sight) (g : St) (t0 : Int) : Int :=
  if trkErr s l ≠ 0 ∨ gOK g = false ∨ within t0 0 1073741824 = false then -2 else missFrom s g t0 l 0

set_option maxRecDepth 4000 in
set_option maxHeartbeats 1000000 in
theorem Miss_c (A1 : Option Addr) (n1 c1 : Nat) (home : Int) (A2 : Option Addr) (n2 c2 : Nat) (A3 : Option Addr) (n3 c3 : Nat) (s : Sky) (gx gy gu gv : Int) (t0 : Int) (A : Option Addr) (n c : Nat) (l : List Sight) (w : World) (hs : IsSky w A1 n1 home A2 n2 A3 n3 s) (hl : Sights w A n l) :
    Calls Try.prog 38 #[.agg #[.slice A1 n1 c1, .int .i64 home, .slice A2 n2 c2, .slice A3 n3 c3], .slice A n c, .agg #[.int .i64 gx, .int .i64 gy, .int .i64 gu, .int .i64 gv], .int .i64 t0] w fun e w' => e = .returned (.int .i64 (missM s l ⟨gx, gy, gu, gv⟩ t0)) ∧ Ext w w' := by
  have HT := Lib.hid fun W (hW : Ext w W) => CheckTracklet_c A1 n1 c1 home A2 n2 c2 A3 n3 c3 s A n c l W (hs.ext hW) (Sights.ext hW hl)
  have HV := Lib.hid fun W => valid_c gx gy gu gv W
  have HM : Hid (missM s l ⟨gx, gy, gu, gv⟩ t0 = if trkErr s l ≠ 0 ∨ gOK ⟨gx, gy, gu, gv⟩ = false ∨ within t0 0 1073741824 = false then -2 else missFrom s ⟨gx, gy, gu, gv⟩ t0 l 0) := Lib.hid rfl
  by_cases hT : trkErr s l = 0
  · have HO := Lib.hid (trk_ok hT)
    rw [hT] at HT HM
    clear hT
    cases hg : gOK ⟨gx, gy, gu, gv⟩
    · rw [hg] at HV HM
      clear hg hs hl HO
      go_enter Try.func38, Try.ntmps38
      go_wp2_with fail
      refine (HT.out _ (by (repeat' (first | exact Ext.refl _ | assumption | apply Ext.alloc | apply Ext.drew | refine Ext.set ?_ (by dsimp only; omega) _ | refine Ext.trans ?_ (by assumption))))).mono ?_
      rintro e w1 ⟨rfl, h1⟩; obtain ⟨hc_w1, hf_w1, hz_w1⟩ := bcell h1; (repeat (first | rw [World.size_alloc] at hz_w1 | rw [World.size_drew] at hz_w1 | rw [World.size_setCell] at hz_w1)); have : w.heap.size < w1.heap.size := (by omega); have : w.heap.size + 1 < w1.heap.size := (by omega)
      go_wp2_with fail
      refine (HV.out _).mono ?_
      rintro e w2 ⟨rfl, h2⟩; obtain ⟨hc_w2, hf_w2, hz_w2⟩ := bcell h2; (repeat (first | rw [World.size_alloc] at hz_w2 | rw [World.size_drew] at hz_w2 | rw [World.size_setCell] at hz_w2)); have : w.heap.size < w2.heap.size := (by omega); have : w.heap.size + 1 < w2.heap.size := (by omega)
      go_wp2_with fail
      go_ret
      exact ⟨ret_i (by rw [HM.out]; simp), by (repeat' (first | exact Ext.refl _ | assumption | apply Ext.alloc | apply Ext.drew | refine Ext.set ?_ (by dsimp only; omega) _ | refine Ext.trans ?_ (by assumption)))⟩
    · cases ht : within t0 0 1073741824
      · rw [hg] at HV HM
        rw [ht] at HM
        have Ht := Lib.hid ht
        clear hg hs hl HO ht
        go_enter Try.func38, Try.ntmps38
        go_wp2_with fail
        refine (HT.out _ (by (repeat' (first | exact Ext.refl _ | assumption | apply Ext.alloc | apply Ext.drew | refine Ext.set ?_ (by dsimp only; omega) _ | refine Ext.trans ?_ (by assumption))))).mono ?_
        rintro e w1 ⟨rfl, h1⟩; obtain ⟨hc_w1, hf_w1, hz_w1⟩ := bcell h1; (repeat (first | rw [World.size_alloc] at hz_w1 | rw [World.size_drew] at hz_w1 | rw [World.size_setCell] at hz_w1)); have : w.heap.size < w1.heap.size := (by omega); have : w.heap.size + 1 < w1.heap.size := (by omega)
        go_wp2_with fail
        refine (HV.out _).mono ?_
        rintro e w2 ⟨rfl, h2⟩; obtain ⟨hc_w2, hf_w2, hz_w2⟩ := bcell h2; (repeat (first | rw [World.size_alloc] at hz_w2 | rw [World.size_drew] at hz_w2 | rw [World.size_setCell] at hz_w2)); have : w.heap.size < w2.heap.size := (by omega); have : w.heap.size + 1 < w2.heap.size := (by omega)
        go_wp2_with fail
        refine (within_c _ _ _ _).mono ?_
        rintro e w3 ⟨rfl, rfl⟩
        rw [Ht.out]
        go_wp2_with fail
        go_ret
        exact ⟨ret_i (by rw [HM.out]; simp), by (repeat' (first | exact Ext.refl _ | assumption | apply Ext.alloc | apply Ext.drew | refine Ext.set ?_ (by dsimp only; omega) _ | refine Ext.trans ?_ (by assumption)))⟩
      · have HQ := Lib.hid fun W (hW : Ext w W) => misses_c A1 n1 c1 home A2 n2 c2 A3 n3 c3 s gx gy gu gv t0 A n c l W (hs.ext hW) (Sights.ext hW hl) HO.out hg ht
        rw [hg] at HV HM
        rw [ht] at HM
        have Ht := Lib.hid ht
        clear hg hs hl HO ht
        go_enter Try.func38, Try.ntmps38
        go_wp2_with fail
        refine (HT.out _ (by (repeat' (first | exact Ext.refl _ | assumption | apply Ext.alloc | apply Ext.drew | refine Ext.set ?_ (by dsimp only; omega) _ | refine Ext.trans ?_ (by assumption))))).mono ?_
        rintro e w1 ⟨rfl, h1⟩; obtain ⟨hc_w1, hf_w1, hz_w1⟩ := bcell h1; (repeat (first | rw [World.size_alloc] at hz_w1 | rw [World.size_drew] at hz_w1 | rw [World.size_setCell] at hz_w1)); have : w.heap.size < w1.heap.size := (by omega); have : w.heap.size + 1 < w1.heap.size := (by omega)
        go_wp2_with fail
        refine (HV.out _).mono ?_
        rintro e w2 ⟨rfl, h2⟩; obtain ⟨hc_w2, hf_w2, hz_w2⟩ := bcell h2; (repeat (first | rw [World.size_alloc] at hz_w2 | rw [World.size_drew] at hz_w2 | rw [World.size_setCell] at hz_w2)); have : w.heap.size < w2.heap.size := (by omega); have : w.heap.size + 1 < w2.heap.size := (by omega)
        go_wp2_with fail
        refine (within_c _ _ _ _).mono ?_
        rintro e w3 ⟨rfl, rfl⟩
        rw [Ht.out]
        go_wp2_with fail
        refine (HQ.out _ (by (repeat' (first | exact Ext.refl _ | assumption | apply Ext.alloc | apply Ext.drew | refine Ext.set ?_ (by dsimp only; omega) _ | refine Ext.trans ?_ (by assumption))))).mono ?_
        rintro e w4 ⟨rfl, h4⟩; obtain ⟨hc_w4, hf_w4, hz_w4⟩ := bcell h4; (repeat (first | rw [World.size_alloc] at hz_w4 | rw [World.size_drew] at hz_w4 | rw [World.size_setCell] at hz_w4)); have : w.heap.size < w4.heap.size := (by omega); have : w.heap.size + 1 < w4.heap.size := (by omega)
        go_wp2_with fail
        go_ret
        exact ⟨ret_i (by rw [HM.out]; simp), by (repeat' (first | exact Ext.refl _ | assumption | apply Ext.alloc | apply Ext.drew | refine Ext.set ?_ (by dsimp only; omega) _ | refine Ext.trans ?_ (by assumption)))⟩
  · have hT' : (trkErr s l != 0) = true := by simpa using hT
    have hT2 : Hid (missM s l ⟨gx, gy, gu, gv⟩ t0 = -2) := Lib.hid (by rw [HM.out, if_pos (.inl hT)])
    clear HM
    generalize trkErr s l = T at *
    clear hs hl hT
    go_enter Try.func38, Try.ntmps38
    go_wp2_with fail
    refine (HT.out _ (by (repeat' (first | exact Ext.refl _ | assumption | apply Ext.alloc | apply Ext.drew | refine Ext.set ?_ (by dsimp only; omega) _ | refine Ext.trans ?_ (by assumption))))).mono ?_
    rintro e w1 ⟨rfl, h1⟩; obtain ⟨hc_w1, hf_w1, hz_w1⟩ := bcell h1; (repeat (first | rw [World.size_alloc] at hz_w1 | rw [World.size_drew] at hz_w1 | rw [World.size_setCell] at hz_w1)); have : w.heap.size < w1.heap.size := (by omega); have : w.heap.size + 1 < w1.heap.size := (by omega)
    go_wp2_with fail
    go_ret
    exact ⟨ret_i (by rw [hT2.out]), by (repeat' (first | exact Ext.refl _ | assumption | apply Ext.alloc | apply Ext.drew | refine Ext.set ?_ (by dsimp only; omega) _ | refine Ext.trans ?_ (by assumption)))⟩
end Go.Proofs.Ytmgjjgmadiabfaa
