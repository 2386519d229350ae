/- Tracklets: their errors. No condition. -/
import Derived.Test.YtmgjjgmadiabfaaAwake
namespace Go.Proofs.Ytmgjjgmadiabfaa
open Go.RowKit

/-- The first error of sights, the tick before being `last`. -/
def trkFrom (s : Sky) : List Sight → Int → Int
  | [], _ => 0
  | x :: r, last => if sightErr2 s x ≠ 0 then sightErr2 s x else if x.tick < last then 11 else trkFrom s r x.tick
def trkErr (s : Sky) (l : List Sight) : Int :=
  if skyErr s ≠ 0 then skyErr s else if l.length = 0 then 6 else if 64 < l.length then 8 else trkFrom s l 0

set_option maxRecDepth 4000 in
set_option maxHeartbeats 1000000 in
theorem CheckTracklet_c (A1 : Option Addr) (n1 c1 : Nat) (home : Int) (A2 : Option Addr) (n2 c2 : Nat) (A3 : Option Addr) (n3 c3 : Nat) (s : Sky) (A : Option Addr) (n c : Nat) (l : List Sight) (w : World) (hs : IsSky w A1 n1 home A2 n2 A3 n3 s) (hl : Sights w A n l) :
    Calls Try.prog 36 #[.agg #[.slice A1 n1 c1, .int .i64 home, .slice A2 n2 c2, .slice A3 n3 c3], .slice A n c] w fun e w' => e = .returned (.int .i64 (trkErr s l)) ∧ Ext w w' := by
  have hn := hl.le
  have hln := Lib.hid hl.len
  have HC := Lib.hid fun W (hW : Ext w W) => Check_c A1 n1 c1 home A2 n2 c2 A3 n3 c3 s W (hs.ext hW)
  have HS := Lib.hid fun (x : Sight) W (hW : Ext w W) => CheckSight_c A1 n1 c1 home A2 n2 c2 A3 n3 c3 s x.kind x.station x.catalog x.tick x.dx x.dy x.err x.lo x.hi W (hs.ext hW)
  have HT : Hid (trkErr s l = if skyErr s ≠ 0 then skyErr s else if l.length = 0 then 6 else if 64 < l.length then 8 else trkFrom s l 0) := Lib.hid rfl
  by_cases hM : skyErr s = 0
  · rw [hM] at HC HT
    clear hM hs
    by_cases h8 : 1 ≤ n ∧ n ≤ 64
    · obtain ⟨h1, h8⟩ := h8
      have h0 : ((n : Int) == 0) = false := by simp; omega
      have HT2 : Hid (trkErr s l = trkFrom s l 0) := by
        have h4 := hln.out; have h5 := HT.out
        exact Lib.hid (by rw [h5, if_neg (by simp), if_neg (by omega), if_neg (by omega)])
      clear HT
      go_enter Try.func36, Try.ntmps36
      go_wp2_with fail
      refine (HC.out _ (by (repeat' (first | exact Ext.refl _ | assumption | apply Ext.alloc | apply Ext.drew | refine Ext.set ?_ (by dsimp only; omega) _ | refine Ext.trans ?_ (by assumption))))).mono ?_
      rintro e w1 ⟨rfl, h1⟩; obtain ⟨hc_w1, hf_w1, hz_w1⟩ := bcell h1; (repeat (first | rw [World.size_alloc] at hz_w1 | rw [World.size_drew] at hz_w1 | rw [World.size_setCell] at hz_w1)); have : w.heap.size < w1.heap.size := (by omega)
      go_wp2_with fail
      go_loopw [6, 25] (fun last i wr => ∃ (k : Nat) (m : Int), k ≤ n ∧ i = .int .i64 k ∧ last = .int .i64 m ∧ Hid (trkFrom s (l.drop k) m = trkFrom s l 0) ∧ Ext w1 wr) (fun _ i _ => n - (intOf i).toNat)
      case atStart => exact ⟨0, 0, Nat.zero_le _, rfl, rfl, rfl, Ext.refl _⟩
      case round =>
        obtain ⟨k, m, hk, rfl, rfl, HI, hb⟩ := hrel
        obtain ⟨hcb, hfb, hzb⟩ := bcell hb
        by_cases hlt : k < n
        · obtain ⟨b, off, x, rfl, HD, hxm, hx⟩ := hl.one hlt
          obtain ⟨hx0, hx1, hx2, hx3, hx4, hx5, hx6, hx7, hx8⟩ := sightAt.ext (Ext.trans (by (repeat' (first | exact Ext.refl _ | assumption | apply Ext.alloc | apply Ext.drew | refine Ext.set ?_ (by dsimp only; omega) _ | refine Ext.trans ?_ (by assumption)))) hb) hx
          have hi := HI.out; rw [HD.out, trkFrom] at hi
          have hcx := HS.out x
          generalize sightErr2 s x = M at hi hcx
          have HSx := Lib.hid hcx; clear hcx
          have Hi := Lib.hid hi; clear hi
          have hwr0 : w.heap.size < wr.heap.size := by omega
          go_wp2_with fail
          refine (HSx.out _ (by (repeat' (first | exact Ext.refl _ | assumption | apply Ext.alloc | apply Ext.drew | refine Ext.set ?_ (by dsimp only; omega) _ | refine Ext.trans ?_ (by assumption))))).mono ?_
          rintro e w2 ⟨rfl, h2⟩; obtain ⟨hc2, hf2, hz2⟩ := bcell h2
          rw [World.size_alloc] at hz2
          have hwr1 : wr.heap.size < w2.heap.size := by omega
          by_cases hp : M = 0
          · subst hp
            have hi := Hi.out; rw [if_neg (by simp)] at hi
            by_cases ht : x.tick < m
            · rw [if_pos ht] at hi
              have Hj := Lib.hid hi; clear hi
              go_wp2_with fail
              go_ret
              exact ⟨ret_i (by rw [HT2.out, ← Hj.out]), by (repeat' (first | exact Ext.refl _ | assumption | apply Ext.alloc | apply Ext.drew | refine Ext.set ?_ (by dsimp only; omega) _ | refine Ext.trans ?_ (by assumption)))⟩
            · have ht' : m ≤ x.tick := by omega
              rw [if_neg ht] at hi
              have Hj := Lib.hid hi; clear hi
              clear ht
              go_wp2_with fail
              go_roundw
              case rel => exact ⟨k + 1, x.tick, by omega, by go_num, rfl, Hj, by (repeat' (first | exact Ext.refl _ | assumption | apply Ext.alloc | apply Ext.drew | refine Ext.set ?_ (by dsimp only; omega) _ | refine Ext.trans ?_ (by assumption)))⟩
              case measure => simp [intOf]; omega
          · have hp' : (M != 0) = true := by simpa using hp
            have hi := Hi.out; rw [if_pos hp] at hi
            have Hj := Lib.hid hi; clear hi
            go_wp2_with fail
            go_ret
            exact ⟨ret_i (by rw [HT2.out, ← Hj.out]), by (repeat' (first | exact Ext.refl _ | assumption | apply Ext.alloc | apply Ext.drew | refine Ext.set ?_ (by dsimp only; omega) _ | refine Ext.trans ?_ (by assumption)))⟩
        · have : k = n := by omega
          subst this
          have hi := HI.out; rw [hln.out, List.drop_length, trkFrom] at hi
          have Hj := Lib.hid hi; clear hi
          go_wp2_with fail
          go_ret
          exact ⟨ret_i (by rw [HT2.out, ← Hj.out]), by (repeat' (first | exact Ext.refl _ | assumption | apply Ext.alloc | apply Ext.drew | refine Ext.set ?_ (by dsimp only; omega) _ | refine Ext.trans ?_ (by assumption)))⟩
    · by_cases h0 : n = 0
      · have HT2 : Hid (trkErr s l = 6) := by
          have h4 := hln.out; have h5 := HT.out
          exact Lib.hid (by rw [h5, if_neg (by simp), if_pos (by omega)])
        have h0' : ((n : Int) == 0) = true := by simp; omega
        go_enter Try.func36, Try.ntmps36
        go_wp2_with fail
        refine (HC.out _ (by (repeat' (first | exact Ext.refl _ | assumption | apply Ext.alloc | apply Ext.drew | refine Ext.set ?_ (by dsimp only; omega) _ | refine Ext.trans ?_ (by assumption))))).mono ?_
        rintro e w1 ⟨rfl, h1⟩; obtain ⟨hc_w1, hf_w1, hz_w1⟩ := bcell h1; (repeat (first | rw [World.size_alloc] at hz_w1 | rw [World.size_drew] at hz_w1 | rw [World.size_setCell] at hz_w1)); have : w.heap.size < w1.heap.size := (by omega)
        go_wp2_with fail
        go_ret
        exact ⟨ret_i (by rw [HT2.out]), by (repeat' (first | exact Ext.refl _ | assumption | apply Ext.alloc | apply Ext.drew | refine Ext.set ?_ (by dsimp only; omega) _ | refine Ext.trans ?_ (by assumption)))⟩
      · have HT2 : Hid (trkErr s l = 8) := by
          have h4 := hln.out; have h5 := HT.out
          exact Lib.hid (by rw [h5, if_neg (by simp), if_neg (by omega), if_pos (by omega)])
        have h0' : ((n : Int) == 0) = false := by simp; omega
        have h9 : 64 < n := by omega
        clear h8 h0
        go_enter Try.func36, Try.ntmps36
        go_wp2_with fail
        refine (HC.out _ (by (repeat' (first | exact Ext.refl _ | assumption | apply Ext.alloc | apply Ext.drew | refine Ext.set ?_ (by dsimp only; omega) _ | refine Ext.trans ?_ (by assumption))))).mono ?_
        rintro e w1 ⟨rfl, h1⟩; obtain ⟨hc_w1, hf_w1, hz_w1⟩ := bcell h1; (repeat (first | rw [World.size_alloc] at hz_w1 | rw [World.size_drew] at hz_w1 | rw [World.size_setCell] at hz_w1)); have : w.heap.size < w1.heap.size := (by omega)
        go_wp2_with fail
        go_ret
        exact ⟨ret_i (by rw [HT2.out]), by (repeat' (first | exact Ext.refl _ | assumption | apply Ext.alloc | apply Ext.drew | refine Ext.set ?_ (by dsimp only; omega) _ | refine Ext.trans ?_ (by assumption)))⟩
  · have hM' : (skyErr s != 0) = true := by simpa using hM
    go_enter Try.func36, Try.ntmps36
    go_wp2_with fail
    refine (HC.out _ (by (repeat' (first | exact Ext.refl _ | assumption | apply Ext.alloc | apply Ext.drew | refine Ext.set ?_ (by dsimp only; omega) _ | refine Ext.trans ?_ (by assumption))))).mono ?_
    rintro e w1 ⟨rfl, h1⟩; obtain ⟨hc_w1, hf_w1, hz_w1⟩ := bcell h1; (repeat (first | rw [World.size_alloc] at hz_w1 | rw [World.size_drew] at hz_w1 | rw [World.size_setCell] at hz_w1)); have : w.heap.size < w1.heap.size := (by omega)
    go_wp2_with fail
    go_ret
    exact ⟨ret_i (by rw [HT.out, if_pos hM]), by (repeat' (first | exact Ext.refl _ | assumption | apply Ext.alloc | apply Ext.drew | refine Ext.set ?_ (by dsimp only; omega) _ | refine Ext.trans ?_ (by assumption)))⟩
end Go.Proofs.Ytmgjjgmadiabfaa
