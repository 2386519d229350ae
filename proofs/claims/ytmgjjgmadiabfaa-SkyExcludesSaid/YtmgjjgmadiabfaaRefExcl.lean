/- Whether a sight excludes an area: pieces of the reference. No condition. -/
import Derived.Test.YtmgjjgmadiabfaaExcludes3
namespace Go.Proofs.Ytmgjjgmadiabfaa
open Go.RowKit

set_option maxRecDepth 4000 in
set_option maxHeartbeats 1000000 in
theorem refCheckArea_c (xl xh yl yh : Int) (w : World) :
    Calls Try.prog 92 #[.agg #[.int .i64 xl, .int .i64 xh, .int .i64 yl, .int .i64 yh]] w fun e w' => e = .returned (.bool (rightA xl xh yl yh)) ∧ Ext w w' := by
  have H1 := Lib.hid fun W => Near_c xl yl W
  have H2 := Lib.hid fun W => Near_c xh yh W
  have HM : Hid (rightA xl xh yl yh = (decide (xl ≤ xh) && decide (yl ≤ yh) && near ⟨xl, yl⟩ 33554432 && near ⟨xh, yh⟩ 33554432)) := by
    show _ = _
    rw [Bool.eq_iff_iff, rightA_iff]
    simp only [Bool.and_eq_true, decide_eq_true_eq, near_iff]
    omega
  generalize rightA xl xh yl yh = R at *
  generalize near ⟨xl, yl⟩ 33554432 = n1 at *
  generalize near ⟨xh, yh⟩ 33554432 = n2 at *
  by_cases hx : xl ≤ xh
  · by_cases hy : yl ≤ yh
    · go_enter Try.func92, Try.ntmps92
      go_wp2_with fail
      refine (H1.out _).mono ?_
      rintro e w1 ⟨rfl, h1⟩; obtain ⟨hc_w1, hf_w1, hz_w1⟩ := bcell h1; (repeat (first | rw [World.size_alloc] at hz_w1 | rw [World.size_drew] at hz_w1 | rw [World.size_setCell] at hz_w1)); have : w.heap.size < w1.heap.size := (by omega)
      cases n1
      · go_wp2_with fail
        go_ret
        exact ⟨ret_b (by rw [HM.out]; simp), by (repeat' (first | exact Ext.refl _ | assumption | apply Ext.alloc | apply Ext.drew | refine Ext.set ?_ (by dsimp only; omega) _ | refine Ext.trans ?_ (by assumption)))⟩
      · go_wp2_with fail
        refine (H2.out _).mono ?_
        rintro e w2 ⟨rfl, h2⟩; obtain ⟨hc_w2, hf_w2, hz_w2⟩ := bcell h2; (repeat (first | rw [World.size_alloc] at hz_w2 | rw [World.size_drew] at hz_w2 | rw [World.size_setCell] at hz_w2)); have : w.heap.size < w2.heap.size := (by omega)
        go_wp2_with fail
        go_ret
        exact ⟨ret_b (by rw [HM.out]; simp [hx, hy]), by (repeat' (first | exact Ext.refl _ | assumption | apply Ext.alloc | apply Ext.drew | refine Ext.set ?_ (by dsimp only; omega) _ | refine Ext.trans ?_ (by assumption)))⟩
    · have hy' : yh < yl := by omega
      go_enter Try.func92, Try.ntmps92
      go_wp2_with fail
      go_ret
      exact ⟨ret_b (by rw [HM.out]; simp; intro _ h; omega), by (repeat' (first | exact Ext.refl _ | assumption | apply Ext.alloc | apply Ext.drew | refine Ext.set ?_ (by dsimp only; omega) _ | refine Ext.trans ?_ (by assumption)))⟩
  · have hx' : xh < xl := by omega
    go_enter Try.func92, Try.ntmps92
    go_wp2_with fail
    go_ret
    exact ⟨ret_b (by rw [HM.out]; simp; intro h; omega), by (repeat' (first | exact Ext.refl _ | assumption | apply Ext.alloc | apply Ext.drew | refine Ext.set ?_ (by dsimp only; omega) _ | refine Ext.trans ?_ (by assumption)))⟩

theorem four {α : Type} {a b c d : α} {P : α → Nat → Prop} (h0 : P a 0) (h1 : P b 1) (h2 : P c 2) (h3 : P d 3) : ∀ k (h : k < [a, b, c, d].length), P ([a, b, c, d][k]) k
  | 0, _ => h0
  | 1, _ => h1
  | 2, _ => h2
  | 3, _ => h3

set_option maxRecDepth 4000 in
set_option maxHeartbeats 1000000 in
theorem refcorners_c (xl xh yl yh : Int) (w : World) :
    Calls Try.prog 93 #[.agg #[.int .i64 xl, .int .i64 xh, .int .i64 yl, .int .i64 yh]] w fun e w' => ∃ A c, e = .returned (.slice A 4 c) ∧ Vecs w' A 4 (cornersL xl xh yl yh) ∧ Ext w w' := by
  go_enter Try.func93, Try.ntmps93
  go_wp2_with fail
  go_ret
  refine ⟨_, _, rfl, ⟨rfl, by decide, .inr ⟨_, 0, rfl, ?_⟩⟩, by (repeat' (first | exact Ext.refl _ | assumption | apply Ext.alloc | apply Ext.drew | refine Ext.set ?_ (by dsimp only; omega) _ | refine Ext.trans ?_ (by assumption)))⟩
  have hB : Blk ((w.alloc (.cells #[.int .i64 xl, .int .i64 xh, .int .i64 yl, .int .i64 yh] 61)).alloc (.cells #[.int .i64 xl, .int .i64 yl, .int .i64 xl, .int .i64 yh, .int .i64 xh, .int .i64 yl, .int .i64 xh, .int .i64 yh] 30)) (w.heap.size + 1) 30 #[.int .i64 xl, .int .i64 yl, .int .i64 xl, .int .i64 yh, .int .i64 xh, .int .i64 yl, .int .i64 xh, .int .i64 yh] := Blk.newAt (by simp)
  exact four (P := fun x k => vecAt _ x (w.heap.size + 1) (0 + k * 2)) ⟨hB.cell 0, hB.cell 1⟩ ⟨hB.cell 2, hB.cell 3⟩ ⟨hB.cell 4, hB.cell 5⟩ ⟨hB.cell 6, hB.cell 7⟩

/-- How many of the first k. -/
def cntP (p : Vec → Bool) (L : List Vec) (k : Nat) : Nat := (L.take k).countP p
theorem cntP_zero (p : Vec → Bool) (L : List Vec) : cntP p L 0 = 0 := rfl
theorem cntP_le (p : Vec → Bool) (L : List Vec) (k : Nat) : cntP p L k ≤ k := Nat.le_trans List.countP_le_length (by rw [List.length_take]; omega)
theorem cntP_succ {p : Vec → Bool} {L : List Vec} {k : Nat} {x : Vec} (h : L.drop k = x :: L.drop (k + 1)) : cntP p L (k + 1) = cntP p L k + if p x then 1 else 0 := by
  unfold cntP
  rw [take_snoc h, List.countP_append]
  simp [List.countP_cons]
theorem cntP_all {p : Vec → Bool} {L : List Vec} (h : L.length = 4) : decide ((cntP p L 4 : Int) = 4) = L.all p := by
  unfold cntP
  rw [List.take_of_length_le (by omega), Bool.eq_iff_iff, decide_eq_true_eq, List.all_eq_true, ← List.countP_eq_length]
  omega
end Go.Proofs.Ytmgjjgmadiabfaa
