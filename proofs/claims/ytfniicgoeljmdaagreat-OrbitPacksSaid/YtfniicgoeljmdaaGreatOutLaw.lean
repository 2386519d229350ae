/- Places of areas that are excluded do not agree: the plain law. No condition. -/
import Derived.Test.YtfniicgoeljmdaaGreatExcludes3
import Derived.Test.YtfniicgoeljmdaaGreatSpan
namespace Go.Proofs.YtfniicgoeljmdaaGreat
open Go.RowKit

def BoxP (P : Int → Int → Bool) : Prop := ∀ xl xh yl yh x y, xl ≤ x → x ≤ xh → yl ≤ y → y ≤ yh → P xl yl = true → P xl yh = true → P xh yl = true → P xh yh = true → P x y = true

theorem mul_end (U f xl xh x : Int) (h1 : xl ≤ x) (h2 : x ≤ xh) : U * (x - f) ≤ U * (xl - f) ∨ U * (x - f) ≤ U * (xh - f) := by
  rcases Int.le_total 0 U with h | h
  · exact .inr (Int.mul_le_mul_of_nonneg_left (by omega) h)
  · exact .inl (Int.mul_le_mul_of_nonpos_left h (by omega))
theorem sq_end (f xl xh x : Int) (h1 : xl ≤ x) (h2 : x ≤ xh) : (x - f) * (x - f) ≤ (xl - f) * (xl - f) ∨ (x - f) * (x - f) ≤ (xh - f) * (xh - f) := by
  have hm : ∀ a b : Int, 0 ≤ a → a ≤ b → a * a ≤ b * b := fun a b h0 h => Int.mul_le_mul h h h0 (by omega)
  rcases Int.le_total 0 (x - f) with h | h
  · exact .inr (hm _ _ h (by omega))
  · left
    have := hm (-(x - f)) (-(xl - f)) (by omega) (by omega)
    rwa [Int.neg_mul_neg, Int.neg_mul_neg] at this
def Half (P : Int → Int → Bool) : Prop := ∃ U V fx fy C, ∀ x y, P x y = true ↔ U * (x - fx) + V * (y - fy) ≤ C
theorem Half.box {P : Int → Int → Bool} (h : Half P) : BoxP P := by
  obtain ⟨U, V, fx, fy, C, h⟩ := h
  intro xl xh yl yh x y h1 h2 h3 h4 c1 c2 c3 c4
  rw [h] at c1 c2 c3 c4 ⊢
  rcases mul_end U fx xl xh x h1 h2 with a | a <;> rcases mul_end V fy yl yh y h3 h4 with b | b <;> omega
theorem BoxP.and {P Q : Int → Int → Bool} (hp : BoxP P) (hq : BoxP Q) : BoxP fun x y => P x y && Q x y := by
  intro xl xh yl yh x y h1 h2 h3 h4 c1 c2 c3 c4
  simp only [Bool.and_eq_true] at c1 c2 c3 c4 ⊢
  exact ⟨hp xl xh yl yh x y h1 h2 h3 h4 c1.1 c2.1 c3.1 c4.1, hq xl xh yl yh x y h1 h2 h3 h4 c1.2 c2.2 c3.2 c4.2⟩
theorem turn (fx fy dx dy k x y : Int) : k * dotD fx fy dx dy x y - 1000000 * crossD fx fy dx dy x y = (k * dx + 1000000 * dy) * (x - fx) + (k * dy - 1000000 * dx) * (y - fy) := by
  unfold dotD crossD
  generalize x - fx = u
  generalize y - fy = v
  simp only [Int.mul_add, Int.add_mul, Int.sub_mul, Int.mul_sub, Int.mul_assoc]
  omega
section
variable (fx fy dx dy k : Int)
theorem half_behind : Half fun x y => behindB fx fy dx dy x y := ⟨dx, dy, fx, fy, 0, fun x y => by
  simp only [behindB, decide_eq_true_eq]; unfold dotD; exact Iff.rfl⟩
theorem half_front : Half fun x y => !behindB fx fy dx dy x y := ⟨-dx, -dy, fx, fy, -1, fun x y => by
  simp only [behindB, Bool.not_eq_true', decide_eq_false_iff_not, Int.neg_mul]; unfold dotD; omega⟩
theorem half_below : Half fun x y => belowB fx fy dx dy k x y := ⟨-(k * dx + 1000000 * dy), -(k * dy - 1000000 * dx), fx, fy, -1, fun x y => by
  have := turn fx fy dx dy k x y
  simp only [belowB, decide_eq_true_eq, Int.neg_mul]; omega⟩
theorem half_over : Half fun x y => !belowB fx fy dx dy k x y := ⟨(k * dx + 1000000 * dy), (k * dy - 1000000 * dx), fx, fy, 0, fun x y => by
  have := turn fx fy dx dy k x y
  simp only [belowB, Bool.not_eq_true', decide_eq_false_iff_not]; omega⟩
theorem half_above : Half fun x y => aboveB fx fy dx dy k x y := ⟨(k * dx + 1000000 * dy), (k * dy - 1000000 * dx), fx, fy, -1, fun x y => by
  have := turn fx fy dx dy k x y
  simp only [aboveB, decide_eq_true_eq]; omega⟩
theorem half_under : Half fun x y => !aboveB fx fy dx dy k x y := ⟨-(k * dx + 1000000 * dy), -(k * dy - 1000000 * dx), fx, fy, 0, fun x y => by
  have := turn fx fy dx dy k x y
  simp only [aboveB, Bool.not_eq_true', decide_eq_false_iff_not, Int.neg_mul]; omega⟩
theorem box_in (lo hi : Int) : BoxP fun x y => inB fx fy dx dy lo hi x y := ((half_front fx fy dx dy).box.and (half_over fx fy dx dy lo).box).and (half_under fx fy dx dy hi).box
theorem box_near (C : Int) : BoxP fun x y => decide (distD x y fx fy ≤ C) := by
  intro xl xh yl yh x y h1 h2 h3 h4 c1 c2 c3 c4
  simp only [decide_eq_true_eq] at c1 c2 c3 c4 ⊢
  unfold distD at c1 c2 c3 c4 ⊢
  rcases sq_end fx xl xh x h1 h2 with a | a <;> rcases sq_end fy yl yh y h3 h4 with b | b <;> omega
theorem box_lt (C : Int) : BoxP fun x y => decide (distD x y fx fy < C) := by
  intro xl xh yl yh x y h1 h2 h3 h4 c1 c2 c3 c4
  simp only [decide_eq_true_eq] at c1 c2 c3 c4 ⊢
  unfold distD at c1 c2 c3 c4 ⊢
  rcases sq_end fx xl xh x h1 h2 with a | a <;> rcases sq_end fy yl yh y h3 h4 with b | b <;> omega
end
theorem BoxP.all {P : Int → Int → Bool} (hp : BoxP P) {xl xh yl yh : Int} (h : ((cornersL xl xh yl yh).all fun p => P p.x p.y) = true) {x y : Int} (h1 : xl ≤ x) (h2 : x ≤ xh) (h3 : yl ≤ y) (h4 : y ≤ yh) : P x y = true := by
  simp only [cornersL, List.all_cons, List.all_nil, Bool.and_true, Bool.and_eq_true] at h
  exact hp xl xh yl yh x y h1 h2 h3 h4 h.1 h.2.1 h.2.2.1 h.2.2.2
theorem BoxP.part {P : Int → Int → Bool} (hp : BoxP P) {xl xh yl yh xl' xh' yl' yh' : Int} (h : ((cornersL xl xh yl yh).all fun p => P p.x p.y) = true) (h1 : xl ≤ xl') (h2 : xl' ≤ xh') (h3 : xh' ≤ xh) (h4 : yl ≤ yl') (h5 : yl' ≤ yh') (h6 : yh' ≤ yh) :
    ((cornersL xl' xh' yl' yh').all fun p => P p.x p.y) = true := by
  simp only [cornersL, List.all_cons, List.all_nil, Bool.and_true, Bool.and_eq_true]
  exact ⟨hp.all h (by omega) (by omega) (by omega) (by omega), hp.all h (by omega) (by omega) (by omega) (by omega), hp.all h (by omega) (by omega) (by omega) (by omega), hp.all h (by omega) (by omega) (by omega) (by omega)⟩
theorem near_least (n lo hi x : Int) (h1 : lo ≤ x) (h2 : x ≤ hi) : (nearM n lo hi - n) * (nearM n lo hi - n) ≤ (x - n) * (x - n) := by
  have hm : ∀ a b : Int, 0 ≤ a → a ≤ b → a * a ≤ b * b := fun a b h0 h => Int.mul_le_mul h h h0 (by omega)
  have hc : nearM n lo hi = n ∨ (nearM n lo hi = lo ∧ n ≤ lo) ∨ (nearM n lo hi = hi ∧ hi ≤ n) := by unfold nearM; omega
  rcases hc with h | ⟨h, h3⟩ | ⟨h, h3⟩
  · rw [h, Int.sub_self]
    have : 0 ≤ (x - n) * (x - n) := by
      rcases Int.le_total 0 (x - n) with k | k
      · exact Int.mul_nonneg k k
      · exact Int.mul_nonneg_of_nonpos_of_nonpos k k
    simpa using this
  · rw [h]; exact hm _ _ (by omega) (by omega)
  · rw [h]
    have := hm (-(hi - n)) (-(x - n)) (by omega) (by omega)
    rwa [Int.neg_mul_neg, Int.neg_mul_neg] at this

section
variable (s : Sky) (x : Sight) {xl xh yl yh : Int}
theorem excl_agrees (he : exclM s x (cornersL xl xh yl yh) (nearestP s x xl xh yl yh) = true) {px py : Int} (h1 : xl ≤ px) (h2 : px ≤ xh) (h3 : yl ≤ py) (h4 : py ≤ yh) : agreesM s x px py = false := by
  unfold exclM at he
  unfold agreesM
  by_cases h : x.kind = 2
  · rw [if_pos h] at he ⊢
    rw [Bool.or_eq_true, decide_eq_true_eq] at he
    rcases he with he | he
    · have a := near_least (orig s x).x xl xh px h1 h2
      have b := near_least (orig s x).y yl yh py h3 h4
      simp only [nearestP, distD] at he
      simp only [within, Bool.and_eq_false_iff, decide_eq_false_iff_not]
      unfold distD
      omega
    · have := (box_lt (orig s x).x (orig s x).y (x.lo * x.lo)).all he h1 h2 h3 h4
      simp only [decide_eq_true_eq] at this
      simp only [within, Bool.and_eq_false_iff, decide_eq_false_iff_not]
      omega
  · rw [if_neg h] at he ⊢
    by_cases h' : x.kind = 1
    · rw [if_pos h'] at he ⊢
      simp only [Bool.or_eq_true] at he
      unfold inB
      rcases he with (he | he) | he
      · have := (half_behind (orig s x).x (orig s x).y x.dx x.dy).box.all he h1 h2 h3 h4
        rw [this]; rfl
      · have := (half_below (orig s x).x (orig s x).y x.dx x.dy (biasLo s x)).box.all he h1 h2 h3 h4
        rw [this]; simp
      · have := (half_above (orig s x).x (orig s x).y x.dx x.dy (biasHi s x)).box.all he h1 h2 h3 h4
        rw [this]; simp
    · rw [if_neg h'] at he ⊢
      have := ((box_in (orig s x).x (orig s x).y x.dx x.dy (biasLo s x) (biasHi s x)).and (box_near (orig s x).x (orig s x).y (x.hi * x.hi))).all he h1 h2 h3 h4
      simp only [Bool.and_eq_true, decide_eq_true_eq] at this
      rw [this.1, Bool.not_true, Bool.false_or, decide_eq_false_iff_not]
      omega
end
end Go.Proofs.YtfniicgoeljmdaaGreat
