/- Places of areas that are excluded do not agree: the plain law. No condition. -/
import Derived.Test.YtmgjjgmadiabfaaExcludes
import Derived.Test.YtmgjjgmadiabfaaAgree
namespace Go.Proofs.Ytmgjjgmadiabfaa
open Go.RowKit

/-- What holds at the four corners of a box holds in it. -/
def BoxP (P : Int → Int → Bool) : Prop := ∀ xl xh yl yh x y, xl ≤ x → x ≤ xh → yl ≤ y → y ≤ yh → P xl yl = true → P xl yh = true → P xh yl = true → P xh yh = true → P x y = true

theorem mul_end (U f xl xh x : Int) (h1 : xl ≤ x) (h2 : x ≤ xh) : U * (x - f) ≤ U * (xl - f) ∨ U * (x - f) ≤ U * (xh - f) := by
  rcases Int.le_total 0 U with h | h
  · exact .inr (Int.mul_le_mul_of_nonneg_left (by omega) h)
  · exact .inl (Int.mul_le_mul_of_nonpos_left h (by omega))
theorem sq_end (f xl xh x : Int) (h1 : xl ≤ x) (h2 : x ≤ xh) : (x - f) * (x - f) ≤ (xl - f) * (xl - f) ∨ (x - f) * (x - f) ≤ (xh - f) * (xh - f) := by
  have hm : ∀ a b : Int, 0 ≤ a → a ≤ b → a * a ≤ b * b := fun a b h0 h => Int.mul_le_mul h h h0 (by omega)
  rcases Int.le_total 0 (x - f) with h | h
  · exact .inr (hm _ _ h (by omega))
  · left
    have := hm (-(x - f)) (-(xl - f)) (by omega) (by omega)
    rwa [Int.neg_mul_neg, Int.neg_mul_neg] at this
/-- A half-plane. -/
def Half (P : Int → Int → Bool) : Prop := ∃ U V fx fy C, ∀ x y, P x y = true ↔ U * (x - fx) + V * (y - fy) ≤ C
theorem Half.box {P : Int → Int → Bool} (h : Half P) : BoxP P := by
  obtain ⟨U, V, fx, fy, C, h⟩ := h
  intro xl xh yl yh x y h1 h2 h3 h4 c1 c2 c3 c4
  rw [h] at c1 c2 c3 c4 ⊢
  rcases mul_end U fx xl xh x h1 h2 with a | a <;> rcases mul_end V fy yl yh y h3 h4 with b | b <;> omega
theorem BoxP.and {P Q : Int → Int → Bool} (hp : BoxP P) (hq : BoxP Q) : BoxP fun x y => P x y && Q x y := by
  intro xl xh yl yh x y h1 h2 h3 h4 c1 c2 c3 c4
  simp only [Bool.and_eq_true] at c1 c2 c3 c4 ⊢
  exact ⟨hp xl xh yl yh x y h1 h2 h3 h4 c1.1 c2.1 c3.1 c4.1, hq xl xh yl yh x y h1 h2 h3 h4 c1.2 c2.2 c3.2 c4.2⟩
theorem turn (fx fy dx dy k x y : Int) : k * dotD fx fy dx dy x y - 1000000 * crossD fx fy dx dy x y = (k * dx + 1000000 * dy) * (x - fx) + (k * dy - 1000000 * dx) * (y - fy) := by
  unfold dotD crossD
  generalize x - fx = u
  generalize y - fy = v
  simp only [Int.mul_add, Int.add_mul, Int.sub_mul, Int.mul_sub, Int.mul_assoc]
  omega
section
variable (fx fy dx dy k : Int)
theorem half_behind : Half fun x y => behindB fx fy dx dy x y := ⟨dx, dy, fx, fy, 0, fun x y => by
  simp only [behindB, decide_eq_true_eq]; unfold dotD; exact Iff.rfl⟩
theorem half_front : Half fun x y => !behindB fx fy dx dy x y := ⟨-dx, -dy, fx, fy, -1, fun x y => by
  simp only [behindB, Bool.not_eq_true', decide_eq_false_iff_not, Int.neg_mul]; unfold dotD; omega⟩
theorem half_below : Half fun x y => belowB fx fy dx dy k x y := ⟨-(k * dx + 1000000 * dy), -(k * dy - 1000000 * dx), fx, fy, -1, fun x y => by
  have := turn fx fy dx dy k x y
  simp only [belowB, decide_eq_true_eq, Int.neg_mul]; omega⟩
theorem half_over : Half fun x y => !belowB fx fy dx dy k x y := ⟨(k * dx + 1000000 * dy), (k * dy - 1000000 * dx), fx, fy, 0, fun x y => by
  have := turn fx fy dx dy k x y
  simp only [belowB, Bool.not_eq_true', decide_eq_false_iff_not]; omega⟩
theorem half_above : Half fun x y => aboveB fx fy dx dy k x y := ⟨(k * dx + 1000000 * dy), (k * dy - 1000000 * dx), fx, fy, -1, fun x y => by
  have := turn fx fy dx dy k x y
  simp only [aboveB, decide_eq_true_eq]; omega⟩
theorem half_under : Half fun x y => !aboveB fx fy dx dy k x y := ⟨-(k * dx + 1000000 * dy), -(k * dy - 1000000 * dx), fx, fy, 0, fun x y => by
  have := turn fx fy dx dy k x y
  simp only [aboveB, Bool.not_eq_true', decide_eq_false_iff_not, Int.neg_mul]; omega⟩
theorem box_in (lo hi : Int) : BoxP fun x y => inB fx fy dx dy lo hi x y := ((half_front fx fy dx dy).box.and (half_over fx fy dx dy lo).box).and (half_under fx fy dx dy hi).box
theorem box_near (C : Int) : BoxP fun x y => decide (distD x y fx fy ≤ C) := by
  intro xl xh yl yh x y h1 h2 h3 h4 c1 c2 c3 c4
  simp only [decide_eq_true_eq] at c1 c2 c3 c4 ⊢
  unfold distD at c1 c2 c3 c4 ⊢
  rcases sq_end fx xl xh x h1 h2 with a | a <;> rcases sq_end fy yl yh y h3 h4 with b | b <;> omega
theorem box_lt (C : Int) : BoxP fun x y => decide (distD x y fx fy < C) := by
  intro xl xh yl yh x y h1 h2 h3 h4 c1 c2 c3 c4
  simp only [decide_eq_true_eq] at c1 c2 c3 c4 ⊢
  unfold distD at c1 c2 c3 c4 ⊢
  rcases sq_end fx xl xh x h1 h2 with a | a <;> rcases sq_end fy yl yh y h3 h4 with b | b <;> omega
end
/-- All corners. -/
theorem BoxP.all {P : Int → Int → Bool} (hp : BoxP P) {xl xh yl yh : Int} (h : ((cornersL xl xh yl yh).all fun p => P p.x p.y) = true) {x y : Int} (h1 : xl ≤ x) (h2 : x ≤ xh) (h3 : yl ≤ y) (h4 : y ≤ yh) : P x y = true := by
  simp only [cornersL, List.all_cons, List.all_nil, Bool.and_true, Bool.and_eq_true] at h
  exact hp xl xh yl yh x y h1 h2 h3 h4 h.1 h.2.1 h.2.2.1 h.2.2.2
theorem BoxP.part {P : Int → Int → Bool} (hp : BoxP P) {xl xh yl yh xl' xh' yl' yh' : Int} (h : ((cornersL xl xh yl yh).all fun p => P p.x p.y) = true) (h1 : xl ≤ xl') (h2 : xl' ≤ xh') (h3 : xh' ≤ xh) (h4 : yl ≤ yl') (h5 : yl' ≤ yh') (h6 : yh' ≤ yh) :
    ((cornersL xl' xh' yl' yh').all fun p => P p.x p.y) = true := by
  simp only [cornersL, List.all_cons, List.all_nil, Bool.and_true, Bool.and_eq_true]
  exact ⟨hp.all h (by omega) (by omega) (by omega) (by omega), hp.all h (by omega) (by omega) (by omega) (by omega), hp.all h (by omega) (by omega) (by omega) (by omega), hp.all h (by omega) (by omega) (by omega) (by omega)⟩
theorem all_one (P : Int → Int → Bool) (x y : Int) : ((cornersL x x y y).all fun p => P p.x p.y) = P x y := by
  simp only [cornersL, List.all_cons, List.all_nil, Bool.and_true]
  cases P x y <;> rfl
theorem near_in (n lo hi : Int) (h : lo ≤ hi) : lo ≤ nearM n lo hi ∧ nearM n lo hi ≤ hi := by unfold nearM; omega
theorem near_least (n lo hi x : Int) (h1 : lo ≤ x) (h2 : x ≤ hi) : (nearM n lo hi - n) * (nearM n lo hi - n) ≤ (x - n) * (x - n) := by
  have hm : ∀ a b : Int, 0 ≤ a → a ≤ b → a * a ≤ b * b := fun a b h0 h => Int.mul_le_mul h h h0 (by omega)
  have hc : nearM n lo hi = n ∨ (nearM n lo hi = lo ∧ n ≤ lo) ∨ (nearM n lo hi = hi ∧ hi ≤ n) := by unfold nearM; omega
  rcases hc with h | ⟨h, h3⟩ | ⟨h, h3⟩
  · rw [h, Int.sub_self]
    have : 0 ≤ (x - n) * (x - n) := by
      rcases Int.le_total 0 (x - n) with k | k
      · exact Int.mul_nonneg k k
      · exact Int.mul_nonneg_of_nonpos_of_nonpos k k
    simpa using this
  · rw [h]; exact hm _ _ (by omega) (by omega)
  · rw [h]
    have := hm (-(hi - n)) (-(x - n)) (by omega) (by omega)
    rwa [Int.neg_mul_neg, Int.neg_mul_neg] at this

section
variable (s : Sky) (x : Sight) {xl xh yl yh : Int}
theorem excl_agrees (he : exclM s x (cornersL xl xh yl yh) (nearestP s x xl xh yl yh) = true) {px py : Int} (h1 : xl ≤ px) (h2 : px ≤ xh) (h3 : yl ≤ py) (h4 : py ≤ yh) : agreesM s x px py = false := by
  unfold exclM at he
  unfold agreesM
  by_cases h : x.kind = 2
  · rw [if_pos h] at he ⊢
    rw [Bool.or_eq_true, decide_eq_true_eq] at he
    rcases he with he | he
    · have a := near_least (orig s x).x xl xh px h1 h2
      have b := near_least (orig s x).y yl yh py h3 h4
      simp only [nearestP, distD] at he
      simp only [within, Bool.and_eq_false_iff, decide_eq_false_iff_not]
      unfold distD
      omega
    · have := (box_lt (orig s x).x (orig s x).y (x.lo * x.lo)).all he h1 h2 h3 h4
      simp only [decide_eq_true_eq] at this
      simp only [within, Bool.and_eq_false_iff, decide_eq_false_iff_not]
      omega
  · rw [if_neg h] at he ⊢
    by_cases h' : x.kind = 1
    · rw [if_pos h'] at he ⊢
      simp only [Bool.or_eq_true] at he
      unfold inB
      rcases he with (he | he) | he
      · have := (half_behind (orig s x).x (orig s x).y x.dx x.dy).box.all he h1 h2 h3 h4
        rw [this]; rfl
      · have := (half_below (orig s x).x (orig s x).y x.dx x.dy (biasLo s x)).box.all he h1 h2 h3 h4
        rw [this]; simp
      · have := (half_above (orig s x).x (orig s x).y x.dx x.dy (biasHi s x)).box.all he h1 h2 h3 h4
        rw [this]; simp
    · rw [if_neg h'] at he ⊢
      have := ((box_in (orig s x).x (orig s x).y x.dx x.dy (biasLo s x) (biasHi s x)).and (box_near (orig s x).x (orig s x).y (x.hi * x.hi))).all he h1 h2 h3 h4
      simp only [Bool.and_eq_true, decide_eq_true_eq] at this
      rw [this.1, Bool.not_true, Bool.false_or, decide_eq_false_iff_not]
      omega
theorem excl_part (he : exclM s x (cornersL xl xh yl yh) (nearestP s x xl xh yl yh) = true) {xl' xh' yl' yh' : Int} (h1 : xl ≤ xl') (h2 : xl' ≤ xh') (h3 : xh' ≤ xh) (h4 : yl ≤ yl') (h5 : yl' ≤ yh') (h6 : yh' ≤ yh) :
    exclM s x (cornersL xl' xh' yl' yh') (nearestP s x xl' xh' yl' yh') = true := by
  unfold exclM at he ⊢
  by_cases h : x.kind = 2
  · rw [if_pos h] at he ⊢
    rw [Bool.or_eq_true, decide_eq_true_eq] at he ⊢
    rcases he with he | he
    · left
      have a0 := near_in (orig s x).x xl' xh' h2
      have b0 := near_in (orig s x).y yl' yh' h5
      have a := near_least (orig s x).x xl xh (nearM (orig s x).x xl' xh') (by omega) (by omega)
      have b := near_least (orig s x).y yl yh (nearM (orig s x).y yl' yh') (by omega) (by omega)
      simp only [nearestP, distD] at he ⊢
      omega
    · exact .inr ((box_lt (orig s x).x (orig s x).y (x.lo * x.lo)).part he h1 h2 h3 h4 h5 h6)
  · rw [if_neg h] at he ⊢
    by_cases h' : x.kind = 1
    · rw [if_pos h'] at he ⊢
      simp only [Bool.or_eq_true] at he ⊢
      rcases he with (he | he) | he
      · exact .inl (.inl ((half_behind (orig s x).x (orig s x).y x.dx x.dy).box.part he h1 h2 h3 h4 h5 h6))
      · exact .inl (.inr ((half_below (orig s x).x (orig s x).y x.dx x.dy (biasLo s x)).box.part he h1 h2 h3 h4 h5 h6))
      · exact .inr ((half_above (orig s x).x (orig s x).y x.dx x.dy (biasHi s x)).box.part he h1 h2 h3 h4 h5 h6)
    · rw [if_neg h'] at he ⊢
      exact ((box_in (orig s x).x (orig s x).y x.dx x.dy (biasLo s x) (biasHi s x)).and (box_near (orig s x).x (orig s x).y (x.hi * x.hi))).part he h1 h2 h3 h4 h5 h6
theorem excl_one (px py : Int) : exclM s x (cornersL px px py py) (nearestP s x px px py py) = !agreesM s x px py := by
  have hn : ∀ n p : Int, nearM n p p = p := fun n p => by unfold nearM; omega
  unfold exclM agreesM nearestP
  rw [hn, hn]
  by_cases h : x.kind = 2
  · rw [if_pos h, if_pos h, all_one fun a b => decide (distD a b (orig s x).x (orig s x).y < x.lo * x.lo)]
    unfold within
    generalize distD px py (orig s x).x (orig s x).y = d
    by_cases a : x.hi * x.hi < d <;> by_cases b : d < x.lo * x.lo <;> simp [a, b, Int.not_lt.1, Int.not_le.2] <;> omega
  · rw [if_neg h, if_neg h]
    by_cases h' : x.kind = 1
    · rw [if_pos h', if_pos h', all_one fun a b => behindB (orig s x).x (orig s x).y x.dx x.dy a b, all_one fun a b => belowB (orig s x).x (orig s x).y x.dx x.dy (biasLo s x) a b, all_one fun a b => aboveB (orig s x).x (orig s x).y x.dx x.dy (biasHi s x) a b]
      unfold inB
      cases behindB (orig s x).x (orig s x).y x.dx x.dy px py <;> cases belowB (orig s x).x (orig s x).y x.dx x.dy (biasLo s x) px py <;> cases aboveB (orig s x).x (orig s x).y x.dx x.dy (biasHi s x) px py <;> rfl
    · rw [if_neg h', if_neg h', all_one fun a b => inB (orig s x).x (orig s x).y x.dx x.dy (biasLo s x) (biasHi s x) a b && decide (distD a b (orig s x).x (orig s x).y ≤ x.hi * x.hi)]
      cases inB (orig s x).x (orig s x).y x.dx x.dy (biasLo s x) (biasHi s x) px py
      · rfl
      · generalize distD px py (orig s x).x (orig s x).y = d
        by_cases a : d ≤ x.hi * x.hi
        · have : ¬ x.hi * x.hi < d := by omega
          simp [a, this]
        · have : x.hi * x.hi < d := by omega
          simp [a, this]
end
/-- The three facts of the law. -/
theorem outside_law (s : Sky) (x : Sight) (hok : sightErr2 s x = 0) (xl xh yl yh px py : Int) (hr : (-33554432 ≤ xl ∧ xl ≤ xh ∧ xh ≤ 33554432) ∧ -33554432 ≤ yl ∧ yl ≤ yh ∧ yh ≤ 33554432)
    (h1 : xl ≤ px) (h2 : px ≤ xh) (h3 : yl ≤ py) (h4 : py ≤ yh) :
    (exclAll s x xl xh yl yh = true → agreesAll s x px py = false) ∧ exclAll s x px px py py = !agreesAll s x px py ∧ (exclAll s x xl xh yl yh = true → exclAll s x xl px py yh = true) := by
  have e1 : rightA xl xh yl yh = true := rightA_iff.2 (by omega)
  have e2 : rightA px px py py = true := rightA_iff.2 (by omega)
  have e3 : rightA xl px py yh = true := rightA_iff.2 (by omega)
  have e4 : near ⟨px, py⟩ 33554432 = true := (near_iff _ _).2 (by dsimp only; omega)
  unfold exclAll agreesAll
  rw [hok, e1, e2, e3, e4]
  simp only [decide_true, Bool.true_and]
  exact ⟨fun h => excl_agrees s x h h1 h2 h3 h4, excl_one s x px py, fun h => excl_part s x h (Int.le_refl _) h1 h2 h3 h4 (Int.le_refl _)⟩
end Go.Proofs.Ytmgjjgmadiabfaa
