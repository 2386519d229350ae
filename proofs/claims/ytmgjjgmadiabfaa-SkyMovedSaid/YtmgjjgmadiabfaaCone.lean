/- Cones, distances and looks: what the program computes within its bounds, where nothing wraps. -/
import Derived.Test.YtmgjjgmadiabfaaWhere
namespace Go.Proofs.Ytmgjjgmadiabfaa
open Go.RowKit

theorem mul_bd {a b A B : Int} (ha : -A ≤ a ∧ a ≤ A) (hb : -B ≤ b ∧ b ≤ B) : -(A * B) ≤ a * b ∧ a * b ≤ A * B := by
  have h1 : (a * b).natAbs ≤ A.toNat * B.toNat := by
    rw [Int.natAbs_mul]
    exact Nat.mul_le_mul (by omega) (by omega)
  have h2 : ((A.toNat * B.toNat : Nat) : Int) = A * B := by
    rw [Int.natCast_mul, Int.toNat_of_nonneg (by omega), Int.toNat_of_nonneg (by omega)]
  omega

def crossD (fx fy dx dy x y : Int) : Int := dx * (y - fy) - dy * (x - fx)
def dotD (fx fy dx dy x y : Int) : Int := dx * (x - fx) + dy * (y - fy)
def distD (ax ay bx by_ : Int) : Int := (ax - bx) * (ax - bx) + (ay - by_) * (ay - by_)
def behindB (fx fy dx dy x y : Int) : Bool := decide (dotD fx fy dx dy x y ≤ 0)
def belowB (fx fy dx dy lo x y : Int) : Bool := decide (1000000 * crossD fx fy dx dy x y < lo * dotD fx fy dx dy x y)
def aboveB (fx fy dx dy hi x y : Int) : Bool := decide (hi * dotD fx fy dx dy x y < 1000000 * crossD fx fy dx dy x y)
def inB (fx fy dx dy lo hi x y : Int) : Bool := !behindB fx fy dx dy x y && !belowB fx fy dx dy lo x y && !aboveB fx fy dx dy hi x y

/-- A station, a direction, a place within their bounds. -/
structure CB (fx fy dx dy x y : Int) : Prop where
  fx : -34603008 ≤ fx ∧ fx ≤ 34603008
  fy : -34603008 ≤ fy ∧ fy ≤ 34603008
  dx : -4096 ≤ dx ∧ dx ≤ 4096
  dy : -4096 ≤ dy ∧ dy ≤ 4096
  x : -33554432 ≤ x ∧ x ≤ 33554432
  y : -33554432 ≤ y ∧ y ≤ 33554432
theorem CB.prods {fx fy dx dy x y : Int} (h : CB fx fy dx dy x y) :
    (-279172874240 ≤ dx * (y - fy) ∧ dx * (y - fy) ≤ 279172874240) ∧ (-279172874240 ≤ dy * (x - fx) ∧ dy * (x - fx) ≤ 279172874240) ∧
    (-279172874240 ≤ dx * (x - fx) ∧ dx * (x - fx) ≤ 279172874240) ∧ (-279172874240 ≤ dy * (y - fy) ∧ dy * (y - fy) ≤ 279172874240) := by
  obtain ⟨h1, h2, h3, h4, h5, h6⟩ := h
  have e1 : -68157440 ≤ y - fy ∧ y - fy ≤ 68157440 := by omega
  have e2 : -68157440 ≤ x - fx ∧ x - fx ≤ 68157440 := by omega
  exact ⟨mul_bd h3 e1, mul_bd h4 e2, mul_bd h3 e2, mul_bd h4 e1⟩
theorem CB.cross {fx fy dx dy x y : Int} (h : CB fx fy dx dy x y) : -558345748480 ≤ crossD fx fy dx dy x y ∧ crossD fx fy dx dy x y ≤ 558345748480 := by
  obtain ⟨h1, h2, _, _⟩ := h.prods; unfold crossD; omega
theorem CB.dot {fx fy dx dy x y : Int} (h : CB fx fy dx dy x y) : -558345748480 ≤ dotD fx fy dx dy x y ∧ dotD fx fy dx dy x y ≤ 558345748480 := by
  obtain ⟨_, _, h1, h2⟩ := h.prods; unfold dotD; omega

set_option maxRecDepth 4000 in
set_option maxHeartbeats 1000000 in
theorem turns_c (fx fy dx dy lo hi x y : Int) (w : World) (h : CB fx fy dx dy x y) :
    Calls Try.prog 117 #[.agg #[.int .i64 fx, .int .i64 fy, .int .i64 dx, .int .i64 dy, .int .i64 lo, .int .i64 hi], .agg #[.int .i64 x, .int .i64 y]] w fun e w' =>
      e = .returned (.tuple #[.int .i64 (crossD fx fy dx dy x y), .int .i64 (dotD fx fy dx dy x y)]) ∧ Ext w w' := by
  obtain ⟨⟨p1, p2⟩, ⟨p3, p4⟩, ⟨p5, p6⟩, p7, p8⟩ := h.prods
  obtain ⟨⟨h1, h2⟩, ⟨h3, h4⟩, ⟨h5, h6⟩, ⟨h7, h8⟩, ⟨h9, h10⟩, h11, h12⟩ := h
  go_enter Try.func117, Try.ntmps117
  go_wp2_with fail
  refine wp_region_text (by kernel_rfl) (by kernel_rfl) ?_
  repeat' (first | (refine bl_off (by rfl) ?_; simp only [Act.put, List.setIfInBounds_toArray, List.set_cons_zero, List.set_cons_succ]) | (apply bl_op; rfl; (intro w1 h1; obtain ⟨hc, hf, hz⟩ := bcell h1; go_simp; (try go_bits); (first | exact ⟨rfl, Ext.refl _⟩)); simp only [Act.put, List.setIfInBounds_toArray, List.set_cons_zero, List.set_cons_succ]) | (refine bl_split rfl rfl (fun hx => ?_) (fun hx => ?_) <;> simp only [hx]))
  refine bl_nil ?_
  intro w1 h1
  obtain ⟨hc_w1, hf_w1, hz_w1⟩ := bcell h1; (repeat (first | rw [World.size_alloc] at hz_w1 | rw [World.size_drew] at hz_w1 | rw [World.size_setCell] at hz_w1)); have : w.heap.size < w1.heap.size := (by omega); have : w.heap.size + 1 < w1.heap.size := (by omega)
  go_wp2_with fail
  refine wp_region_text (by kernel_rfl) (by kernel_rfl) ?_
  repeat' (first | (refine bl_off (by rfl) ?_; simp only [Act.put, List.setIfInBounds_toArray, List.set_cons_zero, List.set_cons_succ]) | (apply bl_op; rfl; (intro w1 h1; obtain ⟨hc, hf, hz⟩ := bcell h1; go_simp; (try go_bits); (first | exact ⟨rfl, Ext.refl _⟩)); simp only [Act.put, List.setIfInBounds_toArray, List.set_cons_zero, List.set_cons_succ]) | (refine bl_split rfl rfl (fun hx => ?_) (fun hx => ?_) <;> simp only [hx]))
  refine bl_nil ?_
  intro w2 h2
  go_wp2_with fail
  go_ret2
  exact ⟨rfl, by (repeat' (first | exact Ext.refl _ | assumption | apply Ext.alloc | apply Ext.drew | refine Ext.set ?_ (by dsimp only; omega) _ | refine Ext.trans ?_ (by assumption)))⟩

set_option maxRecDepth 4000 in
set_option maxHeartbeats 1000000 in
theorem sides_c (fx fy dx dy lo hi x y : Int) (w : World) (h : CB fx fy dx dy x y) (hlo : -1000000 ≤ lo ∧ lo ≤ 1000000) (hhi : -1000000 ≤ hi ∧ hi ≤ 1000000) :
    Calls Try.prog 85 #[.agg #[.int .i64 fx, .int .i64 fy, .int .i64 dx, .int .i64 dy, .int .i64 lo, .int .i64 hi], .agg #[.int .i64 x, .int .i64 y]] w fun e w' =>
      e = .returned (.tuple #[.bool (behindB fx fy dx dy x y), .bool (belowB fx fy dx dy lo x y), .bool (aboveB fx fy dx dy hi x y)]) ∧ Ext w w' := by
  obtain ⟨c1, c2⟩ := h.cross
  have hd := h.dot
  obtain ⟨q1, q2⟩ := mul_bd hlo hd
  obtain ⟨q3, q4⟩ := mul_bd hhi hd
  obtain ⟨d1, d2⟩ := hd
  unfold behindB belowB aboveB
  have HT := Lib.hid fun W => turns_c fx fy dx dy lo hi x y W h
  generalize crossD fx fy dx dy x y = C at *
  generalize dotD fx fy dx dy x y = D at *
  clear h hlo hhi
  go_enter Try.func85, Try.ntmps85
  go_wp2_with fail
  refine (HT.out _).mono ?_
  rintro e w1 ⟨rfl, h1⟩; obtain ⟨hc_w1, hf_w1, hz_w1⟩ := bcell h1; (repeat (first | rw [World.size_alloc] at hz_w1 | rw [World.size_drew] at hz_w1 | rw [World.size_setCell] at hz_w1)); have : w.heap.size < w1.heap.size := (by omega); have : w.heap.size + 1 < w1.heap.size := (by omega)
  go_wp2_with fail
  refine wp_region_text (by kernel_rfl) (by kernel_rfl) ?_
  repeat' (first | (refine bl_off (by rfl) ?_; simp only [Act.put, List.setIfInBounds_toArray, List.set_cons_zero, List.set_cons_succ]) | (apply bl_op; rfl; (intro w1 h1; obtain ⟨hc, hf, hz⟩ := bcell h1; go_simp; (try go_bits); (first | exact ⟨rfl, Ext.refl _⟩)); simp only [Act.put, List.setIfInBounds_toArray, List.set_cons_zero, List.set_cons_succ]) | (refine bl_split rfl rfl (fun hx => ?_) (fun hx => ?_) <;> simp only [hx]))
  refine bl_nil ?_
  intro w2 h2
  go_wp2_with fail
  go_ret3
  exact ⟨rfl, by (repeat' (first | exact Ext.refl _ | assumption | apply Ext.alloc | apply Ext.drew | refine Ext.set ?_ (by dsimp only; omega) _ | refine Ext.trans ?_ (by assumption)))⟩

set_option maxHeartbeats 1000000 in
theorem has_c (fx fy dx dy lo hi x y : Int) (w : World) (h : CB fx fy dx dy x y) (hlo : -1000000 ≤ lo ∧ lo ≤ 1000000) (hhi : -1000000 ≤ hi ∧ hi ≤ 1000000) :
    Calls Try.prog 91 #[.agg #[.int .i64 fx, .int .i64 fy, .int .i64 dx, .int .i64 dy, .int .i64 lo, .int .i64 hi], .agg #[.int .i64 x, .int .i64 y]] w fun e w' =>
      e = .returned (.bool (inB fx fy dx dy lo hi x y)) ∧ Ext w w' := by
  unfold inB
  have HT := Lib.hid fun W => sides_c fx fy dx dy lo hi x y W h hlo hhi
  generalize behindB fx fy dx dy x y = a at *
  generalize belowB fx fy dx dy lo x y = b at *
  generalize aboveB fx fy dx dy hi x y = c at *
  clear h hlo hhi
  go_enter Try.func91, Try.ntmps91
  go_wp2_with fail
  refine (HT.out _).mono ?_
  rintro e w1 ⟨rfl, h1⟩; obtain ⟨hc_w1, hf_w1, hz_w1⟩ := bcell h1; (repeat (first | rw [World.size_alloc] at hz_w1 | rw [World.size_drew] at hz_w1 | rw [World.size_setCell] at hz_w1)); have : w.heap.size < w1.heap.size := (by omega); have : w.heap.size + 1 < w1.heap.size := (by omega)
  cases a <;> cases b <;> cases c
  all_goals go_wp2_with fail
  all_goals go_ret
  all_goals exact ⟨rfl, by (repeat' (first | exact Ext.refl _ | assumption | apply Ext.alloc | apply Ext.drew | refine Ext.set ?_ (by dsimp only; omega) _ | refine Ext.trans ?_ (by assumption)))⟩

set_option maxHeartbeats 1000000 in
theorem distance_c (ax ay bx by_ : Int) (w : World) (h1 : -68157440 ≤ ax - bx ∧ ax - bx ≤ 68157440) (h2 : -68157440 ≤ ay - by_ ∧ ay - by_ ≤ 68157440) :
    Calls Try.prog 87 #[.agg #[.int .i64 ax, .int .i64 ay], .agg #[.int .i64 bx, .int .i64 by_]] w fun e w' =>
      e = .returned (.int .i64 (distD ax ay bx by_)) ∧ Ext w w' := by
  obtain ⟨q1, q2⟩ := mul_bd h1 h1
  obtain ⟨q3, q4⟩ := mul_bd h2 h2
  obtain ⟨h1, h1'⟩ := h1
  obtain ⟨h2, h2'⟩ := h2
  go_enter Try.func87, Try.ntmps87
  go_wp2_with fail
  go_ret
  exact ⟨rfl, by (repeat' (first | exact Ext.refl _ | assumption | apply Ext.alloc | apply Ext.drew | refine Ext.set ?_ (by dsimp only; omega) _ | refine Ext.trans ?_ (by assumption)))⟩
end Go.Proofs.Ytmgjjgmadiabfaa
