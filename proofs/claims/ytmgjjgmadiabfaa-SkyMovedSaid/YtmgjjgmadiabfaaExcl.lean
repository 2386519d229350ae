/- Whether a sight excludes an area: the pieces of the program. No condition. -/
import Derived.Test.YtmgjjgmadiabfaaAll
namespace Go.Proofs.Ytmgjjgmadiabfaa
open Go.RowKit Go.Shelf

def rightA (xl xh yl yh : Int) : Bool := decide (-33554432 ≤ xl) && decide (xl ≤ xh) && decide (xh ≤ 33554432) && decide (-33554432 ≤ yl) && decide (yl ≤ yh) && decide (yh ≤ 33554432)
theorem rightA_iff {xl xh yl yh : Int} : rightA xl xh yl yh = true ↔ -33554432 ≤ xl ∧ xl ≤ xh ∧ xh ≤ 33554432 ∧ -33554432 ≤ yl ∧ yl ≤ yh ∧ yh ≤ 33554432 := by
  simp only [rightA, Bool.and_eq_true, decide_eq_true_eq, and_assoc]
theorem corner_near {xl xh yl yh : Int} (h : rightA xl xh yl yh = true) : ∀ v ∈ cornersL xl xh yl yh, near ⟨v.x, v.y⟩ 33554432 = true := by
  have h := rightA_iff.1 h
  intro v hv
  simp only [cornersL, List.mem_cons, List.not_mem_nil, or_false] at hv
  rw [near_iff]
  rcases hv with rfl | rfl | rfl | rfl
  all_goals dsimp only
  all_goals omega
def nearM (n lo hi : Int) : Int := min (max n lo) hi

set_option maxRecDepth 4000 in
set_option maxHeartbeats 1000000 in
theorem right_c (xl xh yl yh : Int) (w : World) :
    Calls Try.prog 83 #[.agg #[.int .i64 xl, .int .i64 xh, .int .i64 yl, .int .i64 yh]] w fun e w' => e = .returned (.bool (rightA xl xh yl yh)) ∧ Ext w w' := by
  by_cases h : rightA xl xh yl yh = true
  · have h' := rightA_iff.1 h
    rw [h]
    obtain ⟨h1, h2, h3, h4, h5, h6⟩ := h'
    clear h
    go_enter Try.func83, Try.ntmps83
    go_wp2_with fail
    go_ret
    exact ⟨rfl, by (repeat' (first | exact Ext.refl _ | assumption | apply Ext.alloc | apply Ext.drew | refine Ext.set ?_ (by dsimp only; omega) _ | refine Ext.trans ?_ (by assumption)))⟩
  · have h' : rightA xl xh yl yh = false := by simpa using h
    rw [h']
    have hn : ¬ (-33554432 ≤ xl ∧ xl ≤ xh ∧ xh ≤ 33554432 ∧ -33554432 ≤ yl ∧ yl ≤ yh ∧ yh ≤ 33554432) := fun q => h (rightA_iff.2 q)
    have Hn := Lib.hid hn
    clear h h' hn
    go_enter Try.func83, Try.ntmps83
    go_wp2_with fail
    all_goals go_ret
    all_goals refine ⟨ret_b ?_, by (repeat' (first | exact Ext.refl _ | assumption | apply Ext.alloc | apply Ext.drew | refine Ext.set ?_ (by dsimp only; omega) _ | refine Ext.trans ?_ (by assumption)))⟩
    all_goals have hn := Hn.out
    all_goals first | rfl | (exfalso; simp at *; omega) | (simp; omega)

set_option maxHeartbeats 1000000 in
theorem nearest_c (lo hi n : Int) (w : World) :
    Calls Try.prog 86 #[.agg #[.int .i64 lo, .int .i64 hi], .int .i64 n] w fun e w' => e = .returned (.int .i64 (nearM n lo hi)) ∧ Ext w w' := by
  unfold nearM
  go_enter Try.func86, Try.ntmps86
  go_wp2_with fail
  all_goals go_ret
  all_goals refine ⟨ret_i ?_, by (repeat' (first | exact Ext.refl _ | assumption | apply Ext.alloc | apply Ext.drew | refine Ext.set ?_ (by dsimp only; omega) _ | refine Ext.trans ?_ (by assumption)))⟩
  all_goals omega

set_option maxRecDepth 4000 in
set_option maxHeartbeats 1000000 in
theorem excl1_c (fx fy lo hi x y : Int) (b : Nat) (w : World) (hb : ∃ t, Blk w b t #[.int .i64 fx, .int .i64 fy, .int .i64 lo, .int .i64 hi]) (h1 : -68157440 ≤ x - fx ∧ x - fx ≤ 68157440) (h2 : -68157440 ≤ y - fy ∧ y - fy ≤ 68157440) (hlo : -134217728 ≤ lo ∧ lo ≤ 134217728) :
    Calls Try.prog 89 #[.agg #[.int .i64 x, .int .i64 y], .pointer (some ⟨b, 0, none⟩)] w fun e w' => e = .returned (.bool (decide (distD x y fx fy < lo * lo))) ∧ Ext w w' := by
  obtain ⟨t, hb⟩ := hb
  have hc := hb.cell
  have hl := hb.lt
  have HD := Lib.hid fun W => distance_c x y fx fy W h1 h2
  obtain ⟨q1, q2⟩ := mul_bd hlo hlo
  generalize distD x y fx fy = D at *
  clear hb h1 h2 hlo
  go_enter Try.func89, Try.ntmps89
  go_wp2_with fail
  refine wp_region_text (by kernel_rfl) (by kernel_rfl) ?_
  repeat' (first | (refine bl_off (by rfl) ?_; simp only [Act.put, List.setIfInBounds_toArray, List.set_cons_zero, List.set_cons_succ]) | (apply bl_op; rfl; (intro w1 h1; obtain ⟨hc, hf, hz⟩ := bcell h1; go_simp; (try go_bits); (first | exact ⟨rfl, Ext.refl _⟩ | (apply gives_call; first | (go_at_call 87; exact HD.out _)) | (go_invoke; go_simp; apply gives_call; first | (go_at_call 87; exact HD.out _)))); simp only [Act.put, List.setIfInBounds_toArray, List.set_cons_zero, List.set_cons_succ]) | (refine bl_split rfl rfl (fun hx => ?_) (fun hx => ?_) <;> simp only [hx]))
  refine bl_nil ?_
  intro w2 h2
  go_wp2_with fail
  go_ret
  exact ⟨rfl, by (repeat' (first | exact Ext.refl _ | assumption | apply Ext.alloc | apply Ext.drew | refine Ext.set ?_ (by dsimp only; omega) _ | refine Ext.trans ?_ (by assumption)))⟩

set_option maxRecDepth 4000 in
set_option maxHeartbeats 1000000 in
theorem excl2_c (fx fy dx dy lo hi far x y : Int) (b : Nat) (w : World) (hb : ∃ t, Blk w b t #[.int .i64 fx, .int .i64 fy, .int .i64 dx, .int .i64 dy, .int .i64 lo, .int .i64 hi, .int .i64 far])
    (h : CB fx fy dx dy x y) (hlo : -1000000 ≤ lo ∧ lo ≤ 1000000) (hhi : -1000000 ≤ hi ∧ hi ≤ 1000000) (hfar : -134217728 ≤ far ∧ far ≤ 134217728) :
    Calls Try.prog 90 #[.agg #[.int .i64 x, .int .i64 y], .pointer (some ⟨b, 0, none⟩)] w fun e w' => e = .returned (.bool (inB fx fy dx dy lo hi x y && decide (distD x y fx fy ≤ far * far))) ∧ Ext w w' := by
  obtain ⟨t, hb⟩ := hb
  have hc := hb.cell
  have hl := hb.lt
  obtain ⟨q1, q2⟩ := mul_bd hfar hfar
  have HT := Lib.hid fun W => has_c fx fy dx dy lo hi x y W h hlo hhi
  have HD := Lib.hid fun W => distance_c x y fx fy W (by have := h.x; have := h.fx; omega) (by have := h.y; have := h.fy; omega)
  generalize inB fx fy dx dy lo hi x y = B at *
  generalize distD x y fx fy = D at *
  clear hb h hlo hhi hfar
  go_enter Try.func90, Try.ntmps90
  go_wp2_with fail
  refine wp_region_text (by kernel_rfl) (by kernel_rfl) ?_
  repeat' (first | (refine bl_off (by rfl) ?_; simp only [Act.put, List.setIfInBounds_toArray, List.set_cons_zero, List.set_cons_succ]) | (apply bl_op; rfl; (intro w1 h1; obtain ⟨hc, hf, hz⟩ := bcell h1; go_simp; (try go_bits); (first | exact ⟨rfl, Ext.refl _⟩ | (apply gives_call; first | (go_at_call 91; exact HT.out _) | (go_at_call 87; exact HD.out _)) | (go_invoke; go_simp; apply gives_call; first | (go_at_call 91; exact HT.out _) | (go_at_call 87; exact HD.out _)))); simp only [Act.put, List.setIfInBounds_toArray, List.set_cons_zero, List.set_cons_succ]) | (refine bl_split rfl rfl (fun hx => ?_) (fun hx => ?_) <;> simp only [hx]))
  all_goals refine bl_nil ?_
  all_goals intro w2 h2
  all_goals go_wp2_with fail
  all_goals go_ret
  all_goals refine ⟨?_, by (repeat' (first | exact Ext.refl _ | assumption | apply Ext.alloc | apply Ext.drew | refine Ext.set ?_ (by dsimp only; omega) _ | refine Ext.trans ?_ (by assumption)))⟩
  all_goals simp_all
end Go.Proofs.Ytmgjjgmadiabfaa
