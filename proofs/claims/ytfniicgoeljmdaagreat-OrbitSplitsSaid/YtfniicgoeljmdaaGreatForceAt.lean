/- What moves a small body in an area, and in a place: the program. No condition. -/
import Derived.Test.YtfniicgoeljmdaaGreatForceOver
namespace Go.Proofs.YtfniicgoeljmdaaGreat
open Go.RowKit

abbrev arRV (r : ArR) : Value := .tuple #[.agg #[.int .i64 r.a.x.lo, .int .i64 r.a.x.hi, .int .i64 r.a.y.lo, .int .i64 r.a.y.hi], .int .i64 r.e]
theorem fOver_c (A : Option Addr) (n c : Nat) (home : Int) (l : List Body) (d : Drf) (tick : Int) (a : Ar) (w : World) (hl : Bodies w A n l) :
    Calls Tryz.prog 123 #[.agg #[.slice A n c, .int .i64 home], .agg #[.int .i64 d.light.lo, .int .i64 d.light.hi, .int .i64 d.heat.lo, .int .i64 d.heat.hi, .int .i64 d.gas], .int .i64 tick, .agg #[.int .i64 a.x.lo, .int .i64 a.x.hi, .int .i64 a.y.lo, .int .i64 a.y.hi]] w fun e w' =>
      e = .returned (arRV (overM l home d tick a)) ∧ Ext w w' := by
  unfold overM
  by_cases h0 : fAskErr l home d tick a = 0
  · rw [if_pos h0]
    exact fOver_ok A n c home l d tick a w hl h0
  · rw [if_neg h0]
    exact fOver_no A n c home l d tick a w hl h0
set_option maxRecDepth 20000 in
set_option maxHeartbeats 2000000 in
theorem fPullAt_c (A : Option Addr) (n c : Nat) (home : Int) (l : List Body) (d : Drf) (tick x y : Int) (w : World) (hl : Bodies w A n l) :
    Calls Tryz.prog 121 #[.agg #[.slice A n c, .int .i64 home], .agg #[.int .i64 d.light.lo, .int .i64 d.light.hi, .int .i64 d.heat.lo, .int .i64 d.heat.hi, .int .i64 d.gas], .int .i64 tick, .agg #[.int .i64 x, .int .i64 y]] w fun e w' =>
      e = .returned (arRV (overM l home d tick ⟨⟨x, x⟩, ⟨y, y⟩⟩)) ∧ Ext w w' := by
  have HO := Lib.hid fun W (hW : Ext w W) => fOver_c A n c home l d tick ⟨⟨x, x⟩, ⟨y, y⟩⟩ W (Bodies.ext hW hl)
  generalize overM _ _ _ _ _ = R at *
  obtain ⟨⟨⟨xl, xh⟩, yl, yh⟩, e⟩ := R
  dsimp only at HO ⊢
  clear hl
  go_enter Tryz.func121, Tryz.ntmps121
  go_wp2_with fail
  refine wp_region_forced 8 (Ext _) (Stable.ext _) (Ext.drew (Ext.refl _)) (by kernel_rfl) (by kernel_rfl) ?_
  simp only [List.take_succ_cons, List.take_zero, List.drop_succ_cons, List.drop_zero]
  (repeat' (first | (refine bl_off (by rfl) ?_; simp only [Act.put, List.setIfInBounds_toArray, List.set_cons_zero, List.set_cons_succ]) | (apply bl_op; rfl; (intro w1 h1; obtain ⟨hc, hf, hz⟩ := bcell h1; go_simp; (try go_bits); (first | exact ⟨rfl, Ext.refl _⟩ | (apply gives_call; first | (go_at_call 157; exact fAlone_c _ _ _) | (go_at_call 123; exact HO.out _ (by (repeat' (first | exact Ext.refl _ | assumption | apply Ext.alloc | apply Ext.drew | refine Ext.set ?_ (by dsimp only; omega) _ | refine Ext.trans ?_ (by assumption)))))) | (go_invoke; go_simp; apply gives_call; first | (go_at_call 157; exact fAlone_c _ _ _) | (go_at_call 123; exact HO.out _ (by (repeat' (first | exact Ext.refl _ | assumption | apply Ext.alloc | apply Ext.drew | refine Ext.set ?_ (by dsimp only; omega) _ | refine Ext.trans ?_ (by assumption)))))))); simp only [Act.put, List.setIfInBounds_toArray, List.set_cons_zero, List.set_cons_succ]) | (refine bl_split rfl rfl (fun hx => ?_) (fun hx => ?_) <;> simp only [hx])))
  refine bl_nil ?_
  intro w1 h1
  obtain ⟨hc_w1, hf_w1, hz_w1⟩ := bcell h1; (repeat (first | rw [World.size_alloc] at hz_w1 | rw [World.size_drew] at hz_w1 | rw [World.size_setCell] at hz_w1)); (try (have : w.heap.size < w1.heap.size := (by omega))); (try (have : w.heap.size + 1 < w1.heap.size := (by omega))); (try (have : w.heap.size + 1 + 1 < w1.heap.size := (by omega))); (try (have : w.heap.size + 1 + 1 + 1 < w1.heap.size := (by omega))); (try (have : w.heap.size + 1 + 1 + 1 + 1 < w1.heap.size := (by omega)))
  go_wp2_with fail
  (try simp only [Exit.inBlock, Exit.then]); apply bodyPost_ret; (focus (simp only [results, Tryz.results121]; go_simp; try rfl)); rfl
  exact ⟨rfl, by (repeat' (first | exact Ext.refl _ | assumption | apply Ext.alloc | apply Ext.drew | refine Ext.set ?_ (by dsimp only; omega) _ | refine Ext.trans ?_ (by assumption)))⟩
end Go.Proofs.YtfniicgoeljmdaaGreat
