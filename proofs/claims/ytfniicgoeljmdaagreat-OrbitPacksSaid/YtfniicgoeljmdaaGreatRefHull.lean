/- The least box that contains all boxes of a set: the reference. No condition. -/
import Derived.Test.YtfniicgoeljmdaaGreatRefBox
namespace Go.Proofs.YtfniicgoeljmdaaGreat
open Go.RowKit

set_option maxHeartbeats 1000000 in
theorem rHullS_c (al ah bl bh : Int) (w : World) :
    Calls Tryz.prog 131 #[.agg #[.int .i64 al, .int .i64 ah], .agg #[.int .i64 bl, .int .i64 bh]] w fun e w' => e = .returned (.agg #[.int .i64 (min al bl), .int .i64 (max ah bh)]) ∧ Ext w w' := by
  go_enter Tryz.func131, Tryz.ntmps131
  go_wp2_with fail
  (try simp only [Exit.inBlock, Exit.then]); apply bodyPost_ret; (focus (simp only [results, Tryz.results131]; go_simp; try rfl)); rfl
  exact ⟨rfl, ext_by⟩
set_option maxRecDepth 20000 in
set_option maxHeartbeats 4000000 in
theorem rBoth_c (a b : Bx) (w : World) :
    Calls Tryz.prog 93 #[.agg #[.int .i64 a.x.lo, .int .i64 a.x.hi, .int .i64 a.y.lo, .int .i64 a.y.hi, .int .i64 a.u.lo, .int .i64 a.u.hi, .int .i64 a.v.lo, .int .i64 a.v.hi], .agg #[.int .i64 b.x.lo, .int .i64 b.x.hi, .int .i64 b.y.lo, .int .i64 b.y.hi, .int .i64 b.u.lo, .int .i64 b.u.hi, .int .i64 b.v.lo, .int .i64 b.v.hi]] w fun e w' => e = .returned (bxV (hullB a b)) ∧ Ext w w' := by
  obtain ⟨⟨xl, xh⟩, ⟨yl, yh⟩, ⟨ul, uh⟩, vl, vh⟩ := a
  obtain ⟨⟨zxl, zxh⟩, ⟨zyl, zyh⟩, ⟨zul, zuh⟩, zvl, zvh⟩ := b
  have HC := Lib.hid fun p q s t W => rHullS_c p q s t W
  unfold hullB hullS
  dsimp only
  go_enter Tryz.func93, Tryz.ntmps93
  go_wp2_with fail
  refine name_world _ ?_
  intro W1 hW1
  obtain ⟨b2, h2⟩ : ∃ b, b = w.heap.size := ⟨_, rfl⟩
  have B2 : Blk W1 b2 38 #[.int .i64 xl, .int .i64 xh, .int .i64 yl, .int .i64 yh, .int .i64 ul, .int .i64 uh, .int .i64 vl, .int .i64 vh] := by rw [hW1, h2]; exact ((Blk.new w _ _).alloc _).alloc _
  have B3 : Blk W1 (b2 + 1) 38 #[.int .i64 zxl, .int .i64 zxh, .int .i64 zyl, .int .i64 zyh, .int .i64 zul, .int .i64 zuh, .int .i64 zvl, .int .i64 zvh] := by rw [hW1, h2]; exact (Blk.newAt (by simp)).alloc _
  have B4 : Blk W1 (b2 + 1 + 1) 38 #[.int .i64 0, .int .i64 0, .int .i64 0, .int .i64 0, .int .i64 0, .int .i64 0, .int .i64 0, .int .i64 0] := by rw [hW1, h2]; exact Blk.newAt (by simp)
  have E1 : Ext w W1 := by rw [hW1]; exact ext_by
  have o1 : w.heap.size ≤ b2 := by omega
  rw [← h2]
  clear hW1 h2
  have c_B2 := B2.cell; have f_B2 := B2.frozen; have l_B2 := B2.lt; have c_B3 := B3.cell; have f_B3 := B3.frozen; have l_B3 := B3.lt; have c_B4 := B4.cell; have f_B4 := B4.frozen; have l_B4 := B4.lt
  refine wp_region_forced 21 (Ext _) (Stable.ext _) (Ext.drew (Ext.refl _)) (by kernel_rfl) (by kernel_rfl) ?_
  simp only [List.take_succ_cons, List.take_zero, List.drop_succ_cons, List.drop_zero]
  (repeat' (first | (refine bl_off (by rfl) ?_; simp only [putX]) | (apply bl_op; rfl; (intro w1 h1; obtain ⟨hc, hf, hz⟩ := bcell h1; go_simp; (try go_bits); (first | exact ⟨rfl, Ext.refl _⟩ | (apply gives_call; first | (go_at_call 131; exact HC.out _ _ _ _ _)) | (go_invoke; go_simp; apply gives_call; first | (go_at_call 131; exact HC.out _ _ _ _ _)))); simp only [putX]) | (refine bl_split rfl rfl (fun hx => ?_) (fun hx => ?_) <;> simp only [hx])))
  refine bl_nil ?_
  intro W2 hW2
  have D4 := B4.ext hW2
  have E2 := E1.trans hW2
  clear c_B2 f_B2 l_B2 c_B3 f_B3 l_B3 c_B4 f_B4 l_B4
  clear B2 B3 B4 hW2 E1
  have f4 := D4.frozen
  have c4 := D4.cell
  have l4 := D4.lt
  (try dsimp only); repeat' (first | go_values | go_skip | go_guarded | go_step | go_upon | go_in | go_at_K)
  refine name_world _ ?_
  intro W9 hW9
  have Q8 : Blk W9 (b2 + 1 + 1) 38 #[.int .i64 (min xl zxl), .int .i64 (max xh zxh), .int .i64 (min yl zyl), .int .i64 (max yh zyh), .int .i64 (min ul zul), .int .i64 (max uh zuh), .int .i64 (min vl zvl), .int .i64 (max vh zvh)] := by rw [hW9]; exact blk_set2 (blk_set2 (blk_set2 (blk_set2 D4 rfl) rfl) rfl) rfl
  have QE : Ext w W9 := by rw [hW9]; exact ext_set2 (ext_set2 (ext_set2 (ext_set2 E2 (by omega)) (by omega)) (by omega)) (by omega)
  clear hW9
  have c_Q8 := Q8.cell; have f_Q8 := Q8.frozen; have l_Q8 := Q8.lt
  (try simp only [Exit.inBlock, Exit.then]); apply bodyPost_ret; (focus (simp only [results, Tryz.results93]; go_simp; try rfl)); rfl
  exact ⟨rfl, QE⟩
end Go.Proofs.YtfniicgoeljmdaaGreat
