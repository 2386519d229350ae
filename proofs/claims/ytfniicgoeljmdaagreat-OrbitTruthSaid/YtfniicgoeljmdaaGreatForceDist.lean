/- Vectors and distances from an area to a body: the program. No condition. -/
import Derived.Test.YtfniicgoeljmdaaGreatForceOps
import Derived.LoopN
namespace Go.Proofs.YtfniicgoeljmdaaGreat
open Go.RowKit

set_option maxRecDepth 20000 in
set_option maxHeartbeats 2000000 in
theorem fTo_c (mu r : Int) (A : Option Addr) (n c : Nat) (px py xl xh yl yh : Int) (w : World) :
    Calls Tryz.prog 225 #[.agg #[.int .i64 mu, .int .i64 r, .slice A n c, .int .i64 px, .int .i64 py], .agg #[.int .i64 xl, .int .i64 xh, .int .i64 yl, .int .i64 yh]] w fun e w' => e = .returned (arV (toM ⟨px, py⟩ ⟨⟨xl, xh⟩, ⟨yl, yh⟩⟩)) ∧ Ext w w' := by
  unfold toM
  dsimp only
  obtain ⟨R1, hR1⟩ : ∃ R, subS ⟨px, px⟩ ⟨xl, xh⟩ = R := ⟨_, rfl⟩
  obtain ⟨R2, hR2⟩ : ∃ R, subS ⟨py, py⟩ ⟨yl, yh⟩ = R := ⟨_, rfl⟩
  rw [hR1, hR2]
  have H1 := Lib.hid hR1
  have H2 := Lib.hid hR2
  clear hR1 hR2
  go_enter Tryz.func225, Tryz.ntmps225
  go_wp2_with fail
  refine wp_region_forced 15 (Ext _) (Stable.ext _) (Ext.drew (Ext.refl _)) (by kernel_rfl) (by kernel_rfl) ?_
  simp only [List.take_succ_cons, List.take_zero, List.drop_succ_cons, List.drop_zero]
  (repeat' (first | (refine bl_off (by rfl) ?_; simp only [putX]) | (apply bl_op; rfl; (intro w1 h1; obtain ⟨hc, hf, hz⟩ := bcell h1; go_simp; (try go_bits); (first | exact ⟨rfl, Ext.refl _⟩ | (apply gives_call; first | (go_at_call 196; exact fOne_c _ _) | (go_at_call 245; exact fSub_c _ _ _ _ _)) | (go_invoke; go_simp; apply gives_call; first | (go_at_call 196; exact fOne_c _ _) | (go_at_call 245; exact fSub_c _ _ _ _ _)))); simp only [putX]) | (refine bl_split rfl rfl (fun hx => ?_) (fun hx => ?_) <;> simp only [hx])))
  refine bl_nil ?_
  intro w1 h1
  obtain ⟨hc_w1, hf_w1, hz_w1⟩ := bcell h1; (try simp only [szA] at hz_w1); (try have := wz0 w w1); (try have := wz1 w w1); (try have := wz2 w w1); (try have := wz3 w w1); (try have := wz4 w w1)
  go_wp2_with fail
  rw [H1.out, H2.out]
  (try simp only [Exit.inBlock, Exit.then]); apply bodyPost_ret; (focus (simp only [results, Tryz.results225]; go_simp; try rfl)); rfl
  exact ⟨rfl, ext_by⟩
set_option maxRecDepth 20000 in
set_option maxHeartbeats 4000000 in
theorem fDist_c (mu r : Int) (A : Option Addr) (n c : Nat) (px py xl xh yl yh : Int) (w : World) (hr : 0 ≤ r ∧ r ≤ 1048576) (hv : SmA 67108864 (toM ⟨px, py⟩ ⟨⟨xl, xh⟩, ⟨yl, yh⟩⟩)) :
    Calls Tryz.prog 224 #[.agg #[.int .i64 mu, .int .i64 r, .slice A n c, .int .i64 px, .int .i64 py], .agg #[.int .i64 xl, .int .i64 xh, .int .i64 yl, .int .i64 yh]] w fun e w' =>
      e = .returned (.tuple #[.agg #[.int .i64 (qM r (toM ⟨px, py⟩ ⟨⟨xl, xh⟩, ⟨yl, yh⟩⟩)).lo, .int .i64 (qM r (toM ⟨px, py⟩ ⟨⟨xl, xh⟩, ⟨yl, yh⟩⟩)).hi], .agg #[.int .i64 (rM (qM r (toM ⟨px, py⟩ ⟨⟨xl, xh⟩, ⟨yl, yh⟩⟩))).lo, .int .i64 (rM (qM r (toM ⟨px, py⟩ ⟨⟨xl, xh⟩, ⟨yl, yh⟩⟩))).hi]]) ∧ Ext w w' := by
  have HT := Lib.hid fun W => fTo_c mu r A n c px py xl xh yl yh W
  have HE := Lib.hid fun W => fEdge_c mu r A n c px py W hr
  generalize toM ⟨px, py⟩ ⟨⟨xl, xh⟩, ⟨yl, yh⟩⟩ = v at *
  have hq := qM_eq (r := r) hv
  have s1 := squareS_sm hv.1 (by omega)
  have s2 := squareS_sm hv.2 (by omega)
  have q1 := qM_sm hr hv
  obtain ⟨⟨vxl, vxh⟩, vyl, vyh⟩ := v
  dsimp only at hq s1 s2
  have HS : Hid (∀ s ∈ ([squareS ⟨vxl, vxh⟩, squareS ⟨vyl, vyh⟩] : List Sp), Sm 72057594037927936 s) := by
    intro s hs
    simp only [List.mem_cons, List.not_mem_nil, or_false] at hs
    unfold Sm
    rcases hs with rfl | rfl <;> omega
  generalize qM r ⟨⟨vxl, vxh⟩, ⟨vyl, vyh⟩⟩ = Q at *
  obtain ⟨ql, qh⟩ := Q
  have HR := Lib.hid fun W => spRoots_c ql qh W
  unfold rM
  generalize edgeM r = E at *
  simp only [Sp.mk.injEq] at hq
  have HQ := Lib.hid hq
  obtain ⟨X, hX⟩ : ∃ X, squareS ⟨vxl, vxh⟩ = X := ⟨_, rfl⟩
  obtain ⟨Y, hY⟩ : ∃ Y, squareS ⟨vyl, vyh⟩ = Y := ⟨_, rfl⟩
  rw [hX, hY] at HS HQ
  rw [hX] at s1
  rw [hY] at s2
  have HX := Lib.hid hX
  have HY := Lib.hid hY
  obtain ⟨Xl, Xh⟩ := X
  obtain ⟨Yl, Yh⟩ := Y
  dsimp only at s1 s2 HQ q1
  have Q1 := Lib.hid q1
  generalize rootsM ⟨ql, qh⟩ = R at *
  obtain ⟨⟨rl, rh⟩, re⟩ := R
  clear hX hY hq hv hr q1
  go_enter Tryz.func224, Tryz.ntmps224
  go_wp2_with fail
  refine (HT.out _).mono ?_
  rintro e w1 ⟨rfl, h1⟩
  obtain ⟨hc_w1, hf_w1, hz_w1⟩ := bcell h1; (try simp only [szA] at hz_w1); (try have := wz0 w w1); (try have := wz1 w w1); (try have := wz2 w w1); (try have := wz3 w w1); (try have := wz4 w w1)
  go_wp2_with fail
  refine wp_region_forced 6 (Ext _) (Stable.ext _) (Ext.drew (Ext.refl _)) (by kernel_rfl) (by kernel_rfl) ?_
  simp only [List.take_succ_cons, List.take_zero, List.drop_succ_cons, List.drop_zero]
  (repeat' (first | (refine bl_off (by rfl) ?_; simp only [putX]) | (apply bl_op; rfl; (intro w1 h1; obtain ⟨hc, hf, hz⟩ := bcell h1; go_simp; (try go_bits); (first | exact ⟨rfl, Ext.refl _⟩ | (apply gives_call; first | (go_at_call 242; exact fSquare_c _ _ _)) | (go_invoke; go_simp; apply gives_call; first | (go_at_call 242; exact fSquare_c _ _ _)))); simp only [putX]) | (refine bl_split rfl rfl (fun hx => ?_) (fun hx => ?_) <;> simp only [hx])))
  refine bl_nil ?_
  intro w2 h2
  obtain ⟨hc_w2, hf_w2, hz_w2⟩ := bcell h2; (try simp only [szA] at hz_w2); (try have := wz0 w w2); (try have := wz1 w w2); (try have := wz2 w w2); (try have := wz3 w w2); (try have := wz4 w w2)
  go_wp2_with fail
  rw [HX.out, HY.out]
  dsimp only
  have HA := Lib.hid (fAdd_c _ 2 2 [⟨Xl, Xh⟩, ⟨Yl, Yh⟩] (w2.alloc (.cells #[.int .i64 Xl, .int .i64 Xh, .int .i64 Yl, .int .i64 Yh] 26)) (sp_slice [⟨Xl, Xh⟩, ⟨Yl, Yh⟩] (Blk.newAt rfl) (by simp)) HS.out (by simp))
  have hsum : ([⟨Xl, Xh⟩, ⟨Yl, Yh⟩] : List Sp).foldl sumS ⟨0, 0⟩ = ⟨Xl + Yl, Xh + Yh⟩ := by simp [sumS]
  rw [hsum] at HA
  refine HA.out.mono ?_
  rintro e w3 ⟨rfl, h3⟩
  have B2 : Blk w3 w.heap.size 227 #[.int .i64 mu, .int .i64 r, .slice A n c, .int .i64 px, .int .i64 py] := ((((Blk.ext ((((Blk.newAt rfl).alloc _).alloc _).alloc _) h1).alloc _).ext h2).alloc _).ext h3
  have B4 : Blk w3 (w.heap.size + 1 + 1) 26 #[.int .i64 0, .int .i64 0] := ((((Blk.ext ((Blk.newAt (by simp)).alloc _) h1).alloc _).ext h2).alloc _).ext h3
  have B5 : Blk w3 (w.heap.size + 1 + 1 + 1) 26 #[.int .i64 0, .int .i64 0] := ((((Blk.ext (Blk.newAt (by simp)) h1).alloc _).ext h2).alloc _).ext h3
  have E3 : Ext w w3 := ext_by
  clear h1 h2 h3 hc_w1 hc_w2 hf_w1 hf_w2 hz_w1 hz_w2
  have c4 := B4.cell
  have f4 := B4.frozen
  have l4 := B4.lt
  go_wp2_with fail
  have B2' := B2.far (p := ⟨w.heap.size + 1 + 1, 0, none⟩) (by dsimp only; omega) (.int .i64 (Xl + Yl)) |>.far (p := ⟨w.heap.size + 1 + 1, 1, none⟩) (by dsimp only; omega) (.int .i64 (Xh + Yh))
  have B4' := (B4.set_ 0 (.int .i64 (Xl + Yl))).set_ 1 (.int .i64 (Xh + Yh))
  have B5' := B5.far (p := ⟨w.heap.size + 1 + 1, 0, none⟩) (by dsimp only; omega) (.int .i64 (Xl + Yl)) |>.far (p := ⟨w.heap.size + 1 + 1, 1, none⟩) (by dsimp only; omega) (.int .i64 (Xh + Yh))
  have E3' := (E3.set (p := ⟨w.heap.size + 1 + 1, 0, none⟩) (by dsimp only; omega) (.int .i64 (Xl + Yl))).set (p := ⟨w.heap.size + 1 + 1, 1, none⟩) (by dsimp only; omega) (.int .i64 (Xh + Yh))
  clear B2 B4 B5 E3 c4 f4 l4
  generalize World.setCell _ _ _ = W3 at *
  have c2 := B2'.cell
  have l2 := B2'.lt
  have c4 := B4'.cell
  have l4 := B4'.lt
  refine wp_region_forced 11 (Ext _) (Stable.ext _) (Ext.drew (Ext.refl _)) (by kernel_rfl) (by kernel_rfl) ?_
  simp only [List.take_succ_cons, List.take_zero, List.drop_succ_cons, List.drop_zero]
  (repeat' (first | (refine bl_off (by rfl) ?_; simp only [putX]) | (apply bl_op; rfl; (intro w1 h1; obtain ⟨hc, hf, hz⟩ := bcell h1; go_simp; (try go_bits); (first | exact ⟨rfl, Ext.refl _⟩ | (apply gives_call; first | (go_at_call 243; exact HE.out _)) | (go_invoke; go_simp; apply gives_call; first | (go_at_call 243; exact HE.out _)))); simp only [putX]) | (refine bl_split rfl rfl (fun hx => ?_) (fun hx => ?_) <;> simp only [hx])))
  refine bl_nil ?_
  intro w4 h4
  rw [← HQ.out.1, ← HQ.out.2]
  have B4 := B4'.ext h4
  have B5 := B5'.ext h4
  have E4 := E3'.trans h4
  clear c2 l2 c4 l4 B2' B4' B5' h4 E3'
  have c4 := B4.cell
  have f4 := B4.frozen
  have l4 := B4.lt
  have c5 := B5.cell
  have f5 := B5.frozen
  have l5 := B5.lt
  go_wp2_with fail
  have B4' := (B4.set_ 0 (.int .i64 ql)).set_ 1 (.int .i64 qh)
  have B5' := B5.far (p := ⟨w.heap.size + 1 + 1, 0, none⟩) (by dsimp only; omega) (.int .i64 ql) |>.far (p := ⟨w.heap.size + 1 + 1, 1, none⟩) (by dsimp only; omega) (.int .i64 qh)
  have E4' := (E4.set (p := ⟨w.heap.size + 1 + 1, 0, none⟩) (by dsimp only; omega) (.int .i64 ql)).set (p := ⟨w.heap.size + 1 + 1, 1, none⟩) (by dsimp only; omega) (.int .i64 qh)
  clear B4 B5 E4 c4 f4 l4 c5 f5 l5
  generalize World.setCell _ _ _ = W4 at *
  refine (HR.out _).mono ?_
  rintro e w5 ⟨rfl, h5⟩
  have B4 := B4'.ext h5
  have B5 := B5'.ext h5
  have E5 := E4'.trans h5
  clear B4' B5' E4' h5
  have c_B4 := B4.cell; have f_B4 := B4.frozen; have l_B4 := B4.lt; have c_B5 := B5.cell; have f_B5 := B5.frozen; have l_B5 := B5.lt
  go_wp2_with fail
  have B4' := B4.far (p := ⟨w.heap.size + 1 + 1 + 1, 0, none⟩) (by dsimp only; omega) (.int .i64 rl) |>.far (p := ⟨w.heap.size + 1 + 1 + 1, 1, none⟩) (by dsimp only; omega) (.int .i64 rh)
  have B5' := (B5.set_ 0 (.int .i64 rl)).set_ 1 (.int .i64 rh)
  have E5' := (E5.set (p := ⟨w.heap.size + 1 + 1 + 1, 0, none⟩) (by dsimp only; omega) (.int .i64 rl)).set (p := ⟨w.heap.size + 1 + 1 + 1, 1, none⟩) (by dsimp only; omega) (.int .i64 rh)
  clear c_B4 f_B4 l_B4 c_B5 f_B5 l_B5
  clear B4 B5 E5
  generalize World.setCell _ _ _ = W5 at *
  have c_B4' := B4'.cell; have f_B4' := B4'.frozen; have l_B4' := B4'.lt; have c_B5' := B5'.cell; have f_B5' := B5'.frozen; have l_B5' := B5'.lt
  go_region
  go_wp2_with fail
  (try simp only [Exit.inBlock, Exit.then]); apply bodyPost_ret; (focus (simp only [results, Tryz.results224]; go_simp; try rfl)); rfl
  exact ⟨rfl, ((((E5'.set (by dsimp only; omega) _).set (by dsimp only; omega) _).set (by dsimp only; omega) _).set (by dsimp only; omega) _).drew⟩
end Go.Proofs.YtfniicgoeljmdaaGreat
