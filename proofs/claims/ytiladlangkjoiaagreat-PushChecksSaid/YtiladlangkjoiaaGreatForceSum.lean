/- Vectors and distances from an area to a body: the program. No condition. The pull of a body on an area, in one direction: the program. No condition. The pull of a body on an area, and a body in its place: the program. No condition. Light, heat, and sums of areas: the program. No condition. -/
import Derived.Test.YtiladlangkjoiaaGreatForceOps
import Derived.LoopN
import Derived.Test.YtiladlangkjoiaaGreatOwnInts
namespace Go.Proofs.YtiladlangkjoiaaGreat
open Go.RowKit

set_option maxRecDepth 20000 in
set_option maxHeartbeats 2000000 in
theorem fTo_c (mu r : Int) (A : Option Addr) (n c : Nat) (px py xl xh yl yh : Int) (w : World) :
    Calls Tryz.prog 353 #[.agg #[.int .i64 mu, .int .i64 r, .slice A n c, .int .i64 px, .int .i64 py], .agg #[.int .i64 xl, .int .i64 xh, .int .i64 yl, .int .i64 yh]] w fun e w' => e = .returned (arV (toM ⟨px, py⟩ ⟨⟨xl, xh⟩, ⟨yl, yh⟩⟩)) ∧ Ext w w' := by
  unfold toM
  dsimp only
  obtain ⟨R1, hR1⟩ : ∃ R, subS ⟨px, px⟩ ⟨xl, xh⟩ = R := ⟨_, rfl⟩
  obtain ⟨R2, hR2⟩ : ∃ R, subS ⟨py, py⟩ ⟨yl, yh⟩ = R := ⟨_, rfl⟩
  rw [hR1, hR2]
  have H1 := Lib.hid hR1
  have H2 := Lib.hid hR2
  clear hR1 hR2
  go_enter Tryz.func353, Tryz.ntmps353
  go_wp2_with fail
  refine wp_region_forced 15 (Ext _) (Stable.ext _) (Ext.drew (Ext.refl _)) (by kernel_rfl) (by kernel_rfl) ?_
  simp only [List.take_succ_cons, List.take_zero, List.drop_succ_cons, List.drop_zero]
  (repeat' (first | (refine bl_off (by rfl) ?_; simp only [putX]) | (apply bl_op; rfl; (intro w1 h1; obtain ⟨hc, hf, hz⟩ := bcell h1; go_simp; (try go_bits); (first | exact ⟨rfl, Ext.refl _⟩ | (apply gives_call; first | (go_at_call 314; exact fOne_c _ _) | (go_at_call 361; exact fSub_c _ _ _ _ _)) | (go_invoke; go_simp; apply gives_call; first | (go_at_call 314; exact fOne_c _ _) | (go_at_call 361; exact fSub_c _ _ _ _ _)))); simp only [putX]) | (refine bl_split rfl rfl (fun hx => ?_) (fun hx => ?_) <;> simp only [hx])))
  refine bl_nil ?_
  intro w1 h1
  obtain ⟨hc_w1, hf_w1, hz_w1⟩ := bcell h1; (try simp only [szA] at hz_w1); (try have := wz0 w w1); (try have := wz1 w w1); (try have := wz2 w w1); (try have := wz3 w w1); (try have := wz4 w w1)
  go_wp2_with fail
  rw [H1.out, H2.out]
  (try simp only [Exit.inBlock, Exit.then]); apply bodyPost_ret; (focus (simp only [results, Tryz.results353]; go_simp; try rfl)); rfl
  exact ⟨rfl, ext_by⟩
set_option maxRecDepth 20000 in
set_option maxHeartbeats 4000000 in
theorem fDist_c (mu r : Int) (A : Option Addr) (n c : Nat) (px py xl xh yl yh : Int) (w : World) (hr : 0 ≤ r ∧ r ≤ 1048576) (hv : SmA 67108864 (toM ⟨px, py⟩ ⟨⟨xl, xh⟩, ⟨yl, yh⟩⟩)) :
    Calls Tryz.prog 352 #[.agg #[.int .i64 mu, .int .i64 r, .slice A n c, .int .i64 px, .int .i64 py], .agg #[.int .i64 xl, .int .i64 xh, .int .i64 yl, .int .i64 yh]] w fun e w' =>
      e = .returned (.tuple #[.agg #[.int .i64 (qM r (toM ⟨px, py⟩ ⟨⟨xl, xh⟩, ⟨yl, yh⟩⟩)).lo, .int .i64 (qM r (toM ⟨px, py⟩ ⟨⟨xl, xh⟩, ⟨yl, yh⟩⟩)).hi], .agg #[.int .i64 (rM (qM r (toM ⟨px, py⟩ ⟨⟨xl, xh⟩, ⟨yl, yh⟩⟩))).lo, .int .i64 (rM (qM r (toM ⟨px, py⟩ ⟨⟨xl, xh⟩, ⟨yl, yh⟩⟩))).hi]]) ∧ Ext w w' := by
  have HT := Lib.hid fun W => fTo_c mu r A n c px py xl xh yl yh W
  have HE := Lib.hid fun W => fEdge_c mu r A n c px py W hr
  generalize toM ⟨px, py⟩ ⟨⟨xl, xh⟩, ⟨yl, yh⟩⟩ = v at *
  have hq := qM_eq (r := r) hv
  have s1 := squareS_sm hv.1 (by omega)
  have s2 := squareS_sm hv.2 (by omega)
  have q1 := qM_sm hr hv
  obtain ⟨⟨vxl, vxh⟩, vyl, vyh⟩ := v
  dsimp only at hq s1 s2
  have HS : Hid (∀ s ∈ ([squareS ⟨vxl, vxh⟩, squareS ⟨vyl, vyh⟩] : List Sp), Sm 72057594037927936 s) := by
    intro s hs
    simp only [List.mem_cons, List.not_mem_nil, or_false] at hs
    unfold Sm
    rcases hs with rfl | rfl <;> omega
  generalize qM r ⟨⟨vxl, vxh⟩, ⟨vyl, vyh⟩⟩ = Q at *
  obtain ⟨ql, qh⟩ := Q
  have HR := Lib.hid fun W => spRoots_c ql qh W
  unfold rM
  generalize edgeM r = E at *
  simp only [Sp.mk.injEq] at hq
  have HQ := Lib.hid hq
  obtain ⟨X, hX⟩ : ∃ X, squareS ⟨vxl, vxh⟩ = X := ⟨_, rfl⟩
  obtain ⟨Y, hY⟩ : ∃ Y, squareS ⟨vyl, vyh⟩ = Y := ⟨_, rfl⟩
  rw [hX, hY] at HS HQ
  rw [hX] at s1
  rw [hY] at s2
  have HX := Lib.hid hX
  have HY := Lib.hid hY
  obtain ⟨Xl, Xh⟩ := X
  obtain ⟨Yl, Yh⟩ := Y
  dsimp only at s1 s2 HQ q1
  have Q1 := Lib.hid q1
  generalize rootsM ⟨ql, qh⟩ = R at *
  obtain ⟨⟨rl, rh⟩, re⟩ := R
  clear hX hY hq hv hr q1
  go_enter Tryz.func352, Tryz.ntmps352
  go_wp2_with fail
  refine (HT.out _).mono ?_
  rintro e w1 ⟨rfl, h1⟩
  obtain ⟨hc_w1, hf_w1, hz_w1⟩ := bcell h1; (try simp only [szA] at hz_w1); (try have := wz0 w w1); (try have := wz1 w w1); (try have := wz2 w w1); (try have := wz3 w w1); (try have := wz4 w w1)
  go_wp2_with fail
  refine wp_region_forced 6 (Ext _) (Stable.ext _) (Ext.drew (Ext.refl _)) (by kernel_rfl) (by kernel_rfl) ?_
  simp only [List.take_succ_cons, List.take_zero, List.drop_succ_cons, List.drop_zero]
  (repeat' (first | (refine bl_off (by rfl) ?_; simp only [putX]) | (apply bl_op; rfl; (intro w1 h1; obtain ⟨hc, hf, hz⟩ := bcell h1; go_simp; (try go_bits); (first | exact ⟨rfl, Ext.refl _⟩ | (apply gives_call; first | (go_at_call 359; exact fSquare_c _ _ _)) | (go_invoke; go_simp; apply gives_call; first | (go_at_call 359; exact fSquare_c _ _ _)))); simp only [putX]) | (refine bl_split rfl rfl (fun hx => ?_) (fun hx => ?_) <;> simp only [hx])))
  refine bl_nil ?_
  intro w2 h2
  obtain ⟨hc_w2, hf_w2, hz_w2⟩ := bcell h2; (try simp only [szA] at hz_w2); (try have := wz0 w w2); (try have := wz1 w w2); (try have := wz2 w w2); (try have := wz3 w w2); (try have := wz4 w w2)
  go_wp2_with fail
  rw [HX.out, HY.out]
  dsimp only
  have HA := Lib.hid (fAdd_c _ 2 2 [⟨Xl, Xh⟩, ⟨Yl, Yh⟩] (w2.alloc (.cells #[.int .i64 Xl, .int .i64 Xh, .int .i64 Yl, .int .i64 Yh] 26)) (sp_slice [⟨Xl, Xh⟩, ⟨Yl, Yh⟩] (Blk.newAt rfl) (by simp)) HS.out (by simp))
  have hsum : ([⟨Xl, Xh⟩, ⟨Yl, Yh⟩] : List Sp).foldl sumS ⟨0, 0⟩ = ⟨Xl + Yl, Xh + Yh⟩ := by simp [sumS]
  rw [hsum] at HA
  refine HA.out.mono ?_
  rintro e w3 ⟨rfl, h3⟩
  have B2 : Blk w3 w.heap.size 329 #[.int .i64 mu, .int .i64 r, .slice A n c, .int .i64 px, .int .i64 py] := ((((Blk.ext ((((Blk.newAt rfl).alloc _).alloc _).alloc _) h1).alloc _).ext h2).alloc _).ext h3
  have B4 : Blk w3 (w.heap.size + 1 + 1) 26 #[.int .i64 0, .int .i64 0] := ((((Blk.ext ((Blk.newAt (by simp)).alloc _) h1).alloc _).ext h2).alloc _).ext h3
  have B5 : Blk w3 (w.heap.size + 1 + 1 + 1) 26 #[.int .i64 0, .int .i64 0] := ((((Blk.ext (Blk.newAt (by simp)) h1).alloc _).ext h2).alloc _).ext h3
  have E3 : Ext w w3 := ext_by
  clear h1 h2 h3 hc_w1 hc_w2 hf_w1 hf_w2 hz_w1 hz_w2
  have c4 := B4.cell
  have f4 := B4.frozen
  have l4 := B4.lt
  go_wp2_with fail
  have B2' := B2.far (p := ⟨w.heap.size + 1 + 1, 0, none⟩) (by dsimp only; omega) (.int .i64 (Xl + Yl)) |>.far (p := ⟨w.heap.size + 1 + 1, 1, none⟩) (by dsimp only; omega) (.int .i64 (Xh + Yh))
  have B4' := (B4.set_ 0 (.int .i64 (Xl + Yl))).set_ 1 (.int .i64 (Xh + Yh))
  have B5' := B5.far (p := ⟨w.heap.size + 1 + 1, 0, none⟩) (by dsimp only; omega) (.int .i64 (Xl + Yl)) |>.far (p := ⟨w.heap.size + 1 + 1, 1, none⟩) (by dsimp only; omega) (.int .i64 (Xh + Yh))
  have E3' := (E3.set (p := ⟨w.heap.size + 1 + 1, 0, none⟩) (by dsimp only; omega) (.int .i64 (Xl + Yl))).set (p := ⟨w.heap.size + 1 + 1, 1, none⟩) (by dsimp only; omega) (.int .i64 (Xh + Yh))
  clear B2 B4 B5 E3 c4 f4 l4
  generalize World.setCell _ _ _ = W3 at *
  have c2 := B2'.cell
  have l2 := B2'.lt
  have c4 := B4'.cell
  have l4 := B4'.lt
  refine wp_region_forced 11 (Ext _) (Stable.ext _) (Ext.drew (Ext.refl _)) (by kernel_rfl) (by kernel_rfl) ?_
  simp only [List.take_succ_cons, List.take_zero, List.drop_succ_cons, List.drop_zero]
  (repeat' (first | (refine bl_off (by rfl) ?_; simp only [putX]) | (apply bl_op; rfl; (intro w1 h1; obtain ⟨hc, hf, hz⟩ := bcell h1; go_simp; (try go_bits); (first | exact ⟨rfl, Ext.refl _⟩ | (apply gives_call; first | (go_at_call 360; exact HE.out _)) | (go_invoke; go_simp; apply gives_call; first | (go_at_call 360; exact HE.out _)))); simp only [putX]) | (refine bl_split rfl rfl (fun hx => ?_) (fun hx => ?_) <;> simp only [hx])))
  refine bl_nil ?_
  intro w4 h4
  rw [← HQ.out.1, ← HQ.out.2]
  have B4 := B4'.ext h4
  have B5 := B5'.ext h4
  have E4 := E3'.trans h4
  clear c2 l2 c4 l4 B2' B4' B5' h4 E3'
  have c4 := B4.cell
  have f4 := B4.frozen
  have l4 := B4.lt
  have c5 := B5.cell
  have f5 := B5.frozen
  have l5 := B5.lt
  go_wp2_with fail
  have B4' := (B4.set_ 0 (.int .i64 ql)).set_ 1 (.int .i64 qh)
  have B5' := B5.far (p := ⟨w.heap.size + 1 + 1, 0, none⟩) (by dsimp only; omega) (.int .i64 ql) |>.far (p := ⟨w.heap.size + 1 + 1, 1, none⟩) (by dsimp only; omega) (.int .i64 qh)
  have E4' := (E4.set (p := ⟨w.heap.size + 1 + 1, 0, none⟩) (by dsimp only; omega) (.int .i64 ql)).set (p := ⟨w.heap.size + 1 + 1, 1, none⟩) (by dsimp only; omega) (.int .i64 qh)
  clear B4 B5 E4 c4 f4 l4 c5 f5 l5
  generalize World.setCell _ _ _ = W4 at *
  refine (HR.out _).mono ?_
  rintro e w5 ⟨rfl, h5⟩
  have B4 := B4'.ext h5
  have B5 := B5'.ext h5
  have E5 := E4'.trans h5
  clear B4' B5' E4' h5
  have c_B4 := B4.cell; have f_B4 := B4.frozen; have l_B4 := B4.lt; have c_B5 := B5.cell; have f_B5 := B5.frozen; have l_B5 := B5.lt
  go_wp2_with fail
  have B4' := B4.far (p := ⟨w.heap.size + 1 + 1 + 1, 0, none⟩) (by dsimp only; omega) (.int .i64 rl) |>.far (p := ⟨w.heap.size + 1 + 1 + 1, 1, none⟩) (by dsimp only; omega) (.int .i64 rh)
  have B5' := (B5.set_ 0 (.int .i64 rl)).set_ 1 (.int .i64 rh)
  have E5' := (E5.set (p := ⟨w.heap.size + 1 + 1 + 1, 0, none⟩) (by dsimp only; omega) (.int .i64 rl)).set (p := ⟨w.heap.size + 1 + 1 + 1, 1, none⟩) (by dsimp only; omega) (.int .i64 rh)
  clear c_B4 f_B4 l_B4 c_B5 f_B5 l_B5
  clear B4 B5 E5
  generalize World.setCell _ _ _ = W5 at *
  have c_B4' := B4'.cell; have f_B4' := B4'.frozen; have l_B4' := B4'.lt; have c_B5' := B5'.cell; have f_B5' := B5'.frozen; have l_B5' := B5'.lt
  go_region
  go_wp2_with fail
  (try simp only [Exit.inBlock, Exit.then]); apply bodyPost_ret; (focus (simp only [results, Tryz.results352]; go_simp; try rfl)); rfl
  exact ⟨rfl, ((((E5'.set (by dsimp only; omega) _).set (by dsimp only; omega) _).set (by dsimp only; omega) _).set (by dsimp only; omega) _).drew⟩
end Go.Proofs.YtiladlangkjoiaaGreat

namespace Go.Proofs.YtiladlangkjoiaaGreat
open Go.RowKit

theorem scaled_eq (mu : Int) (x q : Sp) : scaledM mu x q = ⟨min (scQ mu x.lo q.lo).lo (min (scQ mu x.hi q.lo).lo (min (scQ mu x.lo q.hi).lo (scQ mu x.hi q.hi).lo)), max (scQ mu x.lo q.lo).hi (max (scQ mu x.hi q.lo).hi (max (scQ mu x.lo q.hi).hi (scQ mu x.hi q.hi).hi))⟩ := by
  unfold scaledM cornQ pairsL
  simp only [List.map_cons, List.map_nil]
  rw [joinAll_four (scQ_e _ _ _) (scQ_e _ _ _) (scQ_e _ _ _) (scQ_e _ _ _) (scQ_ok _ _ _)]
  simp only [Sp.mk.injEq]
  constructor <;> omega
def cl (k j : Nat) (v : Int) : Value := .int .i64 (if j < k then v else 0)
theorem blk_set2 {w : World} {b : Nat} {t : TypeId} {cs cs' : Array Value} {i j : Nat} {u v : Value} (h : Blk w b t cs) (hc : (cs.setIfInBounds i u).setIfInBounds j v = cs') : Blk ((w.setCell ⟨b, i, none⟩ u).setCell ⟨b, j, none⟩ v) b t cs' := hc ▸ (h.set_ i u).set_ j v
theorem blk_far2 {w : World} {b g : Nat} {t : TypeId} {cs : Array Value} {i j : Nat} {u v : Value} (h : Blk w g t cs) (hn : g ≠ b) : Blk ((w.setCell ⟨b, i, none⟩ u).setCell ⟨b, j, none⟩ v) g t cs := (h.far hn u).far hn v
theorem ext_set2 {a w : World} {b : Nat} {i j : Nat} {u v : Value} (h : Ext a w) (hn : a.heap.size ≤ b) : Ext a ((w.setCell ⟨b, i, none⟩ u).setCell ⟨b, j, none⟩ v) := (h.set hn u).set hn v
theorem scQ_cases {mu n d : Int} {q : Quo} (h : mulDivM mu n d = q) : (q.e = 0 → scQ mu n d = ⟨q.lo, q.hi, 0⟩) ∧ (q.e ≠ 0 → n < 0 → scQ mu n d = ⟨-1152921504606846976, -1152921504606846976, 0⟩) ∧ (q.e ≠ 0 → 0 ≤ n → scQ mu n d = ⟨1152921504606846976, 1152921504606846976, 0⟩) := by
  subst h
  unfold scQ
  refine ⟨fun h => ?_, fun h hn => ?_, fun h hn => ?_⟩
  · rw [if_pos h, ← h]
  · rw [if_neg h, if_pos hn]
  · rw [if_neg h, if_neg (by omega)]

set_option maxRecDepth 20000 in
set_option maxHeartbeats 8000000 in
theorem fToward_c (mu r : Int) (A : Option Addr) (n c : Nat) (px py xl xh ql qh rl rh : Int) (w : World) (hmu : 0 ≤ mu ∧ mu ≤ 1125899906842624) (hx : Sm 67108864 ⟨xl, xh⟩) (hq : 1 ≤ ql ∧ ql ≤ qh ∧ qh ≤ 9007199254740992) :
    Calls Tryz.prog 354 #[.agg #[.int .i64 mu, .int .i64 r, .slice A n c, .int .i64 px, .int .i64 py], .agg #[.int .i64 xl, .int .i64 xh], .agg #[.int .i64 ql, .int .i64 qh], .agg #[.int .i64 rl, .int .i64 rh]] w fun e w' =>
      e = .returned (.agg #[.int .i64 (towardM mu ⟨xl, xh⟩ ⟨ql, qh⟩ ⟨rl, rh⟩).lo, .int .i64 (towardM mu ⟨xl, xh⟩ ⟨ql, qh⟩ ⟨rl, rh⟩).hi]) ∧ Ext w w' := by
  obtain ⟨hx1, hx2, hx3⟩ := hx
  dsimp only at hx1 hx2 hx3
  have HM := Lib.hid fun (k : Nat) (X D : Int) (h : k < 4 ∧ ((k = 0 ∧ X = xl ∧ D = ql) ∨ (k = 1 ∧ X = xh ∧ D = ql) ∨ (k = 2 ∧ X = xl ∧ D = qh) ∨ (k = 3 ∧ X = xh ∧ D = qh))) W =>
    spMulDiv_c mu X D W (fitsP_of (by omega)) (fitsP_of (by omega)) (fitsP_of (by omega)) (by omega)
  unfold towardM
  rw [scaled_eq]
  dsimp only
  obtain ⟨⟨al, ah, ae⟩, ha⟩ : ∃ q, scQ mu xl ql = q := ⟨_, rfl⟩
  obtain ⟨⟨bl, bh, be⟩, hb⟩ : ∃ q, scQ mu xh ql = q := ⟨_, rfl⟩
  obtain ⟨⟨cl', ch, ce'⟩, hc⟩ : ∃ q, scQ mu xl qh = q := ⟨_, rfl⟩
  obtain ⟨⟨dl, dh, de⟩, hd⟩ : ∃ q, scQ mu xh qh = q := ⟨_, rfl⟩
  rw [ha, hb, hc, hd]
  dsimp only
  have HQ : Hid (∀ (k : Nat) (X D : Int), ((k = 0 ∧ X = xl ∧ D = ql) ∨ (k = 1 ∧ X = xh ∧ D = ql) ∨ (k = 2 ∧ X = xl ∧ D = qh) ∨ (k = 3 ∧ X = xh ∧ D = qh)) → ∃ lo hi, scQ mu X D = ⟨lo, hi, (scQ mu X D).e⟩ ∧ ((k = 0 ∧ lo = al ∧ hi = ah) ∨ (k = 1 ∧ lo = bl ∧ hi = bh) ∨ (k = 2 ∧ lo = cl' ∧ hi = ch) ∨ (k = 3 ∧ lo = dl ∧ hi = dh))) := by
    rintro k X D (⟨rfl, rfl, rfl⟩ | ⟨rfl, rfl, rfl⟩ | ⟨rfl, rfl, rfl⟩ | ⟨rfl, rfl, rfl⟩)
    · exact ⟨al, ah, by rw [ha], by omega⟩
    · exact ⟨bl, bh, by rw [hb], by omega⟩
    · exact ⟨cl', ch, by rw [hc], by omega⟩
    · exact ⟨dl, dh, by rw [hd], by omega⟩
  have HQT := Lib.hid fun (a b : Int) W => fQuot_c a b rl rh W
  have HCL := Lib.hid fun (a b : Int) W => fClamp_c a b W
  unfold clampS
  dsimp only
  clear ha hb hc hd hmu hq
  go_enter Tryz.func354, Tryz.ntmps354
  go_wp2_with fail
  refine wp_region_gen [0, 1, 2, 3, 4, 5, 6, 7, 8, 9] [10, 11] [12, 13] (Ext _) (Ext _) (Stable.ext _) (fun _ h => h) (Ext.drew (Ext.refl _)) (by kernel_rfl) (by kernel_rfl) ?_; simp only [pick, List.drop_succ_cons, List.drop_zero]; (repeat' (first | (refine bl_off (by rfl) ?_; simp only [putX]) | (apply bl_op; rfl; (intro w1 h1; obtain ⟨hc, hf, hz⟩ := bcell h1; go_simp; (try go_bits); (first | exact ⟨rfl, Ext.refl _⟩)); simp only [putX]) | (refine bl_split rfl rfl (fun hx => ?_) (fun hx => ?_) <;> simp only [hx]))); refine bl_nil ?_; refine ag_two (e1 := 307) (e2 := 307) (zs1 := #[.int .i64 0, .int .i64 0]) (zs2 := #[.int .i64 0, .int .i64 0]) (Stable.ext _) (fun _ h => h) (by decide) rfl rfl (fun u v => rfl) (fun v w => ⟨by simp only [opAt]; go_simp, by simp only [opAt]; go_simp⟩) (fun v w => ⟨by simp only [opAt]; go_simp, by simp only [opAt]; go_simp⟩) (fun b9 b10 hb_b9 hb_b10 hne_b9 => ?_); (try simp only [opAt]); (try simp only [Act.put, List.setIfInBounds_toArray]); refine tg_skip (fun w => Ext _ w ∧ Blk w b9 307 #[.int .i64 xl, .int .i64 xh] ∧ Blk w b10 307 #[.int .i64 0, .int .i64 0]) rfl rfl ((Stable.ext _).and ((Stable.blk _ _ _).and (Stable.blk _ _ _))) (fun _ h => h.1) (fun wx hx => ?_) ?_; (focus (obtain ⟨hx, hB1, hB2⟩ := hx; have hcB := hB1.cell; have hfB := hB1.frozen; have hlB := hB1.lt; exact ⟨putC b9 wx 0 [.int .i64 xl, .int .i64 xh], (by simp only [putC, Nat.reduceAdd]; go_simp; try rfl), Ext.putC (by omega) _ 0 hx, (Blk.putAt hB1 rfl), (Blk.putFar (by omega) _ 0 hB2)⟩)); refine tg_skip (fun w => Ext _ w ∧ Blk w b9 307 #[.int .i64 xl, .int .i64 xh] ∧ Blk w b10 307 #[.int .i64 ql, .int .i64 qh]) rfl rfl ((Stable.ext _).and ((Stable.blk _ _ _).and (Stable.blk _ _ _))) (fun _ h => h.1) (fun wx hx => ?_) ?_; (focus (obtain ⟨hx, hB1, hB2⟩ := hx; have hcB := hB2.cell; have hfB := hB2.frozen; have hlB := hB2.lt; exact ⟨putC b10 wx 0 [.int .i64 ql, .int .i64 qh], (by simp only [putC, Nat.reduceAdd]; go_simp; try rfl), Ext.putC (by omega) _ 0 hx, (Blk.putFar (by omega) _ 0 hB1), (Blk.putAt hB2 rfl)⟩)); refine tg_nil ?_; rintro w2 ⟨hE_w2, hB_b9, hB_b10⟩
  simp only [Array.getD_eq_getD_getElem?, List.getElem?_toArray, List.getElem?_cons_succ, List.getElem?_cons_zero, Option.getD_some, List.setIfInBounds_toArray, List.set_cons_zero, List.set_cons_succ]
  go_wp2_with fail
  have B4 : Blk w2 w.heap.size 329 #[.int .i64 mu, .int .i64 r, .slice A n c, .int .i64 px, .int .i64 py] := (((((Blk.newAt rfl).alloc _).alloc _).alloc _).alloc _).ext hE_w2
  have B7 : Blk w2 (w.heap.size + 1 + 1 + 1) 26 #[.int .i64 rl, .int .i64 rh] := ((Blk.newAt (by simp)).alloc _).ext hE_w2
  have B8 : Blk w2 (w.heap.size + 1 + 1 + 1 + 1) 26 #[.int .i64 0, .int .i64 0] := (Blk.newAt (by simp)).ext hE_w2
  have hz := hE_w2.size
  have E2 : Ext w w2 := ext_by
  simp only [World.size_alloc] at hb_b9 hb_b10 hz
  have l9 := hB_b9.lt
  have l10 := hB_b10.lt
  obtain ⟨b11, h11⟩ : ∃ b, b = w2.heap.size := ⟨_, rfl⟩
  rw [← h11]
  have HB4 := Lib.hid (B4.alloc (.cells #[.int .i64 0, .int .i64 0, .int .i64 0, .int .i64 0, .int .i64 0, .int .i64 0, .int .i64 0, .int .i64 0] 226))
  have HB7 := Lib.hid (B7.alloc (.cells #[.int .i64 0, .int .i64 0, .int .i64 0, .int .i64 0, .int .i64 0, .int .i64 0, .int .i64 0, .int .i64 0] 226))
  have HB8 := Lib.hid (B8.alloc (.cells #[.int .i64 0, .int .i64 0, .int .i64 0, .int .i64 0, .int .i64 0, .int .i64 0, .int .i64 0, .int .i64 0] 226))
  have HB9 := Lib.hid (hB_b9.alloc (.cells #[.int .i64 0, .int .i64 0, .int .i64 0, .int .i64 0, .int .i64 0, .int .i64 0, .int .i64 0, .int .i64 0] 226))
  have HB10 := Lib.hid (hB_b10.alloc (.cells #[.int .i64 0, .int .i64 0, .int .i64 0, .int .i64 0, .int .i64 0, .int .i64 0, .int .i64 0, .int .i64 0] 226))
  have HB11 : Hid (Blk (w2.alloc (.cells #[.int .i64 0, .int .i64 0, .int .i64 0, .int .i64 0, .int .i64 0, .int .i64 0, .int .i64 0, .int .i64 0] 226)) b11 226 #[.int .i64 0, .int .i64 0, .int .i64 0, .int .i64 0, .int .i64 0, .int .i64 0, .int .i64 0, .int .i64 0]) := Blk.newAt h11
  have HE := Lib.hid (E2.alloc (.cells #[.int .i64 0, .int .i64 0, .int .i64 0, .int .i64 0, .int .i64 0, .int .i64 0, .int .i64 0, .int .i64 0] 226))
  have o1 : w.heap.size + 1 + 1 + 1 + 1 + 1 ≤ b11 := by omega
  have o2 : b9 < b11 := by omega
  have o3 : b10 < b11 := by omega
  have o4 : w.heap.size + 1 + 1 + 1 + 1 < b9 := by omega
  have o5 : w.heap.size + 1 + 1 + 1 + 1 < b10 := by omega
  clear B4 B7 B8 hB_b9 hB_b10 E2 hE_w2 h11 hz l9 l10 hb_b9 hb_b10
  generalize w2.alloc _ = W2 at *
  go_loopw [30] (fun i wr => ∃ k : Nat, k ≤ 4 ∧ i = .int .i64 k ∧ Hid (Blk wr w.heap.size 329 #[.int .i64 mu, .int .i64 r, .slice A n c, .int .i64 px, .int .i64 py]) ∧ Hid (Blk wr (w.heap.size + 1 + 1 + 1) 26 #[.int .i64 rl, .int .i64 rh]) ∧ Hid (Blk wr (w.heap.size + 1 + 1 + 1 + 1) 26 #[.int .i64 0, .int .i64 0]) ∧
    Hid (Blk wr b9 307 #[.int .i64 xl, .int .i64 xh]) ∧ Hid (Blk wr b10 307 #[.int .i64 ql, .int .i64 qh]) ∧ Hid (Blk wr b11 226 #[cl k 0 al, cl k 0 ah, cl k 1 bl, cl k 1 bh, cl k 2 cl', cl k 2 ch, cl k 3 dl, cl k 3 dh]) ∧ Hid (Ext w wr)) (fun i _ => 4 - (intOf i).toNat)
  case atStart => exact ⟨0, Nat.zero_le _, rfl, HB4, HB7, HB8, HB9, HB10, HB11, HE⟩
  case round =>
    clear HB4 HB7 HB8 HB9 HB10 HB11 HE
    obtain ⟨k, hk, rfl, HB4, HB7, HB8, HB9, HB10, HB11, HE⟩ := hrel
    have c4 := HB4.out.cell
    have c9 := HB9.out.cell
    have c10 := HB10.out.cell
    have l4 := HB4.out.lt
    have l9 := HB9.out.lt
    have l10 := HB10.out.lt
    have H11 := HB11.out
    rcases (show k = 4 ∨ k < 4 by omega) with rfl | hk4
    · simp only [cl, Nat.reduceLT, if_true] at H11
      have c11 := H11.cell
      have f11 := H11.frozen
      have l11 := H11.lt
      go_wp2_with fail
      obtain ⟨b17, h17⟩ : ∃ b, b = wr.heap.size := ⟨_, rfl⟩
      rw [← h17]
      have HC11 := Lib.hid (H11.alloc (.cells #[.int .i64 al, .int .i64 ah] 26))
      have HC17 : Hid (Blk (wr.alloc (.cells #[.int .i64 al, .int .i64 ah] 26)) b17 26 #[.int .i64 al, .int .i64 ah]) := Blk.newAt h17
      have HC7 := Lib.hid (HB7.out.alloc (.cells #[.int .i64 al, .int .i64 ah] 26))
      have HC8 := Lib.hid (HB8.out.alloc (.cells #[.int .i64 al, .int .i64 ah] 26))
      have HCE := Lib.hid (HE.out.alloc (.cells #[.int .i64 al, .int .i64 ah] 26))
      have o6 : b11 < b17 := by omega
      clear h17 c4 c9 c10 c11 f11 l4 l9 l10 l11 H11 HB4 HB7 HB8 HB9 HB10 HB11 HE
      generalize wr.alloc _ = V0 at *
      refine wp_loop_rounds 4 ?_
      rw [rounds_succ]
      have c11 := HC11.out.cell
      have c17 := HC17.out.cell
      have f17 := HC17.out.frozen
      have l11 := HC11.out.lt
      have l17 := HC17.out.lt
      go_wp2_with fail
      refine name_world _ ?_
      intro V0 hV
      have HD11 : Hid (Blk V0 b11 226 #[.int .i64 al, .int .i64 ah, .int .i64 bl, .int .i64 bh, .int .i64 cl', .int .i64 ch, .int .i64 dl, .int .i64 dh]) := by
        rw [hV]; first | exact (blk_far2 HC11.out (by omega)).alloc _ | exact blk_far2 (HC11.out.alloc _) (by omega)
      have HD17 : Hid (Blk V0 b17 26 #[.int .i64 (min al bl), .int .i64 (max ah bh)]) := by
        rw [hV]; first | exact (blk_set2 HC17.out rfl).alloc _ | exact blk_set2 (HC17.out.alloc _) rfl
      have HD7 : Hid (Blk V0 (w.heap.size + 1 + 1 + 1) 26 #[.int .i64 rl, .int .i64 rh]) := by
        rw [hV]; first | exact (blk_far2 HC7.out (by omega)).alloc _ | exact blk_far2 (HC7.out.alloc _) (by omega)
      have HD8 : Hid (Blk V0 (w.heap.size + 1 + 1 + 1 + 1) 26 #[.int .i64 0, .int .i64 0]) := by
        rw [hV]; first | exact (blk_far2 HC8.out (by omega)).alloc _ | exact blk_far2 (HC8.out.alloc _) (by omega)
      have HDE : Hid (Ext w V0) := by
        rw [hV]; first | exact (ext_set2 HCE.out (by omega)).alloc _ | exact ext_set2 (HCE.out.alloc _) (by omega)
      clear c11 c17 f17 l11 l17 HC11 HC17 HC7 HC8 HCE hV
      obtain ⟨HC11, HC17, HC7, HC8, HCE⟩ := And.intro HD11 (And.intro HD17 (And.intro HD7 (And.intro HD8 HDE)))
      clear HD11 HD17 HD7 HD8 HDE
      rw [rounds_succ]
      have c11 := HC11.out.cell
      have c17 := HC17.out.cell
      have f17 := HC17.out.frozen
      have l11 := HC11.out.lt
      have l17 := HC17.out.lt
      go_wp2_with fail
      refine name_world _ ?_
      intro V1 hV
      have HD11 : Hid (Blk V1 b11 226 #[.int .i64 al, .int .i64 ah, .int .i64 bl, .int .i64 bh, .int .i64 cl', .int .i64 ch, .int .i64 dl, .int .i64 dh]) := by
        rw [hV]; first | exact (blk_far2 HC11.out (by omega)).alloc _ | exact blk_far2 (HC11.out.alloc _) (by omega)
      have HD17 : Hid (Blk V1 b17 26 #[.int .i64 (min al (min bl cl')), .int .i64 (max ah (max bh ch))]) := by
        rw [hV]; first | exact (blk_set2 HC17.out rfl).alloc _ | exact blk_set2 (HC17.out.alloc _) rfl
      have HD7 : Hid (Blk V1 (w.heap.size + 1 + 1 + 1) 26 #[.int .i64 rl, .int .i64 rh]) := by
        rw [hV]; first | exact (blk_far2 HC7.out (by omega)).alloc _ | exact blk_far2 (HC7.out.alloc _) (by omega)
      have HD8 : Hid (Blk V1 (w.heap.size + 1 + 1 + 1 + 1) 26 #[.int .i64 0, .int .i64 0]) := by
        rw [hV]; first | exact (blk_far2 HC8.out (by omega)).alloc _ | exact blk_far2 (HC8.out.alloc _) (by omega)
      have HDE : Hid (Ext w V1) := by
        rw [hV]; first | exact (ext_set2 HCE.out (by omega)).alloc _ | exact ext_set2 (HCE.out.alloc _) (by omega)
      clear c11 c17 f17 l11 l17 HC11 HC17 HC7 HC8 HCE hV
      obtain ⟨HC11, HC17, HC7, HC8, HCE⟩ := And.intro HD11 (And.intro HD17 (And.intro HD7 (And.intro HD8 HDE)))
      clear HD11 HD17 HD7 HD8 HDE
      rw [rounds_succ]
      have c11 := HC11.out.cell
      have c17 := HC17.out.cell
      have f17 := HC17.out.frozen
      have l11 := HC11.out.lt
      have l17 := HC17.out.lt
      go_wp2_with fail
      refine name_world _ ?_
      intro V2 hV
      have HD11 : Hid (Blk V2 b11 226 #[.int .i64 al, .int .i64 ah, .int .i64 bl, .int .i64 bh, .int .i64 cl', .int .i64 ch, .int .i64 dl, .int .i64 dh]) := by
        rw [hV]; first | exact (blk_far2 HC11.out (by omega)).alloc _ | exact blk_far2 (HC11.out.alloc _) (by omega)
      have HD17 : Hid (Blk V2 b17 26 #[.int .i64 (min al (min bl (min cl' dl))), .int .i64 (max ah (max bh (max ch dh)))]) := by
        rw [hV]; first | exact (blk_set2 HC17.out rfl).alloc _ | exact blk_set2 (HC17.out.alloc _) rfl
      have HD7 : Hid (Blk V2 (w.heap.size + 1 + 1 + 1) 26 #[.int .i64 rl, .int .i64 rh]) := by
        rw [hV]; first | exact (blk_far2 HC7.out (by omega)).alloc _ | exact blk_far2 (HC7.out.alloc _) (by omega)
      have HD8 : Hid (Blk V2 (w.heap.size + 1 + 1 + 1 + 1) 26 #[.int .i64 0, .int .i64 0]) := by
        rw [hV]; first | exact (blk_far2 HC8.out (by omega)).alloc _ | exact blk_far2 (HC8.out.alloc _) (by omega)
      have HDE : Hid (Ext w V2) := by
        rw [hV]; first | exact (ext_set2 HCE.out (by omega)).alloc _ | exact ext_set2 (HCE.out.alloc _) (by omega)
      clear c11 c17 f17 l11 l17 HC11 HC17 HC7 HC8 HCE hV
      obtain ⟨HC11, HC17, HC7, HC8, HCE⟩ := And.intro HD11 (And.intro HD17 (And.intro HD7 (And.intro HD8 HDE)))
      clear HD11 HD17 HD7 HD8 HDE
      rw [rounds_succ]
      have c17 := HC17.out.cell
      have c7 := HC7.out.cell
      have l17 := HC17.out.lt
      have l7 := HC7.out.lt
      go_wp2_with fail
      refine (HQT.out _ _ _).mono ?_
      rintro e v4 ⟨rfl, h4⟩
      go_wp2_with fail
      refine (HCL.out _ _ _).mono ?_
      rintro e v5 ⟨rfl, h5⟩
      have HX8 := HC8.out.ext (h4.trans h5)
      have HXE := HCE.out.trans (h4.trans h5)
      clear c17 c7 l17 l7 h4 h5
      have c_HX8 := HX8.cell; have f_HX8 := HX8.frozen; have l_HX8 := HX8.lt
      go_wp2_with fail
      (try simp only [Exit.inBlock, Exit.then]); apply bodyPost_ret; (focus (simp only [results, Tryz.results354]; go_simp; try rfl)); rfl
      exact ⟨rfl, ext_set2 HXE (by omega)⟩
    · obtain ⟨X, D, hXD⟩ : ∃ X D, (k = 0 ∧ X = xl ∧ D = ql) ∨ (k = 1 ∧ X = xh ∧ D = ql) ∨ (k = 2 ∧ X = xl ∧ D = qh) ∨ (k = 3 ∧ X = xh ∧ D = qh) := by
        rcases (show k = 0 ∨ k = 1 ∨ k = 2 ∨ k = 3 by omega) with rfl | rfl | rfl | rfl
        · exact ⟨xl, ql, by simp⟩
        · exact ⟨xh, ql, by simp⟩
        · exact ⟨xl, qh, by simp⟩
        · exact ⟨xh, qh, by simp⟩
      have HMk := Lib.hid (HM.out k X D ⟨hk4, hXD⟩)
      obtain ⟨q, hq⟩ : ∃ q, mulDivM mu X D = q := ⟨_, rfl⟩
      rw [hq] at HMk
      have hs := scQ_cases hq
      obtain ⟨lo, hi, hlh, hpos⟩ := HQ.out k X D hXD
      rw [hlh] at hs
      simp only [Quo.mk.injEq] at hs
      obtain ⟨qlo, qhi, qe⟩ := q
      dsimp only at hs
      have e00 : bits .and .i64 0 1 = 0 := by decide
      have e01 : bits .and .i64 1 1 = 1 := by decide
      have e02 : bits .and .i64 2 1 = 0 := by decide
      have e03 : bits .and .i64 3 1 = 1 := by decide
      obtain ⟨m, hm⟩ : ∃ m, m = k + 1 := ⟨_, rfl⟩
      have Hm := Lib.hid hm
      clear hm
      have hcase : (qe = 0 ∧ lo = qlo ∧ hi = qhi) ∨ (qe ≠ 0 ∧ X < 0 ∧ lo = -1152921504606846976 ∧ hi = -1152921504606846976) ∨ (qe ≠ 0 ∧ 0 ≤ X ∧ lo = 1152921504606846976 ∧ hi = 1152921504606846976) := by
        rcases (show qe = 0 ∨ (qe ≠ 0 ∧ X < 0) ∨ (qe ≠ 0 ∧ 0 ≤ X) by omega) with h | ⟨h, hn⟩ | ⟨h, hn⟩
        · exact .inl ⟨h, (hs.1 h).1, (hs.1 h).2.1⟩
        · exact .inr (.inl ⟨h, hn, (hs.2.1 h hn).1, (hs.2.1 h hn).2.1⟩)
        · exact .inr (.inr ⟨h, hn, (hs.2.2 h hn).1, (hs.2.2 h hn).2.1⟩)
      clear hs hq hlh hk4 hk HQ HM
      rcases hXD with ⟨rfl, h1, h2⟩ | ⟨rfl, h1, h2⟩ | ⟨rfl, h1, h2⟩ | ⟨rfl, h1, h2⟩
      all_goals subst h1
      all_goals subst h2
      all_goals simp only [cl, Nat.reduceLT, if_true, if_false] at H11
      all_goals have c11 := H11.cell
      all_goals have f11 := H11.frozen
      all_goals have l11 := H11.lt
      all_goals simp at hpos
      all_goals obtain ⟨hp1, hp2⟩ := hpos
      all_goals rcases hcase with ⟨h, rfl, rfl⟩ | ⟨h, hn, rfl, rfl⟩ | ⟨h, hn, rfl, rfl⟩
      all_goals subst hp1
      all_goals subst hp2
      all_goals go_wp2_with fail
      all_goals refine wp_region_text (by kernel_rfl) (by kernel_rfl) ?_
      all_goals (repeat' (first | (refine bl_off (by rfl) ?_; simp only [putX]) | (apply bl_op; rfl; (intro w1 h1; obtain ⟨hc, hf, hz⟩ := bcell h1; go_simp; (try go_bits); (first | exact ⟨rfl, Ext.refl _⟩ | (apply gives_call; go_at_call 362; exact HMk.out _) | (go_invoke; go_simp; apply gives_call; go_at_call 362; exact HMk.out _))); simp only [putX]) | (refine bl_split rfl rfl (fun hx => ?_) (fun hx => ?_) <;> simp only [hx])))
      all_goals refine bl_nil ?_
      all_goals intro w3 h3
      all_goals have H11' := H11.ext h3
      all_goals clear c4 c9 c10 c11 f11 l4 l9 l10 l11
      all_goals have c11 := H11'.cell
      all_goals have f11 := H11'.frozen
      all_goals have l11 := H11'.lt
      all_goals go_wp2_with fail
      all_goals refine ⟨?_, by simp [intOf]⟩
      all_goals have hm := Hm.out
      all_goals refine ⟨m, by omega, by rw [hm]; rfl, Lib.hid (blk_far2 (HB4.out.ext h3) (by omega)), Lib.hid (blk_far2 (HB7.out.ext h3) (by omega)), Lib.hid (blk_far2 (HB8.out.ext h3) (by omega)), Lib.hid (blk_far2 (HB9.out.ext h3) (by omega)), Lib.hid (blk_far2 (HB10.out.ext h3) (by omega)), Lib.hid (blk_set2 H11' ?_), Lib.hid (ext_set2 (HE.out.trans h3) (by omega))⟩
      all_goals subst hm
      all_goals rfl
end Go.Proofs.YtiladlangkjoiaaGreat

namespace Go.Proofs.YtiladlangkjoiaaGreat
open Go.RowKit

set_option maxRecDepth 20000 in
set_option maxHeartbeats 4000000 in
theorem fPull_c (b : Body) (p : Vec) (a : Ar) (A : Option Addr) (n c : Nat) (w : World) (hb : 0 ≤ b.mu ∧ b.mu ≤ 1125899906842624 ∧ 0 ≤ b.radius ∧ b.radius ≤ 1048576) (hp : placeP p) (ha : SmA 33554432 a) :
    Calls Tryz.prog 339 #[.agg #[.int .i64 b.mu, .int .i64 b.radius, .slice A n c, .int .i64 p.x, .int .i64 p.y], .agg #[.int .i64 a.x.lo, .int .i64 a.x.hi, .int .i64 a.y.lo, .int .i64 a.y.hi]] w fun e w' => e = .returned (arV (pullM b p a)) ∧ Ext w w' := by
  have v1 := toM_sm hp ha
  obtain ⟨mu, r, tr⟩ := b
  obtain ⟨px, py⟩ := p
  obtain ⟨⟨xl, xh⟩, yl, yh⟩ := a
  dsimp only at hb
  have q1 := qM_sm (r := r) ⟨hb.2.2.1, hb.2.2.2⟩ v1
  have HD := Lib.hid fun W => fDist_c mu r A n c px py xl xh yl yh W ⟨hb.2.2.1, hb.2.2.2⟩ v1
  have HT := Lib.hid fun W => fTo_c mu r A n c px py xl xh yl yh W
  unfold pullM
  dsimp only
  generalize toM ⟨px, py⟩ ⟨⟨xl, xh⟩, ⟨yl, yh⟩⟩ = v at *
  obtain ⟨⟨vxl, vxh⟩, vyl, vyh⟩ := v
  generalize qM r _ = q at *
  obtain ⟨ql, qh⟩ := q
  generalize rM _ = rr at *
  obtain ⟨rl, rh⟩ := rr
  have HW := Lib.hid fun (s t : Int) (h : (s = vxl ∧ t = vxh) ∨ (s = vyl ∧ t = vyh)) W => fToward_c mu r A n c px py s t ql qh rl rh W ⟨hb.1, hb.2.1⟩ (by rcases h with ⟨rfl, rfl⟩ | ⟨rfl, rfl⟩; exact v1.1; exact v1.2) q1
  dsimp only
  clear v1 q1 hb hp ha
  go_enter Tryz.func339, Tryz.ntmps339
  go_wp2_with fail
  refine (HD.out _).mono ?_
  rintro e w1 ⟨rfl, h1⟩
  obtain ⟨hc_w1, hf_w1, hz_w1⟩ := bcell h1; (try simp only [szA] at hz_w1); (try have := wz0 w w1); (try have := wz1 w w1); (try have := wz2 w w1); (try have := wz3 w w1); (try have := wz4 w w1)
  go_wp2_with fail
  refine (HT.out _).mono ?_
  rintro e w2 ⟨rfl, h2⟩
  have B2 : Blk w2 w.heap.size 329 #[.int .i64 mu, .int .i64 r, .slice A n c, .int .i64 px, .int .i64 py] := ((((((Blk.newAt rfl).alloc _).alloc _).ext h1).alloc _).alloc _).ext h2
  have B4 : Blk w2 (w.heap.size + 1 + 1) 32 #[.int .i64 0, .int .i64 0, .int .i64 0, .int .i64 0] := ((((Blk.newAt (by simp)).ext h1).alloc _).alloc _).ext h2
  have B5 : Blk w2 w1.heap.size 26 #[.int .i64 ql, .int .i64 qh] := ((Blk.newAt rfl).alloc _).ext h2
  have B6 : Blk w2 (w1.heap.size + 1) 26 #[.int .i64 rl, .int .i64 rh] := (Blk.newAt (by simp)).ext h2
  have E2 : Ext w w2 := ext_by
  clear h1 h2 hc_w1 hf_w1
  have c_B2 := B2.cell; have f_B2 := B2.frozen; have l_B2 := B2.lt; have c_B4 := B4.cell; have f_B4 := B4.frozen; have l_B4 := B4.lt; have c_B5 := B5.cell; have f_B5 := B5.frozen; have l_B5 := B5.lt; have c_B6 := B6.cell; have f_B6 := B6.frozen; have l_B6 := B6.lt
  go_wp2_with fail
  refine name_world _ ?_
  intro W hW
  have C2 := B2.alloc (.cells #[.int .i64 vxl, .int .i64 vxh, .int .i64 vyl, .int .i64 vyh] 32)
  have C4 := B4.alloc (.cells #[.int .i64 vxl, .int .i64 vxh, .int .i64 vyl, .int .i64 vyh] 32)
  have C5 := B5.alloc (.cells #[.int .i64 vxl, .int .i64 vxh, .int .i64 vyl, .int .i64 vyh] 32)
  have C6 := B6.alloc (.cells #[.int .i64 vxl, .int .i64 vxh, .int .i64 vyl, .int .i64 vyh] 32)
  obtain ⟨b7, hb7⟩ : ∃ b, b = w2.heap.size := ⟨_, rfl⟩
  have C7 : Blk (w2.alloc (.cells #[.int .i64 vxl, .int .i64 vxh, .int .i64 vyl, .int .i64 vyh] 32)) b7 32 #[.int .i64 vxl, .int .i64 vxh, .int .i64 vyl, .int .i64 vyh] := Blk.newAt hb7
  have E3 := E2.alloc (.cells #[.int .i64 vxl, .int .i64 vxh, .int .i64 vyl, .int .i64 vyh] 32)
  rw [← hb7]
  rw [← hW] at C2 C4 C5 C6 C7 E3
  clear c_B2 f_B2 l_B2 c_B4 f_B4 l_B4 c_B5 f_B5 l_B5 c_B6 f_B6 l_B6
  clear B2 B4 B5 B6 E2 hW hb7
  have c_C2 := C2.cell; have f_C2 := C2.frozen; have l_C2 := C2.lt; have c_C4 := C4.cell; have f_C4 := C4.frozen; have l_C4 := C4.lt; have c_C5 := C5.cell; have f_C5 := C5.frozen; have l_C5 := C5.lt; have c_C6 := C6.cell; have f_C6 := C6.frozen; have l_C6 := C6.lt; have c_C7 := C7.cell; have f_C7 := C7.frozen; have l_C7 := C7.lt
  refine wp_region_forced 13 (Ext _) (Stable.ext _) (Ext.drew (Ext.refl _)) (by kernel_rfl) (by kernel_rfl) ?_
  simp only [List.take_succ_cons, List.take_zero, List.drop_succ_cons, List.drop_zero]
  (repeat' (first | (refine bl_off (by rfl) ?_; simp only [putX]) | (apply bl_op; rfl; (intro w1 h1; obtain ⟨hc, hf, hz⟩ := bcell h1; go_simp; (try go_bits); (first | exact ⟨rfl, Ext.refl _⟩ | (apply gives_call; first | (go_at_call 354; exact HW.out _ _ (by first | exact .inl ⟨rfl, rfl⟩ | exact .inr ⟨rfl, rfl⟩) _)) | (go_invoke; go_simp; apply gives_call; first | (go_at_call 354; exact HW.out _ _ (by first | exact .inl ⟨rfl, rfl⟩ | exact .inr ⟨rfl, rfl⟩) _)))); simp only [putX]) | (refine bl_split rfl rfl (fun hx => ?_) (fun hx => ?_) <;> simp only [hx])))
  refine bl_nil ?_
  intro w3 h3
  obtain ⟨hc_w3, hf_w3, hz_w3⟩ := bcell h3; (try simp only [szA] at hz_w3); (try have := wz0 w w3); (try have := wz1 w w3); (try have := wz2 w w3); (try have := wz3 w w3); (try have := wz4 w w3)
  go_wp2_with fail
  (try simp only [Exit.inBlock, Exit.then]); apply bodyPost_ret; (focus (simp only [results, Tryz.results339]; go_simp; try rfl)); rfl
  exact ⟨rfl, ext_by⟩
set_option maxRecDepth 20000 in
set_option maxHeartbeats 4000000 in
theorem fOf_c (b off n c : Nat) (home : Int) (l : List Body) (k : Nat) (x : Body) (tick : Int) (A' : Option Addr) (n' c' : Nat) (w : World) (hl : Bodies w (some ⟨b, off, none⟩) n l) (hx : l[k]? = some x)
    (h0 : w.cell? ⟨b, off + k * 3, none⟩ = some (.int .i64 x.mu)) (h1 : w.cell? ⟨b, off + k * 3 + 1, none⟩ = some (.int .i64 x.radius)) (h2 : w.cell? ⟨b, off + k * 3 + 2, none⟩ = some (.slice A' n' c')) :
    Calls Tryz.prog 338 #[.agg #[.slice (some ⟨b, off, none⟩) n c, .int .i64 home], .int .i64 (k : Int), .int .i64 tick] w fun e w' =>
      e = .returned (.agg #[.int .i64 x.mu, .int .i64 x.radius, .slice A' n' c', .int .i64 (atM l home k tick).x, .int .i64 (atM l home k tick).y]) ∧ Ext w w' := by
  have hkn : k < n := by
    have h3 := (List.getElem?_eq_some_iff.1 hx).1
    have h4 := hl.len
    omega
  have hn := hl.le
  have HA := Lib.hid fun W (hW : Ext w W) => At_c (some ⟨b, off, none⟩) n c home k tick l W (Bodies.ext hW hl)
  generalize atM l home k tick = p at *
  obtain ⟨px, py⟩ := p
  obtain ⟨mu, r, tr⟩ := x
  dsimp only at h0 h1
  have hbl : b < w.heap.size := World.block_lt_of_cell? w _ h0
  have hbl1 : b < w.heap.size + 1 := by omega
  have hbl2 : b < w.heap.size + 1 + 1 := by omega
  clear hl hx
  go_enter Tryz.func338, Tryz.ntmps338
  go_wp2_with fail
  refine wp_region_forced 10 (Ext _) (Stable.ext _) (Ext.drew (Ext.refl _)) (by kernel_rfl) (by kernel_rfl) ?_
  simp only [List.take_succ_cons, List.take_zero, List.drop_succ_cons, List.drop_zero]
  (repeat' (first | (refine bl_off (by rfl) ?_; simp only [putX]) | (apply bl_op; rfl; (intro w1 h1; obtain ⟨hc, hf, hz⟩ := bcell h1; go_simp; (try go_bits); (first | exact ⟨rfl, Ext.refl _⟩ | (apply gives_call; first | (go_at_call 86; exact HA.out _ ext_by)) | (go_invoke; go_simp; apply gives_call; first | (go_at_call 86; exact HA.out _ ext_by)))); simp only [putX]) | (refine bl_split rfl rfl (fun hx => ?_) (fun hx => ?_) <;> simp only [hx])))
  refine bl_nil ?_
  intro w1 h1
  obtain ⟨hc_w1, hf_w1, hz_w1⟩ := bcell h1; (try simp only [szA] at hz_w1); (try have := wz0 w w1); (try have := wz1 w w1); (try have := wz2 w w1); (try have := wz3 w w1); (try have := wz4 w w1)
  go_wp2_with fail
  (try simp only [Exit.inBlock, Exit.then]); apply bodyPost_ret; (focus (simp only [results, Tryz.results338]; go_simp; try rfl)); rfl
  exact ⟨rfl, ext_by⟩
end Go.Proofs.YtiladlangkjoiaaGreat

namespace Go.Proofs.YtiladlangkjoiaaGreat
open Go.RowKit

theorem part_bd (a b : Sp) : -1152921504606846976 ≤ (partM a b).lo ∧ (partM a b).lo ≤ 1152921504606846976 ∧ -1152921504606846976 ≤ (partM a b).hi ∧ (partM a b).hi ≤ 1152921504606846976 := by
  have := partM_sm a b
  unfold Sm at this; omega
set_option maxHeartbeats 1000000 in
theorem fPart_c (al ah bl bh : Int) (w : World) :
    Calls Tryz.prog 342 #[.agg #[.int .i64 al, .int .i64 ah], .agg #[.int .i64 bl, .int .i64 bh]] w fun e w' => e = .returned (.agg #[.int .i64 (partM ⟨al, ah⟩ ⟨bl, bh⟩).lo, .int .i64 (partM ⟨al, ah⟩ ⟨bl, bh⟩).hi]) ∧ Ext w w' := by
  have H1 := Lib.hid fun W => fMul_c al ah bl bh W
  unfold partM
  generalize mulS _ _ = m at *
  obtain ⟨ml, mh⟩ := m
  have H2 := Lib.hid fun W => fOne_c 1000 W
  have H3 := Lib.hid fun W => fQuot_c ml mh 1000 1000 W
  generalize quotS _ _ = q at *
  obtain ⟨ql, qh⟩ := q
  dsimp only at H1 H3
  go_enter Tryz.func342, Tryz.ntmps342
  go_wp2_with fail
  refine (H1.out _).mono ?_
  rintro e w1 ⟨rfl, h1⟩
  obtain ⟨hc_w1, hf_w1, hz_w1⟩ := bcell h1; (try simp only [szA] at hz_w1); (try have := wz0 w w1); (try have := wz1 w w1); (try have := wz2 w w1); (try have := wz3 w w1); (try have := wz4 w w1)
  go_wp2_with fail
  refine (H2.out _).mono ?_
  rintro e w2 ⟨rfl, h2⟩
  obtain ⟨hc_w2, hf_w2, hz_w2⟩ := bcell h2; (try simp only [szA] at hz_w2); (try have := wz0 w w2); (try have := wz1 w w2); (try have := wz2 w w2); (try have := wz3 w w2); (try have := wz4 w w2)
  go_wp2_with fail
  refine (H3.out _).mono ?_
  rintro e w3 ⟨rfl, h3⟩
  obtain ⟨hc_w3, hf_w3, hz_w3⟩ := bcell h3; (try simp only [szA] at hz_w3); (try have := wz0 w w3); (try have := wz1 w w3); (try have := wz2 w w3); (try have := wz3 w w3); (try have := wz4 w w3)
  go_wp2_with fail
  (try simp only [Exit.inBlock, Exit.then]); apply bodyPost_ret; (focus (simp only [results, Tryz.results342]; go_simp; try rfl)); rfl
  exact ⟨rfl, ext_by⟩
set_option maxRecDepth 20000 in
set_option maxHeartbeats 4000000 in
theorem fLight_c (d : Drf) (s : Ar) (w : World) :
    Calls Tryz.prog 312 #[.agg #[.int .i64 d.light.lo, .int .i64 d.light.hi, .int .i64 d.heat.lo, .int .i64 d.heat.hi, .int .i64 d.gas], .agg #[.int .i64 s.x.lo, .int .i64 s.x.hi, .int .i64 s.y.lo, .int .i64 s.y.hi]] w fun e w' => e = .returned (arV (lightM d s)) ∧ Ext w w' := by
  obtain ⟨⟨ll, lh⟩, ⟨hl, hh⟩, g⟩ := d
  obtain ⟨⟨xl, xh⟩, yl, yh⟩ := s
  unfold lightM minusS
  dsimp only
  go_enter Tryz.func312, Tryz.ntmps312
  go_wp2_with fail
  refine wp_region_forced 13 (Ext _) (Stable.ext _) (Ext.drew (Ext.refl _)) (by kernel_rfl) (by kernel_rfl) ?_
  simp only [List.take_succ_cons, List.take_zero, List.drop_succ_cons, List.drop_zero]
  (repeat' (first | (refine bl_off (by rfl) ?_; simp only [putX]) | (apply bl_op; rfl; (intro w1 h1; obtain ⟨hc, hf, hz⟩ := bcell h1; go_simp; (try go_bits); (first | exact ⟨rfl, Ext.refl _⟩ | (apply gives_call; first | (go_at_call 342; exact fPart_c _ _ _ _ _) | (go_at_call 341; exact fMinus_c _ _ _ (part_bd _ _))) | (go_invoke; go_simp; apply gives_call; first | (go_at_call 342; exact fPart_c _ _ _ _ _) | (go_at_call 341; exact fMinus_c _ _ _ (part_bd _ _))))); simp only [putX]) | (refine bl_split rfl rfl (fun hx => ?_) (fun hx => ?_) <;> simp only [hx])))
  refine bl_nil ?_
  intro w1 h1
  obtain ⟨hc_w1, hf_w1, hz_w1⟩ := bcell h1; (try simp only [szA] at hz_w1); (try have := wz0 w w1); (try have := wz1 w w1); (try have := wz2 w w1); (try have := wz3 w w1); (try have := wz4 w w1)
  go_wp2_with fail
  (try simp only [Exit.inBlock, Exit.then]); apply bodyPost_ret; (focus (simp only [results, Tryz.results312]; go_simp; try rfl)); rfl
  exact ⟨rfl, ext_by⟩
set_option maxRecDepth 20000 in
set_option maxHeartbeats 4000000 in
theorem fHeat_c (d : Drf) (s : Ar) (w : World) :
    Calls Tryz.prog 313 #[.agg #[.int .i64 d.light.lo, .int .i64 d.light.hi, .int .i64 d.heat.lo, .int .i64 d.heat.hi, .int .i64 d.gas], .agg #[.int .i64 s.x.lo, .int .i64 s.x.hi, .int .i64 s.y.lo, .int .i64 s.y.hi]] w fun e w' => e = .returned (arV (heatM d s)) ∧ Ext w w' := by
  obtain ⟨⟨ll, lh⟩, ⟨hl, hh⟩, g⟩ := d
  obtain ⟨⟨xl, xh⟩, yl, yh⟩ := s
  unfold heatM minusS
  dsimp only
  go_enter Tryz.func313, Tryz.ntmps313
  go_wp2_with fail
  refine wp_region_forced 12 (Ext _) (Stable.ext _) (Ext.drew (Ext.refl _)) (by kernel_rfl) (by kernel_rfl) ?_
  simp only [List.take_succ_cons, List.take_zero, List.drop_succ_cons, List.drop_zero]
  (repeat' (first | (refine bl_off (by rfl) ?_; simp only [putX]) | (apply bl_op; rfl; (intro w1 h1; obtain ⟨hc, hf, hz⟩ := bcell h1; go_simp; (try go_bits); (first | exact ⟨rfl, Ext.refl _⟩ | (apply gives_call; first | (go_at_call 342; exact fPart_c _ _ _ _ _) | (go_at_call 341; exact fMinus_c _ _ _ (part_bd _ _))) | (go_invoke; go_simp; apply gives_call; first | (go_at_call 342; exact fPart_c _ _ _ _ _) | (go_at_call 341; exact fMinus_c _ _ _ (part_bd _ _))))); simp only [putX]) | (refine bl_split rfl rfl (fun hx => ?_) (fun hx => ?_) <;> simp only [hx])))
  refine bl_nil ?_
  intro w1 h1
  obtain ⟨hc_w1, hf_w1, hz_w1⟩ := bcell h1; (try simp only [szA] at hz_w1); (try have := wz0 w w1); (try have := wz1 w w1); (try have := wz2 w w1); (try have := wz3 w w1); (try have := wz4 w w1)
  go_wp2_with fail
  (try simp only [Exit.inBlock, Exit.then]); apply bodyPost_ret; (focus (simp only [results, Tryz.results313]; go_simp; try rfl)); rfl
  exact ⟨rfl, ext_by⟩
theorem fAdd2_c (a b : Sp) (B : Nat) (T : TypeId) (W : World) (ha : Sm 72057594037927936 a) (hb : Sm 72057594037927936 b) (hB : Blk W B T #[.int .i64 a.lo, .int .i64 a.hi, .int .i64 b.lo, .int .i64 b.hi]) :
    Calls Tryz.prog 340 #[.slice (some ⟨B, 0, none⟩) 2 2] W fun e w' => e = .returned (.agg #[.int .i64 (a.lo + b.lo), .int .i64 (a.hi + b.hi)]) ∧ Ext W w' := by
  have h := fAdd_c (some ⟨B, 0, none⟩) 2 2 [a, b] W (sp_slice [a, b] hB (by simp)) (by intro s hs; simp only [List.mem_cons, List.not_mem_nil, or_false] at hs; rcases hs with rfl | rfl <;> assumption) (by simp)
  have e : ([a, b] : List Sp).foldl sumS ⟨0, 0⟩ = ⟨a.lo + b.lo, a.hi + b.hi⟩ := by simp [sumS]
  rw [e] at h
  exact h
set_option maxRecDepth 20000 in
set_option maxHeartbeats 8000000 in
theorem fSum_c (A : Option Addr) (n c : Nat) (l : List Ar) (w : World) (hl : Ars w A n l) (hs : ∀ s ∈ l, SmA 36028797018963968 s) (hT : ∀ k, SmA 72057594037927936 ((l.take k).foldl sumA ⟨⟨0, 0⟩, ⟨0, 0⟩⟩)) :
    Calls Tryz.prog 311 #[.slice A n c] w fun e w' => e = .returned (arV (l.foldl sumA ⟨⟨0, 0⟩, ⟨0, 0⟩⟩)) ∧ Ext w w' := by
  have hn := hl.le
  have hln := Lib.hid hl.len
  have HS := Lib.hid hs
  have HT := Lib.hid hT
  clear hs hT
  obtain ⟨T, hTe⟩ : ∃ T, l.foldl sumA ⟨⟨0, 0⟩, ⟨0, 0⟩⟩ = T := ⟨_, rfl⟩
  rw [hTe]
  have HTe := Lib.hid hTe
  clear hTe
  go_enter Tryz.func311, Tryz.ntmps311
  go_wp2_with fail
  go_loopw [8] (fun i wr => ∃ (k : Nat) (o : Ar), k ≤ n ∧ i = .int .i64 k ∧ Hid ((l.take k).foldl sumA ⟨⟨0, 0⟩, ⟨0, 0⟩⟩ = o) ∧ Hid (Blk wr w.heap.size 32 #[.int .i64 0, .int .i64 0, .int .i64 0, .int .i64 0]) ∧ Hid (Blk wr (w.heap.size + 1) 32 #[.int .i64 o.x.lo, .int .i64 o.x.hi, .int .i64 o.y.lo, .int .i64 o.y.hi]) ∧ Ext w wr) (fun i _ => n - (intOf i).toNat)
  case atStart => exact ⟨0, ⟨⟨0, 0⟩, ⟨0, 0⟩⟩, Nat.zero_le _, rfl, rfl, Lib.hid ((Blk.newAt rfl).alloc _), Lib.hid (Blk.newAt (by simp)), ext_by⟩
  case round =>
    obtain ⟨k, o, hk, rfl, HI, HB0, HB1, hb⟩ := hrel
    have hc0 := HB0.out.cell
    have hc1 := HB1.out.cell
    have hf0 := HB0.out.frozen
    have hl0 := HB0.out.lt
    have hl1 := HB1.out.lt
    by_cases hlt : k < n
    · obtain ⟨b, off, x, rfl, HD, hxm, hx⟩ := hl.one hlt
      obtain ⟨hx0, hx1, hx2, hx3⟩ := arAt.ext hb hx
      have hbl : b < wr.heap.size := World.block_lt_of_cell? wr _ hx0
      have hstep : (l.take (k + 1)).foldl sumA ⟨⟨0, 0⟩, ⟨0, 0⟩⟩ = sumA o x := by
        rw [take_snoc HD.out, List.foldl_append, HI.out]; rfl
      have ho := HT.out k
      rw [HI.out] at ho
      have hxs := (HS.out x hxm).mono (show (36028797018963968 : Int) ≤ 72057594037927936 by omega)
      obtain ⟨⟨oxl, oxh⟩, oyl, oyh⟩ := o
      obtain ⟨⟨xxl, xxh⟩, xyl, xyh⟩ := x
      have HA := Lib.hid fun (p q r s : Int) B T W (hB : Blk W B T #[.int .i64 p, .int .i64 q, .int .i64 r, .int .i64 s]) (h : (p = oxl ∧ q = oxh ∧ r = xxl ∧ s = xxh) ∨ (p = oyl ∧ q = oyh ∧ r = xyl ∧ s = xyh)) =>
        fAdd2_c ⟨p, q⟩ ⟨r, s⟩ B T W (by rcases h with ⟨rfl, rfl, rfl, rfl⟩ | ⟨rfl, rfl, rfl, rfl⟩; exact ho.1; exact ho.2) (by rcases h with ⟨rfl, rfl, rfl, rfl⟩ | ⟨rfl, rfl, rfl, rfl⟩; exact hxs.1; exact hxs.2) hB
      have Hstep := Lib.hid hstep
      clear ho hxs hstep hxm hx HI
      go_wp2_with fail
      refine name_world _ ?_
      intro W hW
      have B2 : Blk W w.heap.size 32 #[.int .i64 0, .int .i64 0, .int .i64 0, .int .i64 0] := by rw [hW]; exact HB0.out.alloc _
      have B3 : Blk W (w.heap.size + 1) 32 #[.int .i64 oxl, .int .i64 oxh, .int .i64 oyl, .int .i64 oyh] := by rw [hW]; exact HB1.out.alloc _
      obtain ⟨b5, h5⟩ : ∃ b, b = wr.heap.size := ⟨_, rfl⟩
      have B5 : Blk W b5 32 #[.int .i64 xxl, .int .i64 xxh, .int .i64 xyl, .int .i64 xyh] := by rw [hW]; exact Blk.newAt h5
      have E5 : Ext w W := by rw [hW]; exact hb.alloc _
      rw [← h5]
      have o5 : w.heap.size + 1 < b5 := by omega
      clear hc0 hc1 hf0 hl0 hl1 hW h5 hx0 hx1 hx2 hx3 hbl HB0 HB1
      have c3 := B3.cell
      have c5 := B5.cell
      have l3 := B3.lt
      have l5 := B5.lt
      have f3 := B3.frozen
      have hA1 := HA.out oxl oxh xxl xxh
      have hA2 := HA.out oyl oyh xyl xyh
      have HA1 := Lib.hid fun B T W hB => hA1 B T W hB (.inl ⟨rfl, rfl, rfl, rfl⟩)
      have HA2 := Lib.hid fun B T W hB => hA2 B T W hB (.inr ⟨rfl, rfl, rfl, rfl⟩)
      clear hA1 hA2 HA c3 c5 l3 l5 f3
      refine wp_region_relT [] [⟨0, [], none⟩, ⟨1, [0], none⟩, ⟨2, [], none⟩, ⟨3, [2], none⟩, ⟨4, [1, 3], none⟩, ⟨5, [4], none⟩, ⟨6, [], none⟩, ⟨7, [6], none⟩, ⟨8, [], none⟩, ⟨9, [8], none⟩, ⟨10, [7, 9], none⟩, ⟨11, [10], none⟩, ⟨12, [5, 11], none⟩]
        [(⟨0, [], none⟩, fun _ v _ => v = .pointer (some ⟨w.heap.size + 1, 0, none⟩)),
         (⟨1, [0], none⟩, fun _ v _ => v = .agg #[.int .i64 oxl, .int .i64 oxh]),
         (⟨2, [], none⟩, fun _ v _ => v = .pointer (some ⟨b5, 0, none⟩)),
         (⟨3, [2], none⟩, fun _ v _ => v = .agg #[.int .i64 xxl, .int .i64 xxh]),
         (⟨4, [1, 3], none⟩, fun _ v w => ∃ b, v = .slice (some ⟨b, 0, none⟩) 2 2 ∧ Blk w b 26 #[.int .i64 oxl, .int .i64 oxh, .int .i64 xxl, .int .i64 xxh]),
         (⟨5, [4], none⟩, fun _ v _ => v = .agg #[.int .i64 (oxl + xxl), .int .i64 (oxh + xxh)]),
         (⟨6, [], none⟩, fun _ v _ => v = .pointer (some ⟨w.heap.size + 1, 2, none⟩)),
         (⟨7, [6], none⟩, fun _ v _ => v = .agg #[.int .i64 oyl, .int .i64 oyh]),
         (⟨8, [], none⟩, fun _ v _ => v = .pointer (some ⟨b5, 2, none⟩)),
         (⟨9, [8], none⟩, fun _ v _ => v = .agg #[.int .i64 xyl, .int .i64 xyh]),
         (⟨10, [7, 9], none⟩, fun _ v w => ∃ b, v = .slice (some ⟨b, 0, none⟩) 2 2 ∧ Blk w b 26 #[.int .i64 oyl, .int .i64 oyh, .int .i64 xyl, .int .i64 xyh]),
         (⟨11, [10], none⟩, fun _ v _ => v = .agg #[.int .i64 (oyl + xyl), .int .i64 (oyh + xyh)]),
         (⟨12, [5, 11], none⟩, fun _ v _ => v = .agg #[.int .i64 (oxl + xxl), .int .i64 (oxh + xxh), .int .i64 (oyl + xyl), .int .i64 (oyh + xyh)])]
        [13] (fun _ => True) (Ext W) (Stable.ext _) (fun _ _ => trivial) (Ext.drew (Ext.refl _)) (by kernel_rfl) rfl (by kernel_rfl) ?_
      simp only [pick, List.drop_succ_cons, List.drop_zero]
      refine bl_nil ?_
      simp only [obF, finF, useF, useEq, spoilF, getG, Nat.reduceEqDiff, reduceIte, putP, pick1, List.drop_succ_cons, List.drop_zero, List.map_cons, List.map_nil, spoils, List.all_cons, List.all_nil, Bool.not_false, Bool.and_true]
      refine ⟨⟨?_, ?_, ?_, ?_, ?_, ?_, ?_, ?_, ?_, ?_, ?_, ?_, ?_, trivial⟩, ?_⟩
      · exact ⟨fun _ _ _ _ h _ => h, fun _ _ _ _ _ h => h, fun val w hw _ => runs_val (by go_simp) ⟨rfl, Ext.refl _⟩⟩
      · refine ⟨fun _ _ _ _ h _ => h, fun _ _ _ _ _ h => h, fun val w hw hu => ?_⟩
        obtain ⟨h0, _⟩ := hu
        rw [h0]
        simp only [putX]
        have c3 := (B3.ext hw).cell
        have l3 := (B3.ext hw).lt
        exact runs_val (by go_simp) ⟨rfl, Ext.refl _⟩
      · exact ⟨fun _ _ _ _ h _ => h, fun _ _ _ _ _ h => h, fun val w hw _ => runs_val (by go_simp) ⟨rfl, Ext.refl _⟩⟩
      · refine ⟨fun _ _ _ _ h _ => h, fun _ _ _ _ _ h => h, fun val w hw hu => ?_⟩
        obtain ⟨h0, _⟩ := hu
        rw [h0]
        simp only [putX]
        have c3 := (B5.ext hw).cell
        have l3 := (B5.ext hw).lt
        exact runs_val (by go_simp) ⟨rfl, Ext.refl _⟩
      · refine ⟨fun _ _ _ _ ⟨b, h1, h2⟩ e => ⟨b, h1, h2.ext e⟩, fun _ _ _ _ _ h => h, fun val w hw hu => ?_⟩
        obtain ⟨h0, h1, _⟩ := hu
        rw [h0, h1]
        simp only [putX]
        exact runs_to (w1 := w.alloc (.cells #[.int .i64 oxl, .int .i64 oxh, .int .i64 xxl, .int .i64 xxh] 26)) (by go_simp) ⟨⟨_, rfl, Blk.new _ _ _⟩, Ext.alloc0 _ _⟩
      · refine ⟨fun _ _ _ _ h _ => h, fun _ _ _ _ _ h => h, fun val w hw hu => ?_⟩
        obtain ⟨⟨b4, h1, h2⟩, _⟩ := hu
        rw [h1]
        simp only [putX]
        refine runs_call (f := 340) (args := #[.slice (some ⟨b4, 0, none⟩) 2 2]) (by go_simp) ((HA1.out b4 _ w h2).mono ?_)
        rintro e w1 ⟨rfl, h⟩
        exact ⟨_, rfl, rfl, h⟩
      · exact ⟨fun _ _ _ _ h _ => h, fun _ _ _ _ _ h => h, fun val w hw _ => runs_val (by go_simp) ⟨rfl, Ext.refl _⟩⟩
      · refine ⟨fun _ _ _ _ h _ => h, fun _ _ _ _ _ h => h, fun val w hw hu => ?_⟩
        obtain ⟨h0, _⟩ := hu
        rw [h0]
        simp only [putX]
        have c3 := (B3.ext hw).cell
        have l3 := (B3.ext hw).lt
        exact runs_val (by go_simp) ⟨rfl, Ext.refl _⟩
      · exact ⟨fun _ _ _ _ h _ => h, fun _ _ _ _ _ h => h, fun val w hw _ => runs_val (by go_simp) ⟨rfl, Ext.refl _⟩⟩
      · refine ⟨fun _ _ _ _ h _ => h, fun _ _ _ _ _ h => h, fun val w hw hu => ?_⟩
        obtain ⟨h0, _⟩ := hu
        rw [h0]
        simp only [putX]
        have c3 := (B5.ext hw).cell
        have l3 := (B5.ext hw).lt
        exact runs_val (by go_simp) ⟨rfl, Ext.refl _⟩
      · refine ⟨fun _ _ _ _ ⟨b, h1, h2⟩ e => ⟨b, h1, h2.ext e⟩, fun _ _ _ _ _ h => h, fun val w hw hu => ?_⟩
        obtain ⟨h0, h1, _⟩ := hu
        rw [h0, h1]
        simp only [putX]
        exact runs_to (w1 := w.alloc (.cells #[.int .i64 oyl, .int .i64 oyh, .int .i64 xyl, .int .i64 xyh] 26)) (by go_simp) ⟨⟨_, rfl, Blk.new _ _ _⟩, Ext.alloc0 _ _⟩
      · refine ⟨fun _ _ _ _ h _ => h, fun _ _ _ _ _ h => h, fun val w hw hu => ?_⟩
        obtain ⟨⟨b4, h1, h2⟩, _⟩ := hu
        rw [h1]
        simp only [putX]
        refine runs_call (f := 340) (args := #[.slice (some ⟨b4, 0, none⟩) 2 2]) (by go_simp) ((HA2.out b4 _ w h2).mono ?_)
        rintro e w1 ⟨rfl, h⟩
        exact ⟨_, rfl, rfl, h⟩
      · refine ⟨fun _ _ _ _ h _ => h, fun _ _ _ _ _ h => h, fun val w hw hu => ?_⟩
        obtain ⟨h0, h1, _⟩ := hu
        rw [h0, h1]
        simp only [putX]
        exact runs_val (by go_simp) ⟨rfl, Ext.refl _⟩
      · intro val
        refine tg_skip (fun W' => Ext w W' ∧ Blk W' w.heap.size 32 #[.int .i64 0, .int .i64 0, .int .i64 0, .int .i64 0] ∧ Blk W' (w.heap.size + 1) 32 #[.int .i64 (oxl + xxl), .int .i64 (oxh + xxh), .int .i64 (oyl + xyl), .int .i64 (oyh + xyh)]) rfl rfl ((Stable.ext _).and ((Stable.blk _ _ _).and (Stable.blk _ _ _))) (fun _ _ => trivial) ?_ ?_
        · intro W1 hW1
          obtain ⟨hW1, hfin⟩ := hW1
          have c3 := (B3.ext hW1).cell
          have l3 := (B3.ext hW1).lt
          have f3 := (B3.ext hW1).frozen
          have c2 := B2.ext hW1
          have c3' := B3.ext hW1
          have e1 := E5.trans hW1
          obtain ⟨_, _, _, _, _, _, _, _, _, _, _, _, h12, _⟩ := hfin
          have h12 := h12 trivial
          simp only [putX]
          rw [h12]
          refine ⟨(((W1.setCell ⟨w.heap.size + 1, 0, none⟩ (.int .i64 (oxl + xxl))).setCell ⟨w.heap.size + 1, 1, none⟩ (.int .i64 (oxh + xxh))).setCell ⟨w.heap.size + 1, 2, none⟩ (.int .i64 (oyl + xyl))).setCell ⟨w.heap.size + 1, 3, none⟩ (.int .i64 (oyh + xyh)), by go_simp, ext_set2 (ext_set2 e1 (by omega)) (by omega), blk_far2 (blk_far2 c2 (by omega)) (by omega), blk_set2 (blk_set2 c3' rfl) rfl⟩
        · refine tg_nil ?_
          rintro w8 ⟨e8, b8, c8⟩
          go_wp2_with fail
          exact ⟨⟨k + 1, _, by omega, by go_num, Hstep.out, Lib.hid b8, Lib.hid c8, e8⟩, by simp [intOf]; omega⟩
    · have hkn : k = n := by omega
      have hi := HI.out
      rw [hkn, hln.out, List.take_length] at hi
      have hoT : o = T := hi.symm.trans HTe.out
      subst hoT
      obtain ⟨⟨oxl, oxh⟩, oyl, oyh⟩ := o
      clear hi HI HTe HT HS
      go_wp2_with fail
      (try simp only [Exit.inBlock, Exit.then]); apply bodyPost_ret; (focus (simp only [results, Tryz.results311]; go_simp; try rfl)); rfl
      exact ⟨rfl, ext_by⟩
end Go.Proofs.YtiladlangkjoiaaGreat
