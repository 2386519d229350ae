/- The step of a box: the reference. No condition. -/
import Derived.Test.YtfniicgoeljmdaaGreatSplit
import Derived.Test.YtfniicgoeljmdaaGreatRefFollows
namespace Go.Proofs.YtfniicgoeljmdaaGreat
open Go.RowKit

set_option maxHeartbeats 1000000 in
theorem rSum_c (al ah bl bh : Int) (w : World) (h : (-1152921504606846976 ≤ al ∧ al ≤ 1152921504606846976 ∧ -1152921504606846976 ≤ ah ∧ ah ≤ 1152921504606846976) ∧ -1152921504606846976 ≤ bl ∧ bl ≤ 1152921504606846976 ∧ -1152921504606846976 ≤ bh ∧ bh ≤ 1152921504606846976) :
    Calls Tryz.prog 126 #[.agg #[.int .i64 al, .int .i64 ah], .agg #[.int .i64 bl, .int .i64 bh]] w fun e w' => e = .returned (.agg #[.int .i64 (al + bl), .int .i64 (ah + bh)]) ∧ Ext w w' := by
  obtain ⟨⟨h1, h2, h3, h4⟩, h5, h6, h7, h8⟩ := h
  go_enter Tryz.func126, Tryz.ntmps126
  go_wp2_with fail
  (try simp only [Exit.inBlock, Exit.then]); apply bodyPost_ret; (focus (simp only [results, Tryz.results126]; go_simp; try rfl)); rfl
  exact ⟨rfl, ext_by⟩
set_option maxRecDepth 20000 in
set_option maxHeartbeats 4000000 in
theorem rStep0_c (A : Option Addr) (n c : Nat) (home : Int) (l : List Body) (d : Drf) (tick : Int) (b : Bx) (w : World) (hl : Bodies w A n l) (h1 : wdErr l home d = 0) (h2 : 0 ≤ tick ∧ tick ≤ 1073741824) (h3 : bxErr b = 0) :
    Calls Tryz.prog 74 #[.agg #[.slice A n c, .int .i64 home], .agg #[.int .i64 d.light.lo, .int .i64 d.light.hi, .int .i64 d.heat.lo, .int .i64 d.heat.hi, .int .i64 d.gas], .int .i64 tick, .agg #[.int .i64 b.x.lo, .int .i64 b.x.hi, .int .i64 b.y.lo, .int .i64 b.y.hi, .int .i64 b.u.lo, .int .i64 b.u.hi, .int .i64 b.v.lo, .int .i64 b.v.hi]] w fun e w' =>
      e = .returned (bxV (stepB l home d tick b)) ∧ Ext w w' := by
  have HO := Lib.hid fun W (hW : Ext w W) => gOver_c A n c home l d tick ⟨b.x, b.y⟩ W (Bodies.ext hW hl)
  unfold overM at HO
  rw [if_pos (ask_of h1 h2 h3)] at HO
  have hs := overA_sm (l := l) (home := home) (d := d) (tick := tick) (a := ⟨b.x, b.y⟩) h1
  have hb := bxErr_iff.1 h3
  unfold stepB sumS
  dsimp only at HO ⊢
  generalize overA _ _ _ _ _ = a at *
  obtain ⟨⟨xl, xh⟩, ⟨yl, yh⟩, ⟨ul, uh⟩, vl, vh⟩ := b
  obtain ⟨⟨axl, axh⟩, ayl, ayh⟩ := a
  unfold BxOk Sm at hb
  unfold SmA Sm at hs
  dsimp only at hb hs HO ⊢
  obtain ⟨⟨b1, b2, b3⟩, ⟨b4, b5, b6⟩, ⟨b7, b8, b9⟩, b10, b11, b12⟩ := hb
  obtain ⟨⟨s1, s2, s3⟩, s4, s5, s6⟩ := hs
  clear h1 h2 h3 hl
  go_enter Tryz.func74, Tryz.ntmps74
  go_wp2_with fail
  refine (HO.out _ ext_by).mono ?_
  rintro e w1 ⟨rfl, h1⟩
  obtain ⟨hc_w1, hf_w1, hz_w1⟩ := bcell h1; (try simp only [szA] at hz_w1); (try have := wz0 w w1); (try have := wz1 w w1); (try have := wz2 w w1); (try have := wz3 w w1); (try have := wz4 w w1)
  go_wp2_with fail
  refine wp_region_gen [0, 1, 2, 3, 4, 5, 6, 7, 8, 9] [10, 11] [12, 13] (Ext _) (Ext _) (Stable.ext _) (fun _ h => h) (Ext.drew (Ext.refl _)) (by kernel_rfl) (by kernel_rfl) ?_; simp only [pick, List.drop_succ_cons, List.drop_zero]; (repeat' (first | (refine bl_off (by rfl) ?_; simp only [putX]) | (apply bl_op; rfl; (intro w1 h1; obtain ⟨hc, hf, hz⟩ := bcell h1; go_simp; (try go_bits); (first | exact ⟨rfl, Ext.refl _⟩ | (apply gives_call; go_at_call 126; exact rSum_c _ _ _ _ _ (by omega)) | (go_invoke; go_simp; apply gives_call; go_at_call 126; exact rSum_c _ _ _ _ _ (by omega)))); simp only [putX]) | (refine bl_split rfl rfl (fun hx => ?_) (fun hx => ?_) <;> simp only [hx]))); refine bl_nil ?_; refine ag_two (e1 := 26) (e2 := 26) (zs1 := #[.int .i64 0, .int .i64 0]) (zs2 := #[.int .i64 0, .int .i64 0]) (Stable.ext _) (fun _ h => h) (by decide) rfl rfl (fun u v => rfl) (fun v w => ⟨by simp only [opAt]; go_simp, by simp only [opAt]; go_simp⟩) (fun v w => ⟨by simp only [opAt]; go_simp, by simp only [opAt]; go_simp⟩) (fun b12 b13 hb_b12 hb_b13 hne_b12 => ?_); (try simp only [opAt]); (try simp only [Act.put, List.setIfInBounds_toArray]); refine tg_skip (fun w => Ext _ w ∧ Blk w b12 26 #[.int .i64 (ul + axl), .int .i64 (uh + axh)] ∧ Blk w b13 26 #[.int .i64 0, .int .i64 0]) rfl rfl ((Stable.ext _).and ((Stable.blk _ _ _).and (Stable.blk _ _ _))) (fun _ h => h.1) (fun wx hx => ?_) ?_; (focus (obtain ⟨hx, hB1, hB2⟩ := hx; have hcB := hB1.cell; have hfB := hB1.frozen; have hlB := hB1.lt; exact ⟨putC b12 wx 0 [.int .i64 (ul + axl), .int .i64 (uh + axh)], (by simp only [putC, Nat.reduceAdd]; go_simp; try rfl), Ext.putC (by omega) _ 0 hx, (Blk.putAt hB1 rfl), (Blk.putFar (by omega) _ 0 hB2)⟩)); refine tg_skip (fun w => Ext _ w ∧ Blk w b12 26 #[.int .i64 (ul + axl), .int .i64 (uh + axh)] ∧ Blk w b13 26 #[.int .i64 (vl + ayl), .int .i64 (vh + ayh)]) rfl rfl ((Stable.ext _).and ((Stable.blk _ _ _).and (Stable.blk _ _ _))) (fun _ h => h.1) (fun wx hx => ?_) ?_; (focus (obtain ⟨hx, hB1, hB2⟩ := hx; have hcB := hB2.cell; have hfB := hB2.frozen; have hlB := hB2.lt; exact ⟨putC b13 wx 0 [.int .i64 (vl + ayl), .int .i64 (vh + ayh)], (by simp only [putC, Nat.reduceAdd]; go_simp; try rfl), Ext.putC (by omega) _ 0 hx, (Blk.putFar (by omega) _ 0 hB1), (Blk.putAt hB2 rfl)⟩)); refine tg_nil ?_; rintro w2 ⟨hE_w2, hB_b12, hB_b13⟩
  simp only [Array.getD_eq_getD_getElem?, List.getElem?_toArray, List.getElem?_cons_succ, List.getElem?_cons_zero, Option.getD_some, List.setIfInBounds_toArray, List.set_cons_zero, List.set_cons_succ]
  have E1 : Ext w w1 := ext_by
  have B7 : Blk w1 (w.heap.size + 1 + 1) 38 #[.int .i64 xl, .int .i64 xh, .int .i64 yl, .int .i64 yh, .int .i64 ul, .int .i64 uh, .int .i64 vl, .int .i64 vh] := ((Blk.newAt (by simp)).alloc _).ext h1
  have B8 : Blk w1 (w.heap.size + 1 + 1 + 1) 38 #[.int .i64 0, .int .i64 0, .int .i64 0, .int .i64 0, .int .i64 0, .int .i64 0, .int .i64 0, .int .i64 0] := (Blk.newAt (by simp)).ext h1
  have C7 := (B7.alloc _).ext hE_w2
  have C8 := (B8.alloc _).ext hE_w2
  have E2 := (E1.alloc _).trans hE_w2
  clear h1 hc_w1 hf_w1 hz_w1 B7 B8 E1 hE_w2 hb_b12 hb_b13
  have c_C7 := C7.cell; have f_C7 := C7.frozen; have l_C7 := C7.lt; have c_C8 := C8.cell; have f_C8 := C8.frozen; have l_C8 := C8.lt; have c_hB_b12 := hB_b12.cell; have f_hB_b12 := hB_b12.frozen; have l_hB_b12 := hB_b12.lt; have c_hB_b13 := hB_b13.cell; have f_hB_b13 := hB_b13.frozen; have l_hB_b13 := hB_b13.lt
  go_wp2_with fail
  refine wp_region_forced 11 (Ext _) (Stable.ext _) (Ext.drew (Ext.refl _)) (by kernel_rfl) (by kernel_rfl) ?_
  simp only [List.take_succ_cons, List.take_zero, List.drop_succ_cons, List.drop_zero]
  (repeat' (first | (refine bl_off (by rfl) ?_; simp only [putX]) | (apply bl_op; rfl; (intro w1 h1; obtain ⟨hc, hf, hz⟩ := bcell h1; go_simp; (try go_bits); (first | exact ⟨rfl, Ext.refl _⟩ | (apply gives_call; go_at_call 126; exact rSum_c _ _ _ _ _ (by omega)) | (go_invoke; go_simp; apply gives_call; go_at_call 126; exact rSum_c _ _ _ _ _ (by omega)))); simp only [putX]) | (refine bl_split rfl rfl (fun hx => ?_) (fun hx => ?_) <;> simp only [hx])))
  refine bl_nil ?_
  intro w4 h4
  obtain ⟨hc_w4, hf_w4, hz_w4⟩ := bcell h4; (try simp only [szA] at hz_w4); (try have := wz0 w w4); (try have := wz1 w w4); (try have := wz2 w w4); (try have := wz3 w w4); (try have := wz4 w w4)
  go_wp2_with fail
  have D8 := C8.ext h4
  have E3 := E2.trans h4
  clear c_C7 f_C7 l_C7 c_C8 f_C8 l_C8 c_hB_b12 f_hB_b12 l_hB_b12 c_hB_b13 f_hB_b13 l_hB_b13
  clear C7 C8 hB_b12 hB_b13 E2 h4 hc_w4 hf_w4 hz_w4
  refine name_world _ ?_
  intro W9 hW9
  have Q8 : Blk W9 (w.heap.size + 1 + 1 + 1) 38 #[.int .i64 (xl + (ul + axl)), .int .i64 (xh + (uh + axh)), .int .i64 (yl + (vl + ayl)), .int .i64 (yh + (vh + ayh)), .int .i64 (ul + axl), .int .i64 (uh + axh), .int .i64 (vl + ayl), .int .i64 (vh + ayh)] := by rw [hW9]; exact blk_set2 (blk_set2 (blk_set2 (blk_set2 D8 rfl) rfl) rfl) rfl
  have QE : Ext w W9 := by rw [hW9]; exact ext_set2 (ext_set2 (ext_set2 (ext_set2 E3 (by omega)) (by omega)) (by omega)) (by omega)
  clear hW9
  have c_Q8 := Q8.cell; have f_Q8 := Q8.frozen; have l_Q8 := Q8.lt
  (try simp only [Exit.inBlock, Exit.then]); apply bodyPost_ret; (focus (simp only [results, Tryz.results74]; go_simp; try rfl)); rfl
  exact ⟨rfl, QE⟩
end Go.Proofs.YtfniicgoeljmdaaGreat
