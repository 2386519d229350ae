/- The step of a box: the program. No condition. -/
import Derived.Test.YtfniicgoeljmdaaGreatBoxSet
import Derived.Deep.RegionWith
import Derived.Scope
import Derived.LoopN
namespace Go.Proofs.YtfniicgoeljmdaaGreat
open Go.RowKit

def wdErr (l : List Body) (home : Int) (d : Drf) : Int := if wldErr ⟨l, home⟩ = 0 then driftErr d else wldErr ⟨l, home⟩
theorem wdErr_ok {l : List Body} {home : Int} {d : Drf} : wdErr l home d = 0 ↔ wldErr ⟨l, home⟩ = 0 ∧ driftErr d = 0 := by
  unfold wdErr
  by_cases h : wldErr ⟨l, home⟩ = 0
  · rw [if_pos h]; exact ⟨fun k => ⟨h, k⟩, fun k => k.2⟩
  · rw [if_neg h]; exact ⟨fun k => absurd k h, fun k => absurd k.1 h⟩
set_option maxHeartbeats 1000000 in
theorem oCheckWorld_c (A : Option Addr) (n c : Nat) (home : Int) (l : List Body) (ll lh hl hh g : Int) (w : World) (hw : Bodies w A n l) :
    Calls Tryz.prog 67 #[.agg #[.slice A n c, .int .i64 home], .agg #[.int .i64 ll, .int .i64 lh, .int .i64 hl, .int .i64 hh, .int .i64 g]] w fun e w' => e = .returned (.int .i64 (wdErr l home ⟨⟨ll, lh⟩, ⟨hl, hh⟩, g⟩)) ∧ Ext w w' := by
  have H1 := Lib.hid fun W (hW : Ext w W) => CheckWorld_c A n c home l W (Bodies.ext hW hw)
  have H2 := Lib.hid fun W => fCheckDrift_c ll lh hl hh g W
  unfold wdErr
  clear hw
  generalize wldErr ⟨l, home⟩ = E1 at *
  generalize driftErr ⟨⟨ll, lh⟩, ⟨hl, hh⟩, g⟩ = E2 at *
  by_cases h1 : E1 = 0
  · subst h1
    rw [if_pos rfl]
    go_enter Tryz.func67, Tryz.ntmps67
    go_wp2_with fail
    refine (H1.out _ ext_by).mono ?_
    rintro e w1 ⟨rfl, h1⟩
    obtain ⟨hc_w1, hf_w1, hz_w1⟩ := bcell h1; (try simp only [szA] at hz_w1); (try have := wz0 w w1); (try have := wz1 w w1); (try have := wz2 w w1); (try have := wz3 w w1); (try have := wz4 w w1)
    go_wp2_with fail
    refine (H2.out _).mono ?_
    rintro e w2 ⟨rfl, h2⟩
    obtain ⟨hc_w2, hf_w2, hz_w2⟩ := bcell h2; (try simp only [szA] at hz_w2); (try have := wz0 w w2); (try have := wz1 w w2); (try have := wz2 w w2); (try have := wz3 w w2); (try have := wz4 w w2)
    go_wp2_with fail
    go_ret
    exact ⟨rfl, ext_by⟩
  · rw [if_neg h1]
    go_enter Tryz.func67, Tryz.ntmps67
    go_wp2_with fail
    refine (H1.out _ ext_by).mono ?_
    rintro e w1 ⟨rfl, h1⟩
    obtain ⟨hc_w1, hf_w1, hz_w1⟩ := bcell h1; (try simp only [szA] at hz_w1); (try have := wz0 w w1); (try have := wz1 w w1); (try have := wz2 w w1); (try have := wz3 w w1); (try have := wz4 w w1)
    go_wp2_with fail
    go_ret
    exact ⟨rfl, ext_by⟩
set_option maxHeartbeats 1000000 in
theorem oAdd_c (al ah bl bh : Int) (w : World) (h : (-1152921504606846976 ≤ al ∧ al ≤ 1152921504606846976 ∧ -1152921504606846976 ≤ ah ∧ ah ≤ 1152921504606846976) ∧ -1152921504606846976 ≤ bl ∧ bl ≤ 1152921504606846976 ∧ -1152921504606846976 ≤ bh ∧ bh ≤ 1152921504606846976) :
    Calls Tryz.prog 124 #[.agg #[.int .i64 al, .int .i64 ah], .agg #[.int .i64 bl, .int .i64 bh]] w fun e w' => e = .returned (.agg #[.int .i64 (al + bl), .int .i64 (ah + bh)]) ∧ Ext w w' := by
  obtain ⟨⟨h1, h2, h3, h4⟩, h5, h6, h7, h8⟩ := h
  go_enter Tryz.func124, Tryz.ntmps124
  go_wp2_with fail
  (try simp only [Exit.inBlock, Exit.then]); apply bodyPost_ret; (focus (simp only [results, Tryz.results124]; go_simp; try rfl)); rfl
  exact ⟨rfl, ext_by⟩
theorem bxErr_ok {b : Bx} : bxErr b = 0 ↔ fullB b = true ∧ stErr (lowS b) = 0 ∧ stErr (highS b) = 0 := by
  unfold bxErr
  have t1 := stErr_two (lowS b)
  have t2 := stErr_two (highS b)
  by_cases h : fullB b = true
  · rw [if_pos h]; constructor
    · intro h2; exact ⟨h, by omega, by omega⟩
    · intro h2; omega
  · rw [if_neg h]; constructor
    · intro h2; cases h2
    · intro h2; exact absurd h2.1 h
def BxOk (b : Bx) : Prop := Sm 33554432 b.x ∧ Sm 33554432 b.y ∧ Sm 1048576 b.u ∧ Sm 1048576 b.v
theorem bxErr_iff {b : Bx} : bxErr b = 0 ↔ BxOk b := by
  rw [bxErr_ok, fullB_iff, stErr_ok, stErr_ok]
  unfold BxOk Sm lowS highS
  dsimp only
  omega
def stepB (l : List Body) (home : Int) (d : Drf) (tick : Int) (b : Bx) : Bx :=
  ⟨sumS b.x (sumS b.u (overA l home d tick ⟨b.x, b.y⟩).x), sumS b.y (sumS b.v (overA l home d tick ⟨b.x, b.y⟩).y), sumS b.u (overA l home d tick ⟨b.x, b.y⟩).x, sumS b.v (overA l home d tick ⟨b.x, b.y⟩).y⟩
theorem ask_of {l : List Body} {home : Int} {d : Drf} {tick : Int} {b : Bx} (h1 : wdErr l home d = 0) (h2 : 0 ≤ tick ∧ tick ≤ 1073741824) (h3 : bxErr b = 0) : fAskErr l home d tick ⟨b.x, b.y⟩ = 0 := by
  obtain ⟨k1, k2⟩ := wdErr_ok.1 h1
  obtain ⟨hx, hy, _, _⟩ := bxErr_iff.1 h3
  unfold fAskErr
  rw [if_pos k1, if_pos k2, if_pos ((within_iff _ _ _).2 h2)]
  have ha : areaErr ⟨b.x, b.y⟩ = 0 := by
    unfold areaErr
    rw [if_pos (hx.err2 hy (by omega) (by omega)), if_pos]
    unfold far4 within
    unfold Sm at hx hy
    simp only [Bool.and_eq_true, decide_eq_true_eq]
    omega
  rw [if_pos ha, if_pos]
  unfold inPlace
  unfold Sm at hx hy
  simp only [Bool.and_eq_true, decide_eq_true_eq]
  omega
theorem overA_sm {l : List Body} {home : Int} {d : Drf} {tick : Int} {a : Ar} (h1 : wdErr l home d = 0) : SmA 2305843020000000 (overA l home d tick a) := by
  obtain ⟨k1, k2⟩ := wdErr_ok.1 h1
  obtain ⟨m1, m2, m3⟩ := wld_bodies k1
  unfold overA
  have h := sumL_sm (n := 1048576) (by omega) (pullsM l home tick a) _ _ (((gasM_sm k2).add (lightM_sm d (sunM l home tick a))).add (heatM_sm d (sunM l home tick a))) (pullsF_sm l home tick a l 0)
  have hlen : ((pullsM l home tick a).length : Int) ≤ 8 := by rw [pullsM_len]; omega
  exact h.mono (by omega)
set_option maxRecDepth 20000 in
set_option maxHeartbeats 4000000 in
theorem oStep0_c (A : Option Addr) (n c : Nat) (home : Int) (l : List Body) (d : Drf) (tick : Int) (b : Bx) (w : World) (hl : Bodies w A n l) (h1 : wdErr l home d = 0) (h2 : 0 ≤ tick ∧ tick ≤ 1073741824) (h3 : bxErr b = 0) :
    Calls Tryz.prog 73 #[.agg #[.slice A n c, .int .i64 home], .agg #[.int .i64 d.light.lo, .int .i64 d.light.hi, .int .i64 d.heat.lo, .int .i64 d.heat.hi, .int .i64 d.gas], .int .i64 tick, .agg #[.int .i64 b.x.lo, .int .i64 b.x.hi, .int .i64 b.y.lo, .int .i64 b.y.hi, .int .i64 b.u.lo, .int .i64 b.u.hi, .int .i64 b.v.lo, .int .i64 b.v.hi]] w fun e w' =>
      e = .returned (.tuple #[bxV (stepB l home d tick b), .bool (decide (bxErr (stepB l home d tick b) = 0))]) ∧ Ext w w' := by
  have HO := Lib.hid fun W (hW : Ext w W) => fOver_ok A n c home l d tick ⟨b.x, b.y⟩ W (Bodies.ext hW hl) (ask_of h1 h2 h3)
  have hs := overA_sm (l := l) (home := home) (d := d) (tick := tick) (a := ⟨b.x, b.y⟩) h1
  have hb := bxErr_iff.1 h3
  have HCH := Lib.hid fun W => oCheck_c (stepB l home d tick b) W
  obtain ⟨E, hE⟩ : ∃ E, bxErr (stepB l home d tick b) = E := ⟨_, rfl⟩
  rw [hE] at HCH ⊢
  unfold stepB sumS at HCH ⊢
  dsimp only at HCH HO ⊢
  generalize overA _ _ _ _ _ = a at *
  obtain ⟨⟨xl, xh⟩, ⟨yl, yh⟩, ⟨ul, uh⟩, vl, vh⟩ := b
  obtain ⟨⟨axl, axh⟩, ayl, ayh⟩ := a
  unfold BxOk Sm at hb
  unfold SmA Sm at hs
  dsimp only at hb hs HCH HO ⊢
  obtain ⟨⟨b1, b2, b3⟩, ⟨b4, b5, b6⟩, ⟨b7, b8, b9⟩, b10, b11, b12⟩ := hb
  obtain ⟨⟨s1, s2, s3⟩, s4, s5, s6⟩ := hs
  clear h1 h2 h3 hl hE
  go_enter Tryz.func73, Tryz.ntmps73
  go_wp2_with fail
  refine (HO.out _ ext_by).mono ?_
  rintro e w1 ⟨rfl, h1⟩
  obtain ⟨hc_w1, hf_w1, hz_w1⟩ := bcell h1; (try simp only [szA] at hz_w1); (try have := wz0 w w1); (try have := wz1 w w1); (try have := wz2 w w1); (try have := wz3 w w1); (try have := wz4 w w1)
  go_wp2_with fail
  refine wp_region_gen [0, 1, 2, 3, 4, 5, 6, 7, 8, 9] [10, 11] [12, 13] (Ext _) (Ext _) (Stable.ext _) (fun _ h => h) (Ext.drew (Ext.refl _)) (by kernel_rfl) (by kernel_rfl) ?_; simp only [pick, List.drop_succ_cons, List.drop_zero]; (repeat' (first | (refine bl_off (by rfl) ?_; simp only [putX]) | (apply bl_op; rfl; (intro w1 h1; obtain ⟨hc, hf, hz⟩ := bcell h1; go_simp; (try go_bits); (first | exact ⟨rfl, Ext.refl _⟩ | (apply gives_call; go_at_call 124; exact oAdd_c _ _ _ _ _ (by omega)) | (go_invoke; go_simp; apply gives_call; go_at_call 124; exact oAdd_c _ _ _ _ _ (by omega)))); simp only [putX]) | (refine bl_split rfl rfl (fun hx => ?_) (fun hx => ?_) <;> simp only [hx]))); refine bl_nil ?_; refine ag_two (e1 := 26) (e2 := 26) (zs1 := #[.int .i64 0, .int .i64 0]) (zs2 := #[.int .i64 0, .int .i64 0]) (Stable.ext _) (fun _ h => h) (by decide) rfl rfl (fun u v => rfl) (fun v w => ⟨by simp only [opAt]; go_simp, by simp only [opAt]; go_simp⟩) (fun v w => ⟨by simp only [opAt]; go_simp, by simp only [opAt]; go_simp⟩) (fun b12 b13 hb_b12 hb_b13 hne_b12 => ?_); (try simp only [opAt]); (try simp only [Act.put, List.setIfInBounds_toArray]); refine tg_skip (fun w => Ext _ w ∧ Blk w b12 26 #[.int .i64 (ul + axl), .int .i64 (uh + axh)] ∧ Blk w b13 26 #[.int .i64 0, .int .i64 0]) rfl rfl ((Stable.ext _).and ((Stable.blk _ _ _).and (Stable.blk _ _ _))) (fun _ h => h.1) (fun wx hx => ?_) ?_; (focus (obtain ⟨hx, hB1, hB2⟩ := hx; have hcB := hB1.cell; have hfB := hB1.frozen; have hlB := hB1.lt; exact ⟨putC b12 wx 0 [.int .i64 (ul + axl), .int .i64 (uh + axh)], (by simp only [putC, Nat.reduceAdd]; go_simp; try rfl), Ext.putC (by omega) _ 0 hx, (Blk.putAt hB1 rfl), (Blk.putFar (by omega) _ 0 hB2)⟩)); refine tg_skip (fun w => Ext _ w ∧ Blk w b12 26 #[.int .i64 (ul + axl), .int .i64 (uh + axh)] ∧ Blk w b13 26 #[.int .i64 (vl + ayl), .int .i64 (vh + ayh)]) rfl rfl ((Stable.ext _).and ((Stable.blk _ _ _).and (Stable.blk _ _ _))) (fun _ h => h.1) (fun wx hx => ?_) ?_; (focus (obtain ⟨hx, hB1, hB2⟩ := hx; have hcB := hB2.cell; have hfB := hB2.frozen; have hlB := hB2.lt; exact ⟨putC b13 wx 0 [.int .i64 (vl + ayl), .int .i64 (vh + ayh)], (by simp only [putC, Nat.reduceAdd]; go_simp; try rfl), Ext.putC (by omega) _ 0 hx, (Blk.putFar (by omega) _ 0 hB1), (Blk.putAt hB2 rfl)⟩)); refine tg_nil ?_; rintro w2 ⟨hE_w2, hB_b12, hB_b13⟩
  simp only [Array.getD_eq_getD_getElem?, List.getElem?_toArray, List.getElem?_cons_succ, List.getElem?_cons_zero, Option.getD_some, List.setIfInBounds_toArray, List.set_cons_zero, List.set_cons_succ]
  have E1 : Ext w w1 := ext_by
  have B7 : Blk w1 (w.heap.size + 1 + 1) 38 #[.int .i64 xl, .int .i64 xh, .int .i64 yl, .int .i64 yh, .int .i64 ul, .int .i64 uh, .int .i64 vl, .int .i64 vh] := ((Blk.newAt (by simp)).alloc _).ext h1
  have B8 : Blk w1 (w.heap.size + 1 + 1 + 1) 38 #[.int .i64 0, .int .i64 0, .int .i64 0, .int .i64 0, .int .i64 0, .int .i64 0, .int .i64 0, .int .i64 0] := (Blk.newAt (by simp)).ext h1
  have C7 := (B7.alloc _).ext hE_w2
  have C8 := (B8.alloc _).ext hE_w2
  have E2 := (E1.alloc _).trans hE_w2
  simp only [World.size_alloc] at hb_b12 hb_b13
  have o1 : w.heap.size + 1 + 1 + 1 < b12 := by omega
  have o2 : w.heap.size + 1 + 1 + 1 < b13 := by omega
  have o3 := C8.lt
  clear h1 hc_w1 hf_w1 hz_w1 B7 B8 E1 hE_w2 hb_b12 hb_b13
  have c_C7 := C7.cell; have f_C7 := C7.frozen; have l_C7 := C7.lt; have c_hB_b12 := hB_b12.cell; have f_hB_b12 := hB_b12.frozen; have l_hB_b12 := hB_b12.lt; have c_hB_b13 := hB_b13.cell; have f_hB_b13 := hB_b13.frozen; have l_hB_b13 := hB_b13.lt
  go_wp2_with fail
  refine wp_region_chain1 true [] [0, 1, 2, 3, 4, 5, 6, 7, 8, 9, 10] 11 [12] (Ext _) (Ext _) _ (w.heap.size) 38 #[.int .i64 0, .int .i64 0, .int .i64 0, .int .i64 0, .int .i64 0, .int .i64 0, .int .i64 0, .int .i64 0] (Stable.ext _) (fun _ h => h) (Ext.drew (Ext.refl _)) (by kernel_rfl) (by kernel_rfl) rfl (fun a w => by simp only [pick1, List.drop_succ_cons, List.drop_zero]; go_simp) (fun w h => ⟨h.size, Nat.lt_of_lt_of_le (by omega) h.size⟩) ?_; simp only [XO, pick, List.drop_succ_cons, List.drop_zero]; (repeat' (first | (refine bl_off (by rfl) ?_; simp only [putX]) | (apply bl_op; rfl; (intro w1 h1; obtain ⟨hc, hf, hz⟩ := bcell h1; go_simp; (try go_bits); (first | exact ⟨rfl, Ext.refl _⟩ | (apply gives_call; go_at_call 124; exact oAdd_c _ _ _ _ _ (by omega)) | (go_invoke; go_simp; apply gives_call; go_at_call 124; exact oAdd_c _ _ _ _ _ (by omega)))); simp only [putX]) | (refine bl_split rfl rfl (fun hx => ?_) (fun hx => ?_) <;> simp only [hx]))); refine bl_nil ?_; intro b14 hb_b14 hg_b14; (try simp only [pick1, List.drop_succ_cons, List.drop_zero]); (try simp only [List.setIfInBounds_toArray, List.set_cons_zero, List.set_cons_succ]); refine tl_last rfl rfl (fun wx ⟨hx, hBx⟩ => ?_); have hcB := hBx.cell; have hfB := hBx.frozen; have hlB := hBx.lt; refine ⟨putC b14 wx 0 [.int .i64 (xl + (ul + axl)), .int .i64 (xh + (uh + axh)), .int .i64 (yl + (vl + ayl)), .int .i64 (yh + (vh + ayh)), .int .i64 (ul + axl), .int .i64 (uh + axh), .int .i64 (vl + ayl), .int .i64 (vh + ayh)], (by simp only [putC, Nat.reduceAdd]; go_simp; try rfl), ?_⟩; have q0 := Blk.putAt (l := [.int .i64 (xl + (ul + axl)), .int .i64 (xh + (uh + axh)), .int .i64 (yl + (vl + ayl)), .int .i64 (yh + (vh + ayh)), .int .i64 (ul + axl), .int .i64 (uh + axh), .int .i64 (vl + ayl), .int .i64 (vh + ayh)]) hBx rfl; have p0 := Ext.putC (b := b14) (by omega) [.int .i64 (xl + (ul + axl)), .int .i64 (xh + (uh + axh)), .int .i64 (yl + (vl + ayl)), .int .i64 (yh + (vh + ayh)), .int .i64 (ul + axl), .int .i64 (uh + axh), .int .i64 (vl + ayl), .int .i64 (vh + ayh)] 0 hx; revert q0 p0; clear hcB hfB hBx hlB hx; generalize putC _ _ _ _ = w3; intro hB_b14 hE_w3
  have D8 := C8.ext hE_w3
  have E3 := E2.trans hE_w3
  have o4 := D8.lt
  clear c_C7 f_C7 l_C7 c_hB_b12 f_hB_b12 l_hB_b12 c_hB_b13 f_hB_b13 l_hB_b13
  clear C7 C8 hB_b12 hB_b13 E2 hE_w3
  have c_hB_b14 := hB_b14.cell; have f_hB_b14 := hB_b14.frozen; have l_hB_b14 := hB_b14.lt
  go_wp2_with fail
  go_region_with (go_at_call 37; refine (HCH.out _).mono ?_; rintro e w4 ⟨rfl, h4⟩; have hE4 : Ext w3 w4 := ext_by; have F8 := D8.ext hE4; have f_F8 := F8.frozen; have l_F8 := F8.lt; have c_F8 := F8.cell; have F14 := hB_b14.ext hE4; have c_F14 := F14.cell; have l_F14 := F14.lt)
  all_goals (
    (try dsimp only); repeat' (first | go_values | go_skip | go_guarded | go_step | go_upon | go_in | go_at_K)
    refine name_world _ ?_
    intro W9 hW9
    have Q8 : Blk W9 (w.heap.size + 1 + 1 + 1) 38 #[.int .i64 (xl + (ul + axl)), .int .i64 (xh + (uh + axh)), .int .i64 (yl + (vl + ayl)), .int .i64 (yh + (vh + ayh)), .int .i64 (ul + axl), .int .i64 (uh + axh), .int .i64 (vl + ayl), .int .i64 (vh + ayh)] := by
      rw [hW9]; first | exact blk_set2 (blk_set2 (blk_set2 (blk_set2 F8 rfl) rfl) rfl) rfl | exact Blk.ext (blk_set2 (blk_set2 (blk_set2 (blk_set2 F8 rfl) rfl) rfl) rfl) (Ext.drew (Ext.refl _))
    have QE : Ext w W9 := by
      rw [hW9]; first | exact ext_set2 (ext_set2 (ext_set2 (ext_set2 (E3.trans hE4) (by omega)) (by omega)) (by omega)) (by omega) | exact (ext_set2 (ext_set2 (ext_set2 (ext_set2 (E3.trans hE4) (by omega)) (by omega)) (by omega)) (by omega)).drew
    clear hW9
    have c_Q8 := Q8.cell; have f_Q8 := Q8.frozen; have l_Q8 := Q8.lt
    (try simp only [Exit.inBlock, Exit.then]); apply bodyPost_ret; (focus (simp only [results, Tryz.results73]; go_simp; try rfl)); rfl
    refine ⟨ret_v ?_, QE⟩
    by_cases hE0 : E = 0
    · subst hE0; rfl
    · simp [hE0])
end Go.Proofs.YtfniicgoeljmdaaGreat
