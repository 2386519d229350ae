/- The step of a box: the program. No condition. The step of a box, or which error: the program. No condition. Passages by Home, and verdicts on campaigns: the plain law. No condition. Verdicts on campaigns that ask less; the first reason. Plain law. No condition. What missions do: how great it is, and that parts of spans do no more. Plain law. No condition. A possible successor of a state: the program. No condition. Whether a state may follow another: the program. No condition. Missions that the call itself lists. No condition. -/
import Derived.Test.YtiladlangkjoiaaGreatPushLaw
import Derived.Deep.RegionWith
import Derived.Scope
import Derived.LoopN
import Derived.Test.YtiladlangkjoiaaGreatCorners
import Derived.Test.YtiladlangkjoiaaGreatWideLaw
import Derived.Test.YtiladlangkjoiaaGreatPushMem
import Derived.Test.YtiladlangkjoiaaGreatOwnInts
namespace Go.Proofs.YtiladlangkjoiaaGreat
open Go.RowKit

def wdErr (l : List Body) (home : Int) (d : Drf) : Int := if wldErr ⟨l, home⟩ = 0 then driftErr d else wldErr ⟨l, home⟩
theorem wdErr_ok {l : List Body} {home : Int} {d : Drf} : wdErr l home d = 0 ↔ wldErr ⟨l, home⟩ = 0 ∧ driftErr d = 0 := by
  unfold wdErr
  by_cases h : wldErr ⟨l, home⟩ = 0
  · rw [if_pos h]; exact ⟨fun k => ⟨h, k⟩, fun k => k.2⟩
  · rw [if_neg h]; exact ⟨fun k => absurd k h, fun k => absurd k.1 h⟩
set_option maxHeartbeats 1000000 in
theorem oCheckWorld_c (A : Option Addr) (n c : Nat) (home : Int) (l : List Body) (ll lh hl hh g : Int) (w : World) (hw : Bodies w A n l) :
    Calls Tryz.prog 156 #[.agg #[.slice A n c, .int .i64 home], .agg #[.int .i64 ll, .int .i64 lh, .int .i64 hl, .int .i64 hh, .int .i64 g]] w fun e w' => e = .returned (.int .i64 (wdErr l home ⟨⟨ll, lh⟩, ⟨hl, hh⟩, g⟩)) ∧ Ext w w' := by
  have H1 := Lib.hid fun W (hW : Ext w W) => CheckWorld_c A n c home l W (Bodies.ext hW hw)
  have H2 := Lib.hid fun W => fCheckDrift_c ll lh hl hh g W
  unfold wdErr
  clear hw
  generalize wldErr ⟨l, home⟩ = E1 at *
  generalize driftErr ⟨⟨ll, lh⟩, ⟨hl, hh⟩, g⟩ = E2 at *
  by_cases h1 : E1 = 0
  · subst h1
    rw [if_pos rfl]
    go_enter Tryz.func156, Tryz.ntmps156
    go_wp2_with fail
    refine (H1.out _ ext_by).mono ?_
    rintro e w1 ⟨rfl, h1⟩
    obtain ⟨hc_w1, hf_w1, hz_w1⟩ := bcell h1; (try simp only [szA] at hz_w1); (try have := wz0 w w1); (try have := wz1 w w1); (try have := wz2 w w1); (try have := wz3 w w1); (try have := wz4 w w1)
    go_wp2_with fail
    refine (H2.out _).mono ?_
    rintro e w2 ⟨rfl, h2⟩
    obtain ⟨hc_w2, hf_w2, hz_w2⟩ := bcell h2; (try simp only [szA] at hz_w2); (try have := wz0 w w2); (try have := wz1 w w2); (try have := wz2 w w2); (try have := wz3 w w2); (try have := wz4 w w2)
    go_wp2_with fail
    go_ret
    exact ⟨rfl, ext_by⟩
  · rw [if_neg h1]
    go_enter Tryz.func156, Tryz.ntmps156
    go_wp2_with fail
    refine (H1.out _ ext_by).mono ?_
    rintro e w1 ⟨rfl, h1⟩
    obtain ⟨hc_w1, hf_w1, hz_w1⟩ := bcell h1; (try simp only [szA] at hz_w1); (try have := wz0 w w1); (try have := wz1 w w1); (try have := wz2 w w1); (try have := wz3 w w1); (try have := wz4 w w1)
    go_wp2_with fail
    go_ret
    exact ⟨rfl, ext_by⟩
set_option maxHeartbeats 1000000 in
theorem oAdd_c (al ah bl bh : Int) (w : World) (h : (-1152921504606846976 ≤ al ∧ al ≤ 1152921504606846976 ∧ -1152921504606846976 ≤ ah ∧ ah ≤ 1152921504606846976) ∧ -1152921504606846976 ≤ bl ∧ bl ≤ 1152921504606846976 ∧ -1152921504606846976 ≤ bh ∧ bh ≤ 1152921504606846976) :
    Calls Tryz.prog 298 #[.agg #[.int .i64 al, .int .i64 ah], .agg #[.int .i64 bl, .int .i64 bh]] w fun e w' => e = .returned (.agg #[.int .i64 (al + bl), .int .i64 (ah + bh)]) ∧ Ext w w' := by
  obtain ⟨⟨h1, h2, h3, h4⟩, h5, h6, h7, h8⟩ := h
  go_enter Tryz.func298, Tryz.ntmps298
  go_wp2_with fail
  (try simp only [Exit.inBlock, Exit.then]); apply bodyPost_ret; (focus (simp only [results, Tryz.results298]; go_simp; try rfl)); rfl
  exact ⟨rfl, ext_by⟩
theorem bxErr_ok {b : Bx} : bxErr b = 0 ↔ fullB b = true ∧ stErr (lowS b) = 0 ∧ stErr (highS b) = 0 := by
  unfold bxErr
  have t1 := stErr_two (lowS b)
  have t2 := stErr_two (highS b)
  by_cases h : fullB b = true
  · rw [if_pos h]; constructor
    · intro h2; exact ⟨h, by omega, by omega⟩
    · intro h2; omega
  · rw [if_neg h]; constructor
    · intro h2; cases h2
    · intro h2; exact absurd h2.1 h
def BxOk (b : Bx) : Prop := Sm 33554432 b.x ∧ Sm 33554432 b.y ∧ Sm 1048576 b.u ∧ Sm 1048576 b.v
theorem bxErr_iff {b : Bx} : bxErr b = 0 ↔ BxOk b := by
  rw [bxErr_ok, fullB_iff, stErr_ok, stErr_ok]
  unfold BxOk Sm lowS highS
  dsimp only
  omega
def stepB (l : List Body) (home : Int) (d : Drf) (tick : Int) (b : Bx) : Bx :=
  ⟨sumS b.x (sumS b.u (overA l home d tick ⟨b.x, b.y⟩).x), sumS b.y (sumS b.v (overA l home d tick ⟨b.x, b.y⟩).y), sumS b.u (overA l home d tick ⟨b.x, b.y⟩).x, sumS b.v (overA l home d tick ⟨b.x, b.y⟩).y⟩
theorem ask_of {l : List Body} {home : Int} {d : Drf} {tick : Int} {b : Bx} (h1 : wdErr l home d = 0) (h2 : 0 ≤ tick ∧ tick ≤ 1073741824) (h3 : bxErr b = 0) : fAskErr l home d tick ⟨b.x, b.y⟩ = 0 := by
  obtain ⟨k1, k2⟩ := wdErr_ok.1 h1
  obtain ⟨hx, hy, _, _⟩ := bxErr_iff.1 h3
  unfold fAskErr
  rw [if_pos k1, if_pos k2, if_pos ((within_iff _ _ _).2 h2)]
  have ha : areaErr ⟨b.x, b.y⟩ = 0 := by
    unfold areaErr
    rw [if_pos (hx.err2 hy (by omega) (by omega)), if_pos]
    unfold far4 within
    unfold Sm at hx hy
    simp only [Bool.and_eq_true, decide_eq_true_eq]
    omega
  rw [if_pos ha, if_pos]
  unfold inPlace
  unfold Sm at hx hy
  simp only [Bool.and_eq_true, decide_eq_true_eq]
  omega
theorem overA_sm {l : List Body} {home : Int} {d : Drf} {tick : Int} {a : Ar} (h1 : wdErr l home d = 0) : SmA 2305843020000000 (overA l home d tick a) := by
  obtain ⟨k1, k2⟩ := wdErr_ok.1 h1
  obtain ⟨m1, m2, m3⟩ := wld_bodies k1
  unfold overA
  have h := sumL_sm (n := 1048576) (by omega) (pullsM l home tick a) _ _ (((gasM_sm k2).add (lightM_sm d (sunM l home tick a))).add (heatM_sm d (sunM l home tick a))) (pullsF_sm l home tick a l 0)
  have hlen : ((pullsM l home tick a).length : Int) ≤ 8 := by rw [pullsM_len]; omega
  exact h.mono (by omega)
set_option maxRecDepth 20000 in
set_option maxHeartbeats 4000000 in
theorem oStep0_c (A : Option Addr) (n c : Nat) (home : Int) (l : List Body) (d : Drf) (tick : Int) (b : Bx) (w : World) (hl : Bodies w A n l) (h1 : wdErr l home d = 0) (h2 : 0 ≤ tick ∧ tick ≤ 1073741824) (h3 : bxErr b = 0) :
    Calls Tryz.prog 263 #[.agg #[.slice A n c, .int .i64 home], .agg #[.int .i64 d.light.lo, .int .i64 d.light.hi, .int .i64 d.heat.lo, .int .i64 d.heat.hi, .int .i64 d.gas], .int .i64 tick, .agg #[.int .i64 b.x.lo, .int .i64 b.x.hi, .int .i64 b.y.lo, .int .i64 b.y.hi, .int .i64 b.u.lo, .int .i64 b.u.hi, .int .i64 b.v.lo, .int .i64 b.v.hi]] w fun e w' =>
      e = .returned (.tuple #[bxV (stepB l home d tick b), .bool (decide (bxErr (stepB l home d tick b) = 0))]) ∧ Ext w w' := by
  have HO := Lib.hid fun W (hW : Ext w W) => fOver_ok A n c home l d tick ⟨b.x, b.y⟩ W (Bodies.ext hW hl) (ask_of h1 h2 h3)
  have hs := overA_sm (l := l) (home := home) (d := d) (tick := tick) (a := ⟨b.x, b.y⟩) h1
  have hb := bxErr_iff.1 h3
  have HCH := Lib.hid fun W => oCheck_c (stepB l home d tick b) W
  obtain ⟨E, hE⟩ : ∃ E, bxErr (stepB l home d tick b) = E := ⟨_, rfl⟩
  rw [hE] at HCH ⊢
  unfold stepB sumS at HCH ⊢
  dsimp only at HCH HO ⊢
  generalize overA _ _ _ _ _ = a at *
  obtain ⟨⟨xl, xh⟩, ⟨yl, yh⟩, ⟨ul, uh⟩, vl, vh⟩ := b
  obtain ⟨⟨axl, axh⟩, ayl, ayh⟩ := a
  unfold BxOk Sm at hb
  unfold SmA Sm at hs
  dsimp only at hb hs HCH HO ⊢
  obtain ⟨⟨b1, b2, b3⟩, ⟨b4, b5, b6⟩, ⟨b7, b8, b9⟩, b10, b11, b12⟩ := hb
  obtain ⟨⟨s1, s2, s3⟩, s4, s5, s6⟩ := hs
  clear h1 h2 h3 hl hE
  go_enter Tryz.func263, Tryz.ntmps263
  go_wp2_with fail
  refine (HO.out _ ext_by).mono ?_
  rintro e w1 ⟨rfl, h1⟩
  obtain ⟨hc_w1, hf_w1, hz_w1⟩ := bcell h1; (try simp only [szA] at hz_w1); (try have := wz0 w w1); (try have := wz1 w w1); (try have := wz2 w w1); (try have := wz3 w w1); (try have := wz4 w w1)
  go_wp2_with fail
  refine wp_region_gen [0, 1, 2, 3, 4, 5, 6, 7, 8, 9] [10, 11] [12, 13] (Ext _) (Ext _) (Stable.ext _) (fun _ h => h) (Ext.drew (Ext.refl _)) (by kernel_rfl) (by kernel_rfl) ?_; simp only [pick, List.drop_succ_cons, List.drop_zero]; (repeat' (first | (refine bl_off (by rfl) ?_; simp only [putX]) | (apply bl_op; rfl; (intro w1 h1; obtain ⟨hc, hf, hz⟩ := bcell h1; go_simp; (try go_bits); (first | exact ⟨rfl, Ext.refl _⟩ | (apply gives_call; go_at_call 298; exact oAdd_c _ _ _ _ _ (by omega)) | (go_invoke; go_simp; apply gives_call; go_at_call 298; exact oAdd_c _ _ _ _ _ (by omega)))); simp only [putX]) | (refine bl_split rfl rfl (fun hx => ?_) (fun hx => ?_) <;> simp only [hx]))); refine bl_nil ?_; refine ag_two (e1 := 26) (e2 := 26) (zs1 := #[.int .i64 0, .int .i64 0]) (zs2 := #[.int .i64 0, .int .i64 0]) (Stable.ext _) (fun _ h => h) (by decide) rfl rfl (fun u v => rfl) (fun v w => ⟨by simp only [opAt]; go_simp, by simp only [opAt]; go_simp⟩) (fun v w => ⟨by simp only [opAt]; go_simp, by simp only [opAt]; go_simp⟩) (fun b12 b13 hb_b12 hb_b13 hne_b12 => ?_); (try simp only [opAt]); (try simp only [Act.put, List.setIfInBounds_toArray]); refine tg_skip (fun w => Ext _ w ∧ Blk w b12 26 #[.int .i64 (ul + axl), .int .i64 (uh + axh)] ∧ Blk w b13 26 #[.int .i64 0, .int .i64 0]) rfl rfl ((Stable.ext _).and ((Stable.blk _ _ _).and (Stable.blk _ _ _))) (fun _ h => h.1) (fun wx hx => ?_) ?_; (focus (obtain ⟨hx, hB1, hB2⟩ := hx; have hcB := hB1.cell; have hfB := hB1.frozen; have hlB := hB1.lt; exact ⟨putC b12 wx 0 [.int .i64 (ul + axl), .int .i64 (uh + axh)], (by simp only [putC, Nat.reduceAdd]; go_simp; try rfl), Ext.putC (by omega) _ 0 hx, (Blk.putAt hB1 rfl), (Blk.putFar (by omega) _ 0 hB2)⟩)); refine tg_skip (fun w => Ext _ w ∧ Blk w b12 26 #[.int .i64 (ul + axl), .int .i64 (uh + axh)] ∧ Blk w b13 26 #[.int .i64 (vl + ayl), .int .i64 (vh + ayh)]) rfl rfl ((Stable.ext _).and ((Stable.blk _ _ _).and (Stable.blk _ _ _))) (fun _ h => h.1) (fun wx hx => ?_) ?_; (focus (obtain ⟨hx, hB1, hB2⟩ := hx; have hcB := hB2.cell; have hfB := hB2.frozen; have hlB := hB2.lt; exact ⟨putC b13 wx 0 [.int .i64 (vl + ayl), .int .i64 (vh + ayh)], (by simp only [putC, Nat.reduceAdd]; go_simp; try rfl), Ext.putC (by omega) _ 0 hx, (Blk.putFar (by omega) _ 0 hB1), (Blk.putAt hB2 rfl)⟩)); refine tg_nil ?_; rintro w2 ⟨hE_w2, hB_b12, hB_b13⟩
  simp only [Array.getD_eq_getD_getElem?, List.getElem?_toArray, List.getElem?_cons_succ, List.getElem?_cons_zero, Option.getD_some, List.setIfInBounds_toArray, List.set_cons_zero, List.set_cons_succ]
  have E1 : Ext w w1 := ext_by
  have B7 : Blk w1 (w.heap.size + 1 + 1) 48 #[.int .i64 xl, .int .i64 xh, .int .i64 yl, .int .i64 yh, .int .i64 ul, .int .i64 uh, .int .i64 vl, .int .i64 vh] := ((Blk.newAt (by simp)).alloc _).ext h1
  have B8 : Blk w1 (w.heap.size + 1 + 1 + 1) 48 #[.int .i64 0, .int .i64 0, .int .i64 0, .int .i64 0, .int .i64 0, .int .i64 0, .int .i64 0, .int .i64 0] := (Blk.newAt (by simp)).ext h1
  have C7 := (B7.alloc _).ext hE_w2
  have C8 := (B8.alloc _).ext hE_w2
  have E2 := (E1.alloc _).trans hE_w2
  simp only [World.size_alloc] at hb_b12 hb_b13
  have o1 : w.heap.size + 1 + 1 + 1 < b12 := by omega
  have o2 : w.heap.size + 1 + 1 + 1 < b13 := by omega
  have o3 := C8.lt
  clear h1 hc_w1 hf_w1 hz_w1 B7 B8 E1 hE_w2 hb_b12 hb_b13
  have c_C7 := C7.cell; have f_C7 := C7.frozen; have l_C7 := C7.lt; have c_hB_b12 := hB_b12.cell; have f_hB_b12 := hB_b12.frozen; have l_hB_b12 := hB_b12.lt; have c_hB_b13 := hB_b13.cell; have f_hB_b13 := hB_b13.frozen; have l_hB_b13 := hB_b13.lt
  go_wp2_with fail
  refine wp_region_chain1 true [] [0, 1, 2, 3, 4, 5, 6, 7, 8, 9, 10] 11 [12] (Ext _) (Ext _) _ (w.heap.size) 48 #[.int .i64 0, .int .i64 0, .int .i64 0, .int .i64 0, .int .i64 0, .int .i64 0, .int .i64 0, .int .i64 0] (Stable.ext _) (fun _ h => h) (Ext.drew (Ext.refl _)) (by kernel_rfl) (by kernel_rfl) rfl (fun a w => by simp only [pick1, List.drop_succ_cons, List.drop_zero]; go_simp) (fun w h => ⟨h.size, Nat.lt_of_lt_of_le (by omega) h.size⟩) ?_; simp only [XO, pick, List.drop_succ_cons, List.drop_zero]; (repeat' (first | (refine bl_off (by rfl) ?_; simp only [putX]) | (apply bl_op; rfl; (intro w1 h1; obtain ⟨hc, hf, hz⟩ := bcell h1; go_simp; (try go_bits); (first | exact ⟨rfl, Ext.refl _⟩ | (apply gives_call; go_at_call 298; exact oAdd_c _ _ _ _ _ (by omega)) | (go_invoke; go_simp; apply gives_call; go_at_call 298; exact oAdd_c _ _ _ _ _ (by omega)))); simp only [putX]) | (refine bl_split rfl rfl (fun hx => ?_) (fun hx => ?_) <;> simp only [hx]))); refine bl_nil ?_; intro b14 hb_b14 hg_b14; (try simp only [pick1, List.drop_succ_cons, List.drop_zero]); (try simp only [List.setIfInBounds_toArray, List.set_cons_zero, List.set_cons_succ]); refine tl_last rfl rfl (fun wx ⟨hx, hBx⟩ => ?_); have hcB := hBx.cell; have hfB := hBx.frozen; have hlB := hBx.lt; refine ⟨putC b14 wx 0 [.int .i64 (xl + (ul + axl)), .int .i64 (xh + (uh + axh)), .int .i64 (yl + (vl + ayl)), .int .i64 (yh + (vh + ayh)), .int .i64 (ul + axl), .int .i64 (uh + axh), .int .i64 (vl + ayl), .int .i64 (vh + ayh)], (by simp only [putC, Nat.reduceAdd]; go_simp; try rfl), ?_⟩; have q0 := Blk.putAt (l := [.int .i64 (xl + (ul + axl)), .int .i64 (xh + (uh + axh)), .int .i64 (yl + (vl + ayl)), .int .i64 (yh + (vh + ayh)), .int .i64 (ul + axl), .int .i64 (uh + axh), .int .i64 (vl + ayl), .int .i64 (vh + ayh)]) hBx rfl; have p0 := Ext.putC (b := b14) (by omega) [.int .i64 (xl + (ul + axl)), .int .i64 (xh + (uh + axh)), .int .i64 (yl + (vl + ayl)), .int .i64 (yh + (vh + ayh)), .int .i64 (ul + axl), .int .i64 (uh + axh), .int .i64 (vl + ayl), .int .i64 (vh + ayh)] 0 hx; revert q0 p0; clear hcB hfB hBx hlB hx; generalize putC _ _ _ _ = w3; intro hB_b14 hE_w3
  have D8 := C8.ext hE_w3
  have E3 := E2.trans hE_w3
  have o4 := D8.lt
  clear c_C7 f_C7 l_C7 c_hB_b12 f_hB_b12 l_hB_b12 c_hB_b13 f_hB_b13 l_hB_b13
  clear C7 C8 hB_b12 hB_b13 E2 hE_w3
  have c_hB_b14 := hB_b14.cell; have f_hB_b14 := hB_b14.frozen; have l_hB_b14 := hB_b14.lt
  go_wp2_with fail
  go_region_with (go_at_call 128; refine (HCH.out _).mono ?_; rintro e w4 ⟨rfl, h4⟩; have hE4 : Ext w3 w4 := ext_by; have F8 := D8.ext hE4; have f_F8 := F8.frozen; have l_F8 := F8.lt; have c_F8 := F8.cell; have F14 := hB_b14.ext hE4; have c_F14 := F14.cell; have l_F14 := F14.lt)
  all_goals (
    (try dsimp only); repeat' (first | go_values | go_skip | go_guarded | go_step | go_upon | go_in | go_at_K)
    refine name_world _ ?_
    intro W9 hW9
    have Q8 : Blk W9 (w.heap.size + 1 + 1 + 1) 48 #[.int .i64 (xl + (ul + axl)), .int .i64 (xh + (uh + axh)), .int .i64 (yl + (vl + ayl)), .int .i64 (yh + (vh + ayh)), .int .i64 (ul + axl), .int .i64 (uh + axh), .int .i64 (vl + ayl), .int .i64 (vh + ayh)] := by
      rw [hW9]; first | exact blk_set2 (blk_set2 (blk_set2 (blk_set2 F8 rfl) rfl) rfl) rfl | exact Blk.ext (blk_set2 (blk_set2 (blk_set2 (blk_set2 F8 rfl) rfl) rfl) rfl) (Ext.drew (Ext.refl _))
    have QE : Ext w W9 := by
      rw [hW9]; first | exact ext_set2 (ext_set2 (ext_set2 (ext_set2 (E3.trans hE4) (by omega)) (by omega)) (by omega)) (by omega) | exact (ext_set2 (ext_set2 (ext_set2 (ext_set2 (E3.trans hE4) (by omega)) (by omega)) (by omega)) (by omega)).drew
    clear hW9
    have c_Q8 := Q8.cell; have f_Q8 := Q8.frozen; have l_Q8 := Q8.lt
    (try simp only [Exit.inBlock, Exit.then]); apply bodyPost_ret; (focus (simp only [results, Tryz.results263]; go_simp; try rfl)); rfl
    refine ⟨ret_v ?_, QE⟩
    by_cases hE0 : E = 0
    · subst hE0; rfl
    · simp [hE0])
end Go.Proofs.YtiladlangkjoiaaGreat

namespace Go.Proofs.YtiladlangkjoiaaGreat
open Go.RowKit

structure BxR where
  b : Bx
  e : Int
abbrev bxRV (r : BxR) : Value := .tuple #[.agg #[.int .i64 r.b.x.lo, .int .i64 r.b.x.hi, .int .i64 r.b.y.lo, .int .i64 r.b.y.hi, .int .i64 r.b.u.lo, .int .i64 r.b.u.hi, .int .i64 r.b.v.lo, .int .i64 r.b.v.hi], .int .i64 r.e]
def stepM (l : List Body) (home : Int) (d : Drf) (tick : Int) (b : Bx) : BxR :=
  if wdErr l home d = 0 then (if within tick 0 1073741823 then (if bxErr b = 0 then (if bxErr (stepB l home d tick b) = 0 then ⟨stepB l home d tick b, 0⟩ else ⟨zeroB, 14⟩) else ⟨zeroB, bxErr b⟩) else ⟨zeroB, 2⟩) else ⟨zeroB, wdErr l home d⟩
section
variable (A : Option Addr) (n c : Nat) (home ll lh hl hh g tick xl xh yl yh ul uh vl vh : Int) (w : World)
set_option maxRecDepth 20000
set_option maxHeartbeats 2000000
theorem oStep_w (E : Int) (hE : E ≠ 0) (H : Hid (∀ W, Ext w W → Calls Tryz.prog 156 #[.agg #[.slice A n c, .int .i64 home], .agg #[.int .i64 ll, .int .i64 lh, .int .i64 hl, .int .i64 hh, .int .i64 g]] W fun e w' => e = .returned (.int .i64 E) ∧ Ext W w')) :
    Calls Tryz.prog 250 #[.agg #[.slice A n c, .int .i64 home], .agg #[.int .i64 ll, .int .i64 lh, .int .i64 hl, .int .i64 hh, .int .i64 g], .int .i64 tick, .agg #[.int .i64 xl, .int .i64 xh, .int .i64 yl, .int .i64 yh, .int .i64 ul, .int .i64 uh, .int .i64 vl, .int .i64 vh]] w fun e w' => e = .returned (.tuple #[.agg #[.int .i64 0, .int .i64 0, .int .i64 0, .int .i64 0, .int .i64 0, .int .i64 0, .int .i64 0, .int .i64 0], .int .i64 (E)]) ∧ Ext w w' := by
  go_enter Tryz.func250, Tryz.ntmps250
  go_wp2_with fail
  refine (H.out _ ext_by).mono ?_
  rintro e w1 ⟨rfl, h1⟩
  have G8 : Blk w1 (w.heap.size + 1 + 1 + 1) 48 #[.int .i64 0, .int .i64 0, .int .i64 0, .int .i64 0, .int .i64 0, .int .i64 0, .int .i64 0, .int .i64 0] := (Blk.newAt (by simp)).ext h1
  have GE : Ext w w1 := ext_by
  clear h1
  have c_G8 := G8.cell; have f_G8 := G8.frozen; have l_G8 := G8.lt
  (try dsimp only); repeat' (first | go_values | go_skip | go_guarded | go_step | go_upon | go_in | go_at_K)
  refine name_world _ ?_
  intro W9 hW9
  have Q8 : Blk W9 (w.heap.size + 1 + 1 + 1) 48 #[.int .i64 0, .int .i64 0, .int .i64 0, .int .i64 0, .int .i64 0, .int .i64 0, .int .i64 0, .int .i64 0] := by rw [hW9]; exact blk_set2 (blk_set2 (blk_set2 (blk_set2 G8 rfl) rfl) rfl) rfl
  have QE : Ext w W9 := by rw [hW9]; exact ext_set2 (ext_set2 (ext_set2 (ext_set2 GE (by omega)) (by omega)) (by omega)) (by omega)
  clear hW9
  have c_Q8 := Q8.cell; have f_Q8 := Q8.frozen; have l_Q8 := Q8.lt
  (try simp only [Exit.inBlock, Exit.then]); apply bodyPost_ret; (focus (simp only [results, Tryz.results250]; go_simp; try rfl)); rfl
  exact ⟨rfl, QE⟩
theorem oStep_t (H : Hid (∀ W, Ext w W → Calls Tryz.prog 156 #[.agg #[.slice A n c, .int .i64 home], .agg #[.int .i64 ll, .int .i64 lh, .int .i64 hl, .int .i64 hh, .int .i64 g]] W fun e w' => e = .returned (.int .i64 0) ∧ Ext W w')) (HT : Hid (∀ W, Calls Tryz.prog 151 #[.int .i64 tick, .int .i64 0, .int .i64 1073741823] W fun e w' => e = .returned (.bool false) ∧ Ext W w')) :
    Calls Tryz.prog 250 #[.agg #[.slice A n c, .int .i64 home], .agg #[.int .i64 ll, .int .i64 lh, .int .i64 hl, .int .i64 hh, .int .i64 g], .int .i64 tick, .agg #[.int .i64 xl, .int .i64 xh, .int .i64 yl, .int .i64 yh, .int .i64 ul, .int .i64 uh, .int .i64 vl, .int .i64 vh]] w fun e w' => e = .returned (.tuple #[.agg #[.int .i64 0, .int .i64 0, .int .i64 0, .int .i64 0, .int .i64 0, .int .i64 0, .int .i64 0, .int .i64 0], .int .i64 (2)]) ∧ Ext w w' := by
  go_enter Tryz.func250, Tryz.ntmps250
  go_wp2_with fail
  refine (H.out _ ext_by).mono ?_
  rintro e w1 ⟨rfl, h1⟩
  have G8 : Blk w1 (w.heap.size + 1 + 1 + 1) 48 #[.int .i64 0, .int .i64 0, .int .i64 0, .int .i64 0, .int .i64 0, .int .i64 0, .int .i64 0, .int .i64 0] := (Blk.newAt (by simp)).ext h1
  have GE : Ext w w1 := ext_by
  clear h1
  go_wp2_with fail
  refine (HT.out _).mono ?_
  rintro e w2 ⟨rfl, h2⟩
  have G8' := G8.ext h2
  have GE' := GE.trans h2
  clear h2 G8 GE
  have c_G8' := G8'.cell; have f_G8' := G8'.frozen; have l_G8' := G8'.lt
  (try dsimp only); repeat' (first | go_values | go_skip | go_guarded | go_step | go_upon | go_in | go_at_K)
  refine name_world _ ?_
  intro W9 hW9
  have Q8 : Blk W9 (w.heap.size + 1 + 1 + 1) 48 #[.int .i64 0, .int .i64 0, .int .i64 0, .int .i64 0, .int .i64 0, .int .i64 0, .int .i64 0, .int .i64 0] := by rw [hW9]; exact blk_set2 (blk_set2 (blk_set2 (blk_set2 G8' rfl) rfl) rfl) rfl
  have QE : Ext w W9 := by rw [hW9]; exact ext_set2 (ext_set2 (ext_set2 (ext_set2 GE' (by omega)) (by omega)) (by omega)) (by omega)
  clear hW9
  have c_Q8 := Q8.cell; have f_Q8 := Q8.frozen; have l_Q8 := Q8.lt
  (try simp only [Exit.inBlock, Exit.then]); apply bodyPost_ret; (focus (simp only [results, Tryz.results250]; go_simp; try rfl)); rfl
  exact ⟨rfl, QE⟩
theorem oStep_b (E : Int) (hE : E ≠ 0) (H : Hid (∀ W, Ext w W → Calls Tryz.prog 156 #[.agg #[.slice A n c, .int .i64 home], .agg #[.int .i64 ll, .int .i64 lh, .int .i64 hl, .int .i64 hh, .int .i64 g]] W fun e w' => e = .returned (.int .i64 0) ∧ Ext W w')) (HT : Hid (∀ W, Calls Tryz.prog 151 #[.int .i64 tick, .int .i64 0, .int .i64 1073741823] W fun e w' => e = .returned (.bool true) ∧ Ext W w')) (HC : Hid (∀ W, Calls Tryz.prog 128 #[.agg #[.int .i64 xl, .int .i64 xh, .int .i64 yl, .int .i64 yh, .int .i64 ul, .int .i64 uh, .int .i64 vl, .int .i64 vh]] W fun e w' => e = .returned (.int .i64 E) ∧ Ext W w')) :
    Calls Tryz.prog 250 #[.agg #[.slice A n c, .int .i64 home], .agg #[.int .i64 ll, .int .i64 lh, .int .i64 hl, .int .i64 hh, .int .i64 g], .int .i64 tick, .agg #[.int .i64 xl, .int .i64 xh, .int .i64 yl, .int .i64 yh, .int .i64 ul, .int .i64 uh, .int .i64 vl, .int .i64 vh]] w fun e w' => e = .returned (.tuple #[.agg #[.int .i64 0, .int .i64 0, .int .i64 0, .int .i64 0, .int .i64 0, .int .i64 0, .int .i64 0, .int .i64 0], .int .i64 (E)]) ∧ Ext w w' := by
  go_enter Tryz.func250, Tryz.ntmps250
  go_wp2_with fail
  refine (H.out _ ext_by).mono ?_
  rintro e w1 ⟨rfl, h1⟩
  have G8 : Blk w1 (w.heap.size + 1 + 1 + 1) 48 #[.int .i64 0, .int .i64 0, .int .i64 0, .int .i64 0, .int .i64 0, .int .i64 0, .int .i64 0, .int .i64 0] := (Blk.newAt (by simp)).ext h1
  have G7 : Blk w1 (w.heap.size + 1 + 1) 48 #[.int .i64 xl, .int .i64 xh, .int .i64 yl, .int .i64 yh, .int .i64 ul, .int .i64 uh, .int .i64 vl, .int .i64 vh] := ((Blk.newAt (by simp)).alloc _).ext h1
  have GE : Ext w w1 := ext_by
  clear h1
  go_wp2_with fail
  refine (HT.out _).mono ?_
  rintro e w2 ⟨rfl, h2⟩
  have G8' := G8.ext h2
  have G7' := G7.ext h2
  have GE' := GE.trans h2
  clear h2 G8 GE G7
  have c_G7' := G7'.cell; have f_G7' := G7'.frozen; have l_G7' := G7'.lt
  go_wp2_with fail
  refine (HC.out _).mono ?_
  rintro e w3 ⟨rfl, h3⟩
  have F8 := G8'.ext h3
  have FE := GE'.trans h3
  clear h3 G8' G7' GE'
  have c_F8 := F8.cell; have f_F8 := F8.frozen; have l_F8 := F8.lt
  (try dsimp only); repeat' (first | go_values | go_skip | go_guarded | go_step | go_upon | go_in | go_at_K)
  refine name_world _ ?_
  intro W9 hW9
  have Q8 : Blk W9 (w.heap.size + 1 + 1 + 1) 48 #[.int .i64 0, .int .i64 0, .int .i64 0, .int .i64 0, .int .i64 0, .int .i64 0, .int .i64 0, .int .i64 0] := by rw [hW9]; exact blk_set2 (blk_set2 (blk_set2 (blk_set2 F8 rfl) rfl) rfl) rfl
  have QE : Ext w W9 := by rw [hW9]; exact ext_set2 (ext_set2 (ext_set2 (ext_set2 FE (by omega)) (by omega)) (by omega)) (by omega)
  clear hW9
  have c_Q8 := Q8.cell; have f_Q8 := Q8.frozen; have l_Q8 := Q8.lt
  (try simp only [Exit.inBlock, Exit.then]); apply bodyPost_ret; (focus (simp only [results, Tryz.results250]; go_simp; try rfl)); rfl
  exact ⟨rfl, QE⟩
variable (pl ph ql qh rl rh sl sh : Int)
theorem oStep_n (H : Hid (∀ W, Ext w W → Calls Tryz.prog 156 #[.agg #[.slice A n c, .int .i64 home], .agg #[.int .i64 ll, .int .i64 lh, .int .i64 hl, .int .i64 hh, .int .i64 g]] W fun e w' => e = .returned (.int .i64 0) ∧ Ext W w')) (HT : Hid (∀ W, Calls Tryz.prog 151 #[.int .i64 tick, .int .i64 0, .int .i64 1073741823] W fun e w' => e = .returned (.bool true) ∧ Ext W w')) (HC : Hid (∀ W, Calls Tryz.prog 128 #[.agg #[.int .i64 xl, .int .i64 xh, .int .i64 yl, .int .i64 yh, .int .i64 ul, .int .i64 uh, .int .i64 vl, .int .i64 vh]] W fun e w' => e = .returned (.int .i64 0) ∧ Ext W w')) (HS : Hid (∀ W, Ext w W → Calls Tryz.prog 263 #[.agg #[.slice A n c, .int .i64 home], .agg #[.int .i64 ll, .int .i64 lh, .int .i64 hl, .int .i64 hh, .int .i64 g], .int .i64 tick, .agg #[.int .i64 xl, .int .i64 xh, .int .i64 yl, .int .i64 yh, .int .i64 ul, .int .i64 uh, .int .i64 vl, .int .i64 vh]] W fun e w' => e = .returned (.tuple #[.agg #[.int .i64 pl, .int .i64 ph, .int .i64 ql, .int .i64 qh, .int .i64 rl, .int .i64 rh, .int .i64 sl, .int .i64 sh], .bool false]) ∧ Ext W w')) :
    Calls Tryz.prog 250 #[.agg #[.slice A n c, .int .i64 home], .agg #[.int .i64 ll, .int .i64 lh, .int .i64 hl, .int .i64 hh, .int .i64 g], .int .i64 tick, .agg #[.int .i64 xl, .int .i64 xh, .int .i64 yl, .int .i64 yh, .int .i64 ul, .int .i64 uh, .int .i64 vl, .int .i64 vh]] w fun e w' => e = .returned (.tuple #[.agg #[.int .i64 0, .int .i64 0, .int .i64 0, .int .i64 0, .int .i64 0, .int .i64 0, .int .i64 0, .int .i64 0], .int .i64 (14)]) ∧ Ext w w' := by
  go_enter Tryz.func250, Tryz.ntmps250
  go_wp2_with fail
  refine (H.out _ ext_by).mono ?_
  rintro e w1 ⟨rfl, h1⟩
  have G8 : Blk w1 (w.heap.size + 1 + 1 + 1) 48 #[.int .i64 0, .int .i64 0, .int .i64 0, .int .i64 0, .int .i64 0, .int .i64 0, .int .i64 0, .int .i64 0] := (Blk.newAt (by simp)).ext h1
  have G7 : Blk w1 (w.heap.size + 1 + 1) 48 #[.int .i64 xl, .int .i64 xh, .int .i64 yl, .int .i64 yh, .int .i64 ul, .int .i64 uh, .int .i64 vl, .int .i64 vh] := ((Blk.newAt (by simp)).alloc _).ext h1
  have GE : Ext w w1 := ext_by
  have G5 : Blk w1 (w.heap.size) 24 #[.slice A n c, .int .i64 home] := ((((Blk.newAt (by simp)).alloc _).alloc _).alloc _).ext h1
  have G6 : Blk w1 (w.heap.size + 1) 52 #[.int .i64 ll, .int .i64 lh, .int .i64 hl, .int .i64 hh, .int .i64 g] := (((Blk.newAt (by simp)).alloc _).alloc _).ext h1
  clear h1
  go_wp2_with fail
  refine (HT.out _).mono ?_
  rintro e w2 ⟨rfl, h2⟩
  have G8' := G8.ext h2
  have G7' := G7.ext h2
  have G6' := G6.ext h2
  have G5' := G5.ext h2
  have GE' := GE.trans h2
  clear h2 G8 GE G7 G6 G5
  have c_G7' := G7'.cell; have f_G7' := G7'.frozen; have l_G7' := G7'.lt
  go_wp2_with fail
  refine (HC.out _).mono ?_
  rintro e w3 ⟨rfl, h3⟩
  have F8 := G8'.ext h3
  have F7 := G7'.ext h3
  have F6 := G6'.ext h3
  have F5 := G5'.ext h3
  have FE := GE'.trans h3
  clear h3 G8' G7' G6' G5' GE'
  clear c_G7' f_G7' l_G7'
  have c_F7 := F7.cell; have f_F7 := F7.frozen; have l_F7 := F7.lt; have c_F6 := F6.cell; have f_F6 := F6.frozen; have l_F6 := F6.lt; have c_F5 := F5.cell; have f_F5 := F5.frozen; have l_F5 := F5.lt
  go_wp2_with fail
  refine (HS.out _ ext_by).mono ?_
  rintro e w4 ⟨rfl, h4⟩
  have D8 := F8.ext h4
  have DE := FE.trans h4
  clear c_F7 f_F7 l_F7 c_F6 f_F6 l_F6 c_F5 f_F5 l_F5
  clear h4 F8 F7 F6 F5 FE
  have c_D8 := D8.cell; have f_D8 := D8.frozen; have l_D8 := D8.lt
  (try dsimp only); repeat' (first | go_values | go_skip | go_guarded | go_step | go_upon | go_in | go_at_K)
  refine name_world _ ?_
  intro W9 hW9
  have Q8 : Blk W9 (w.heap.size + 1 + 1 + 1) 48 #[.int .i64 0, .int .i64 0, .int .i64 0, .int .i64 0, .int .i64 0, .int .i64 0, .int .i64 0, .int .i64 0] := by
    rw [hW9]; exact (blk_set2 (blk_set2 (blk_set2 (blk_set2 D8 rfl) rfl) rfl) rfl).alloc _
  have QE : Ext w W9 := by
    rw [hW9]; exact (ext_set2 (ext_set2 (ext_set2 (ext_set2 DE (by omega)) (by omega)) (by omega)) (by omega)).alloc _
  clear hW9
  have c_Q8 := Q8.cell; have f_Q8 := Q8.frozen; have l_Q8 := Q8.lt
  (try simp only [Exit.inBlock, Exit.then]); apply bodyPost_ret; (focus (simp only [results, Tryz.results250]; go_simp; try rfl)); rfl
  exact ⟨rfl, QE⟩
theorem oStep_k (H : Hid (∀ W, Ext w W → Calls Tryz.prog 156 #[.agg #[.slice A n c, .int .i64 home], .agg #[.int .i64 ll, .int .i64 lh, .int .i64 hl, .int .i64 hh, .int .i64 g]] W fun e w' => e = .returned (.int .i64 0) ∧ Ext W w')) (HT : Hid (∀ W, Calls Tryz.prog 151 #[.int .i64 tick, .int .i64 0, .int .i64 1073741823] W fun e w' => e = .returned (.bool true) ∧ Ext W w')) (HC : Hid (∀ W, Calls Tryz.prog 128 #[.agg #[.int .i64 xl, .int .i64 xh, .int .i64 yl, .int .i64 yh, .int .i64 ul, .int .i64 uh, .int .i64 vl, .int .i64 vh]] W fun e w' => e = .returned (.int .i64 0) ∧ Ext W w')) (HS : Hid (∀ W, Ext w W → Calls Tryz.prog 263 #[.agg #[.slice A n c, .int .i64 home], .agg #[.int .i64 ll, .int .i64 lh, .int .i64 hl, .int .i64 hh, .int .i64 g], .int .i64 tick, .agg #[.int .i64 xl, .int .i64 xh, .int .i64 yl, .int .i64 yh, .int .i64 ul, .int .i64 uh, .int .i64 vl, .int .i64 vh]] W fun e w' => e = .returned (.tuple #[.agg #[.int .i64 pl, .int .i64 ph, .int .i64 ql, .int .i64 qh, .int .i64 rl, .int .i64 rh, .int .i64 sl, .int .i64 sh], .bool true]) ∧ Ext W w')) :
    Calls Tryz.prog 250 #[.agg #[.slice A n c, .int .i64 home], .agg #[.int .i64 ll, .int .i64 lh, .int .i64 hl, .int .i64 hh, .int .i64 g], .int .i64 tick, .agg #[.int .i64 xl, .int .i64 xh, .int .i64 yl, .int .i64 yh, .int .i64 ul, .int .i64 uh, .int .i64 vl, .int .i64 vh]] w fun e w' => e = .returned (.tuple #[.agg #[.int .i64 pl, .int .i64 ph, .int .i64 ql, .int .i64 qh, .int .i64 rl, .int .i64 rh, .int .i64 sl, .int .i64 sh], .int .i64 (0)]) ∧ Ext w w' := by
  go_enter Tryz.func250, Tryz.ntmps250
  go_wp2_with fail
  refine (H.out _ ext_by).mono ?_
  rintro e w1 ⟨rfl, h1⟩
  have G8 : Blk w1 (w.heap.size + 1 + 1 + 1) 48 #[.int .i64 0, .int .i64 0, .int .i64 0, .int .i64 0, .int .i64 0, .int .i64 0, .int .i64 0, .int .i64 0] := (Blk.newAt (by simp)).ext h1
  have G7 : Blk w1 (w.heap.size + 1 + 1) 48 #[.int .i64 xl, .int .i64 xh, .int .i64 yl, .int .i64 yh, .int .i64 ul, .int .i64 uh, .int .i64 vl, .int .i64 vh] := ((Blk.newAt (by simp)).alloc _).ext h1
  have GE : Ext w w1 := ext_by
  have G5 : Blk w1 (w.heap.size) 24 #[.slice A n c, .int .i64 home] := ((((Blk.newAt (by simp)).alloc _).alloc _).alloc _).ext h1
  have G6 : Blk w1 (w.heap.size + 1) 52 #[.int .i64 ll, .int .i64 lh, .int .i64 hl, .int .i64 hh, .int .i64 g] := (((Blk.newAt (by simp)).alloc _).alloc _).ext h1
  clear h1
  go_wp2_with fail
  refine (HT.out _).mono ?_
  rintro e w2 ⟨rfl, h2⟩
  have G8' := G8.ext h2
  have G7' := G7.ext h2
  have G6' := G6.ext h2
  have G5' := G5.ext h2
  have GE' := GE.trans h2
  clear h2 G8 GE G7 G6 G5
  have c_G7' := G7'.cell; have f_G7' := G7'.frozen; have l_G7' := G7'.lt
  go_wp2_with fail
  refine (HC.out _).mono ?_
  rintro e w3 ⟨rfl, h3⟩
  have F8 := G8'.ext h3
  have F7 := G7'.ext h3
  have F6 := G6'.ext h3
  have F5 := G5'.ext h3
  have FE := GE'.trans h3
  clear h3 G8' G7' G6' G5' GE'
  clear c_G7' f_G7' l_G7'
  have c_F7 := F7.cell; have f_F7 := F7.frozen; have l_F7 := F7.lt; have c_F6 := F6.cell; have f_F6 := F6.frozen; have l_F6 := F6.lt; have c_F5 := F5.cell; have f_F5 := F5.frozen; have l_F5 := F5.lt
  go_wp2_with fail
  refine (HS.out _ ext_by).mono ?_
  rintro e w4 ⟨rfl, h4⟩
  have D8 := F8.ext h4
  have DE := FE.trans h4
  clear c_F7 f_F7 l_F7 c_F6 f_F6 l_F6 c_F5 f_F5 l_F5
  clear h4 F8 F7 F6 F5 FE
  have c_D8 := D8.cell; have f_D8 := D8.frozen; have l_D8 := D8.lt
  (try dsimp only); repeat' (first | go_values | go_skip | go_guarded | go_step | go_upon | go_in | go_at_K)
  refine name_world _ ?_
  intro W9 hW9
  have Q8 : Blk W9 (w.heap.size + 1 + 1 + 1) 48 #[.int .i64 pl, .int .i64 ph, .int .i64 ql, .int .i64 qh, .int .i64 rl, .int .i64 rh, .int .i64 sl, .int .i64 sh] := by
    rw [hW9]; exact (blk_set2 (blk_set2 (blk_set2 (blk_set2 D8 rfl) rfl) rfl) rfl).alloc _
  have QE : Ext w W9 := by
    rw [hW9]; exact (ext_set2 (ext_set2 (ext_set2 (ext_set2 DE (by omega)) (by omega)) (by omega)) (by omega)).alloc _
  clear hW9
  have c_Q8 := Q8.cell; have f_Q8 := Q8.frozen; have l_Q8 := Q8.lt
  (try simp only [Exit.inBlock, Exit.then]); apply bodyPost_ret; (focus (simp only [results, Tryz.results250]; go_simp; try rfl)); rfl
  exact ⟨rfl, QE⟩
theorem oStep_c (l : List Body) (d : Drf) (b : Bx) (hl : Bodies w A n l) :
    Calls Tryz.prog 250 #[.agg #[.slice A n c, .int .i64 home], .agg #[.int .i64 d.light.lo, .int .i64 d.light.hi, .int .i64 d.heat.lo, .int .i64 d.heat.hi, .int .i64 d.gas], .int .i64 tick, .agg #[.int .i64 b.x.lo, .int .i64 b.x.hi, .int .i64 b.y.lo, .int .i64 b.y.hi, .int .i64 b.u.lo, .int .i64 b.u.hi, .int .i64 b.v.lo, .int .i64 b.v.hi]] w fun e w' => e = .returned (bxRV (stepM l home d tick b)) ∧ Ext w w' := by
  have H : Hid (∀ W, Ext w W → Calls Tryz.prog 156 #[.agg #[.slice A n c, .int .i64 home], .agg #[.int .i64 d.light.lo, .int .i64 d.light.hi, .int .i64 d.heat.lo, .int .i64 d.heat.hi, .int .i64 d.gas]] W fun e w' => e = .returned (.int .i64 (wdErr l home d)) ∧ Ext W w') := Lib.hid fun W hW => oCheckWorld_c A n c home l _ _ _ _ _ W (Bodies.ext hW hl)
  have HT : Hid (∀ W, Calls Tryz.prog 151 #[.int .i64 tick, .int .i64 0, .int .i64 1073741823] W fun e w' => e = .returned (.bool (within tick 0 1073741823)) ∧ Ext W w') := Lib.hid fun W => oWithin_c _ _ _ W
  have HC : Hid (∀ W, Calls Tryz.prog 128 #[.agg #[.int .i64 b.x.lo, .int .i64 b.x.hi, .int .i64 b.y.lo, .int .i64 b.y.hi, .int .i64 b.u.lo, .int .i64 b.u.hi, .int .i64 b.v.lo, .int .i64 b.v.hi]] W fun e w' => e = .returned (.int .i64 (bxErr b)) ∧ Ext W w') := Lib.hid fun W => oCheck_c b W
  unfold stepM
  by_cases h1 : wdErr l home d = 0
  · rw [if_pos h1]
    rw [h1] at H
    by_cases h2 : within tick 0 1073741823 = true
    · rw [if_pos h2]
      rw [h2] at HT
      have hT : 0 ≤ tick ∧ tick ≤ 1073741824 := by
        simp only [within, Bool.and_eq_true, decide_eq_true_eq] at h2; omega
      by_cases h3 : bxErr b = 0
      · rw [if_pos h3]
        rw [h3] at HC
        have HS := Lib.hid fun W (hW : Ext w W) => oStep0_c A n c home l d tick b W (Bodies.ext hW hl) h1 hT h3
        by_cases h4 : bxErr (stepB l home d tick b) = 0
        · rw [if_pos h4]
          simp only [h4, decide_true] at HS
          exact oStep_k _ _ _ _ _ _ _ _ _ _ _ _ _ _ _ _ _ _ _ _ _ _ _ _ _ _ _ H HT HC HS
        · rw [if_neg h4]
          simp only [h4, decide_false] at HS
          exact oStep_n _ _ _ _ _ _ _ _ _ _ _ _ _ _ _ _ _ _ _ _ _ _ _ _ _ _ _ H HT HC HS
      · rw [if_neg h3]
        exact oStep_b _ _ _ _ _ _ _ _ _ _ _ _ _ _ _ _ _ _ _ _ h3 H HT HC
    · rw [if_neg h2]
      rw [Bool.eq_false_iff.2 h2] at HT
      exact oStep_t _ _ _ _ _ _ _ _ _ _ _ _ _ _ _ _ _ _ _ H HT
  · rw [if_neg h1]
    exact oStep_w _ _ _ _ _ _ _ _ _ _ _ _ _ _ _ _ _ _ _ _ h1 H
end
end Go.Proofs.YtiladlangkjoiaaGreat

namespace Go.Proofs.YtiladlangkjoiaaGreat
open Go.RowKit

def cornA (a : Ar) : List Vec := cornersL a.x.lo a.x.hi a.y.lo a.y.hi
def rightB (a b : Ar) (r : Int) : Bool := (decide (areaErr a = 0) && decide (areaErr b = 0)) && within r 0 268435456
def clearB (a b : Ar) (r : Int) : Bool := rightB a b r && clearL (cornA a ++ cornA b) r
def aimQ (a b : Ar) : Sp := addS (squareS (subS b.x a.x)) (squareS (subS b.y a.y))
def aimC (a b : Ar) : Sp := subS (mulS a.x b.y) (mulS a.y b.x)
def aimM (a b : Ar) : Option Sp :=
  if areaErr a = 0 ∧ areaErr b = 0 then (if (rM (aimQ a b)).lo = 0 then none else some (quotS (aimC a b) (rM (aimQ a b)))) else none
def entersB (ks : List Key) (tick : Int) (s : Sp) : Bool := ks.any fun k => decide (k.tick = tick) && decide (max k.line.lo s.lo ≤ min k.line.hi s.hi)
def fullS : Sp := ⟨-1152921504606846976, 1152921504606846976⟩
section
variable (l : List Body) (home : Int)
def lessS (s : Sp) (n : Int) : Sp := ⟨s.lo - n, s.hi - n⟩
def areaM (tick : Int) (b : Bx) : Ar := ⟨lessS b.x (atM l home home tick).x, lessS b.y (atM l home home tick).y⟩
def areasOk (tick : Int) (p q : Bx) : Bool := ((decide (wldErr ⟨l, home⟩ = 0) && within tick 0 1073741823) && decide (bxErr p = 0)) && decide (bxErr q = 0)
def mayB (tick : Int) (p q : Bx) (r : Int) : Bool := !areasOk l home tick p q || !clearB (areaM l home tick p) (areaM l home (tick + 1) q) r
def aimS (tick : Int) (p q : Bx) : Sp := if areasOk l home tick p q then (aimM (areaM l home tick p) (areaM l home (tick + 1) q)).getD fullS else fullS
def thruB (ks : List Key) (tick : Int) (p q : Bx) : Bool := entersB ks tick (aimS l home tick p q)

variable (d : Drf) (c : Camp)
def farB (L : List Mis) (tick : Int) (b : Bx) : Bool := L.any fun m => decide (m.arrive = tick) && !reachB l home m ⟨b.x, b.y⟩ c.fast
def tickM (L : List Mis) (tick : Int) (b : Bx) : Int × Bx :=
  if farB l home c L tick b then (1, b)
  else if bxErr (pushB l home L c.body tick b) ≠ 0 then (2, b)
  else if (stepM l home d tick (pushB l home L c.body tick b)).e ≠ 0 then (2, b)
  else if mayB l home tick (pushB l home L c.body tick b) (stepM l home d tick (pushB l home L c.body tick b)).b c.miss then (3, b)
  else if thruB l home c.keys tick (pushB l home L c.body tick b) (stepM l home d tick (pushB l home L c.body tick b)).b then (4, b)
  else (0, (stepM l home d tick (pushB l home L c.body tick b)).b)
end
structure Vdt where
  safe : Bool
  why : Int
  failed : List Int
  cell : Int
  tick : Int
def safeV : Vdt := ⟨true, 0, [], 0, 0⟩
def zeroV : Vdt := ⟨false, 0, [], 0, 0⟩
def resv (c : Camp) : List Bool := c.missions.map (·.reserve)
def misOf (c : Camp) (F : List Int) : List Mis := F.filterMap fun i => c.missions[i.toNat]?
section
variable (l : List Body) (home : Int) (d : Drf) (c : Camp)
def runF (n : Nat) (t : Int) (S : List Bx) : List (List Int) → Vdt
  | [] => safeV
  | F :: R => match runS (tickM l home d c (misOf c (workM (resv c) F))) n t S 0 with | some w => ⟨false, w.1, F, w.2.1, w.2.2⟩ | none => runF n t S R
def verM (tick : Int) (S : List Bx) : Vdt := runF l home d c c.ticks.toNat tick S (failsM (resv c) c.fails.toNat)
def verErr (tick : Int) (S : List Bx) : Int :=
  if wldErr ⟨l, home⟩ ≠ 0 then wldErr ⟨l, home⟩ else if driftErr d ≠ 0 then driftErr d else if campErr c ≠ 0 then campErr c
  else if within tick 0 (1073741824 - c.ticks) = false then 2 else if setErr S ≠ 0 then setErr S else if 40 < S.length then 8 else 0
def verV (tick : Int) (S : List Bx) : Vdt := if verErr l home d c tick S = 0 then verM l home d c tick S else zeroV
end
end Go.Proofs.YtiladlangkjoiaaGreat

namespace Go.Proofs.YtiladlangkjoiaaGreat
open Go.RowKit

section
variable {l : List Body} {home : Int} {d : Drf} {c o : Camp}
structure LessC (c o : Camp) : Prop where
  missions : o.missions = c.missions
  body : o.body = c.body
  fast : o.fast = c.fast
  fails : o.fails ≤ c.fails
  ticks : o.ticks ≤ c.ticks
  miss : 0 ≤ o.miss ∧ o.miss ≤ c.miss
  keys : ∀ k ∈ o.keys, k ∈ c.keys
end
end Go.Proofs.YtiladlangkjoiaaGreat

namespace Go.Proofs.YtiladlangkjoiaaGreat
open Go.RowKit

theorem at_home (l : List Body) (home tick : Int) : placeP (atM l home home tick) := by
  by_cases h : 0 ≤ home
  · have := at_place l home tick home.toNat
    rw [Int.toNat_of_nonneg h] at this
    exact this
  · rw [atM_no (by omega)]
    unfold placeP; dsimp only; omega
theorem ce_bd {n x y D : Int} (hn : 0 ≤ n) (h1 : -n ≤ x) (h2 : x ≤ n) (hD : 0 < D) (hy : D ≤ y) : -(ce n D) ≤ fl x y ∧ fl x y ≤ ce x y ∧ ce x y ≤ ce n D := by
  have h0 : 0 ≤ ce n D := by have := Int.ediv_nonneg hn (show 0 ≤ D by omega); have h3 := fl_le_ce (z := n) hD; unfold fl at h3; omega
  refine ⟨?_, fl_le_ce (by omega), ?_⟩
  · rcases Int.le_total 0 x with h | h
    · have : 0 ≤ fl x y := Int.ediv_nonneg h (by omega)
      omega
    · have a := fl_up h hD hy
      have b := fl_mono hD h1
      rw [fl_neg] at b
      omega
  · rcases Int.le_total 0 x with h | h
    · have a := ce_down h hD hy
      have b := ce_mono hD h2
      omega
    · have : 0 ≤ fl (-x) y := Int.ediv_nonneg (by omega) (by omega)
      rw [fl_neg] at this
      omega
theorem quotS_over {n m D : Int} {a b : Sp} (ha : Sm n a) (hn : n ≤ 1152921504606846976) (hb : Sm m b) (hm : m ≤ 1152921504606846976) (hD : 0 < D) (h0 : D ≤ b.lo) : Sm (ce n D) (quotS a b) := by
  have ha' : Sm 1152921504606846976 a := ha.mono hn
  rw [quotS_eq ha' hb hm (by omega), (mon2_quot ha' (by omega)).corners ha.2.1 hb.2.1]
  obtain ⟨a1, a2, a3⟩ := ha
  obtain ⟨b1, b2, b3⟩ := hb
  have hn0 : 0 ≤ n := by omega
  have q1 := ce_bd (x := a.lo) (y := b.lo) hn0 (by omega) (by omega) hD (by omega)
  have q2 := ce_bd (x := a.lo) (y := b.hi) hn0 (by omega) (by omega) hD (by omega)
  have q3 := ce_bd (x := a.hi) (y := b.lo) hn0 (by omega) (by omega) hD (by omega)
  have q4 := ce_bd (x := a.hi) (y := b.hi) hn0 (by omega) (by omega) hD (by omega)
  rw [quotF_pos (by omega) (by omega) (by omega), quotF_pos (by omega) (by omega) (by omega), quotF_pos (by omega) (by omega) (by omega), quotF_pos (by omega) (by omega) (by omega)]
  unfold Sm
  dsimp only
  omega
theorem sole_sm {n k : Int} (h : -n ≤ k ∧ k ≤ n) : Sm n ⟨k, k⟩ := ⟨h.1, Int.le_refl _, h.2⟩
theorem speeds_sm {h : Vec} {a : Ar} {n : Int} (hh : placeP h) (ha : SmA 33554432 a) (hn : 1 ≤ n) (hn2 : n ≤ 1152921504606846976) : SmA 67108864 (speedsM h a n) := by
  obtain ⟨⟨h1, h2⟩, h3, h4⟩ := hh
  have q : ∀ (s : Sp) (k : Int), Sm 33554432 s → -33554432 ≤ k → k ≤ 33554432 → Sm 67108864 (quotS (subS s ⟨k, k⟩) ⟨n, n⟩) := fun s k hs k1 k2 =>
    quotS_in (subS_in hs (sole_sm ⟨k1, k2⟩) (by omega) (by omega) (by omega)).2 (by omega) (sole_sm (n := 1152921504606846976) ⟨by omega, hn2⟩) (by omega) (by dsimp only; omega)
  exact ⟨q _ _ ha.1 h1 h2, q _ _ ha.2 h3 h4⟩
theorem Sm.of {n : Int} {s : Sp} (h1 : -n ≤ s.lo) (h2 : s.lo ≤ s.hi) (h3 : s.hi ≤ n) : Sm n s := ⟨h1, h2, h3⟩
section
variable {l : List Body} {home : Int}
theorem many_sm {m : Mis} (hm : misErr m = 0) : Sm 10485760000 (mulS m.mult m.mass) := by
  obtain ⟨_, _, q1, _, q2, _⟩ := misErr_ok.1 hm
  have := mulS_in (n := 10000) (m := 1048576) (a := m.mult) (b := m.mass) (.of (by omega) (by omega) (by omega)) (.of (by omega) (by omega) (by omega)) (by omega) (by omega) (by omega) (by omega)
  exact this.mono (by omega)
theorem less_sm {m : Mis} {b : Bx} (hm : misErr m = 0) (hb : bxErr b = 0) : Sm 68157440 (subS (speedsM (atM l home home m.launch) ⟨b.x, b.y⟩ (m.arrive - m.launch)).x b.u) ∧ Sm 68157440 (subS (speedsM (atM l home home m.launch) ⟨b.x, b.y⟩ (m.arrive - m.launch)).y b.v) := by
  obtain ⟨_, q, _⟩ := misErr_ok.1 hm
  obtain ⟨b1, b2, b3, b4⟩ := bxErr_iff.1 hb
  have s := speeds_sm (h := atM l home home m.launch) (a := ⟨b.x, b.y⟩) (n := m.arrive - m.launch) (at_home _ _ _) ⟨b1, b2⟩ (by omega) (by omega)
  exact ⟨(subS_in s.1 b3 (by omega) (by omega) (by omega)).2, (subS_in s.2 b4 (by omega) (by omega) (by omega)).2⟩
theorem kilo_sm {body : Sp} (h : boundErr body 1 1099511627776 = 0) : Sm 1099511627776000 (mulS body ⟨1000, 1000⟩) ∧ 1000 ≤ (mulS body ⟨1000, 1000⟩).lo ∧ mulS ⟨1000, 1000⟩ body = mulS body ⟨1000, 1000⟩ := by
  rw [boundErr_ok] at h
  have hs : Sm 1099511627776 body := .of (by omega) (by omega) (by omega)
  have hk : Sm 1000 ⟨1000, 1000⟩ := sole_sm ⟨by omega, by omega⟩
  refine ⟨(mulS_in hs hk (by omega) (by omega) (by omega) (by omega)).mono (by omega), ?_, (mulS_comm hk hs (by omega) (by omega) (by omega) (by omega) (by omega))⟩
  rw [mulS_four hs hk (by omega) (by omega) (by omega) (by omega)]
  dsimp only
  omega
theorem hits_sm {m : Mis} {body : Sp} {b : Bx} (hm : misErr m = 0) (hd : boundErr body 1 1099511627776 = 0) (hb : bxErr b = 0) : SmA 4503599627370496 (hitsA l home m body b) := by
  obtain ⟨k1, k2, _⟩ := kilo_sm hd
  obtain ⟨p1, p2⟩ := less_sm (l := l) (home := home) hm hb
  have q : ∀ s, Sm 68157440 s → Sm 4503599627370496 (quotS (mulS (mulS m.mult m.mass) s) (mulS body ⟨1000, 1000⟩)) := fun s hs =>
    (quotS_over (mulS_in (many_sm hm) hs (by omega) (by omega) (by omega) (by omega)) (by omega) k1 (by omega) (by omega) k2).mono (by decide)
  exact ⟨q _ p1, q _ p2⟩
theorem draws_sm {m : Mis} {body : Sp} (hm : misErr m = 0) (hd : boundErr body 1 1099511627776 = 0) : SmA 4503599627370496 (drawsA m body) := by
  obtain ⟨_, _, _, q1, _, q2, q3, _⟩ := misErr_ok.1 hm
  rw [boundErr_ok] at hd
  have q : ∀ k, -4096 ≤ k → k ≤ 4096 → Sm 4503599627370496 (quotS (mulS m.power ⟨k, k⟩) body) := fun k k1 k2 =>
    quotS_in ((mulS_in (n := 1099511627776) (m := 4096) (.of (by omega) (by omega) (by omega)) (sole_sm ⟨k1, k2⟩) (by omega) (by omega) (by omega) (by omega)).mono (by omega)) (by omega) (m := 1099511627776) (.of (by omega) (by omega) (by omega)) (by omega) (by omega)
  exact ⟨q _ q2.1 q2.2, q _ q3.1 q3.2⟩
theorem zeroA_sm {n : Int} (h : 0 ≤ n) : SmA n zeroA := by unfold SmA Sm zeroA; dsimp only; omega
theorem does_sm {m : Mis} {body : Sp} {tick : Int} {b : Bx} (hm : misErr m = 0) (hd : boundErr body 1 1099511627776 = 0) (hb : bxErr b = 0) : SmA 4503599627370496 (doesA l home m body tick b) := by
  unfold doesA
  split
  · split
    · exact hits_sm hm hd hb
    · split
      · exact ⟨minusS_sm (draws_sm hm hd).1, minusS_sm (draws_sm hm hd).2⟩
      · exact draws_sm hm hd
  · exact zeroA_sm (by omega)
structure Wider (m n : Mis) : Prop where
  kind : n.kind = m.kind
  launch : n.launch = m.launch
  arrive : n.arrive = m.arrive
  dur : n.dur = m.dur
  dir : n.dir = m.dir
  mass : Sub m.mass n.mass
  power : Sub m.power n.power
  mult : Sub m.mult n.mult
end
end Go.Proofs.YtiladlangkjoiaaGreat

namespace Go.Proofs.YtiladlangkjoiaaGreat
open Go.RowKit

def followsB (l : List Body) (home : Int) (d : Drf) (tick : Int) (s n : St) : Bool :=
  decide ((overM l home d tick ⟨⟨s.x, s.x⟩, ⟨s.y, s.y⟩⟩).e = 0) && within (n.u - s.u) (overM l home d tick ⟨⟨s.x, s.x⟩, ⟨s.y, s.y⟩⟩).a.x.lo (overM l home d tick ⟨⟨s.x, s.x⟩, ⟨s.y, s.y⟩⟩).a.x.hi && within (n.v - s.v) (overM l home d tick ⟨⟨s.x, s.x⟩, ⟨s.y, s.y⟩⟩).a.y.lo (overM l home d tick ⟨⟨s.x, s.x⟩, ⟨s.y, s.y⟩⟩).a.y.hi && decide (n.x = s.x + n.u) && decide (n.y = s.y + n.v)

end Go.Proofs.YtiladlangkjoiaaGreat

namespace Go.Proofs.YtiladlangkjoiaaGreat
open Go.RowKit
def possibleB (l : List Body) (home : Int) (d : Drf) (tick : Int) (s n : St) : Bool :=
  decide (wdErr l home d = 0) && (within tick 0 1073741823 && (decide (stErr s = 0) && (decide (stErr n = 0) && followsB l home d tick s n)))
end Go.Proofs.YtiladlangkjoiaaGreat

namespace Go.Proofs.YtiladlangkjoiaaGreat
open Go.RowKit

theorem info_mis : (Tryz.prog.info? 30).map (fun i => (i.zero, i.size, i.bytes)) = some (some (.agg #[.int .i64 0, .int .i64 0, .int .i64 0, .int .i64 0, .int .i64 0, .int .i64 0, .int .i64 0, .int .i64 0, .int .i64 0, .int .i64 0, .int .i64 0, .int .i64 0, .bool false, .int .i64 0]), 14, 112) := by kernel_rfl
theorem mis_len (x : Mis) : (misC x).length = 14 := rfl
theorem mis_one : ∀ x : Mis, ∀ u ∈ misC x, u.oneCell' = true := by
  intro x u hu
  simp only [misC, List.mem_cons, List.not_mem_nil, or_false] at hu
  rcases hu with rfl | rfl | rfl | rfl | rfl | rfl | rfl | rfl | rfl | rfl | rfl | rfl | rfl | rfl <;> rfl
def OwnMis (base : Nat) (w : World) (v : Value) (l : List Mis) : Prop := w.ownsRow base 30 14 v l.length (l.flatMap misC)
theorem OwnMis.nil (base : Nat) (w : World) : OwnMis base w (.slice none 0 0) [] := World.ownsRow_nil _ _ _ _
theorem OwnMis.ext {base : Nat} {w w' : World} {v : Value} {l : List Mis} (h : OwnMis base w v l) (e : Ext w w') : OwnMis base w' v l := own_ext_keep h e
theorem OwnMis.sl {base : Nat} {w : World} {v : Value} {l : List Mis} (h : OwnMis base w v l) : ∃ A c, v = .slice A l.length c ∧ Miss w A l.length l := own_sl mis_len (mis_read w) h
theorem OwnMis.ofSnoc {base : Nat} {w : World} {v : Value} {l : List Mis} {x : Mis} {n : Nat} (hn : n = 1) (h : w.ownsRow base 30 14 v (l.length + n) (l.flatMap misC ++ misC x)) : OwnMis base w v (l ++ [x]) := by
  subst hn
  unfold OwnMis
  rw [List.length_append, List.flatMap_append]
  simpa using h
end Go.Proofs.YtiladlangkjoiaaGreat
