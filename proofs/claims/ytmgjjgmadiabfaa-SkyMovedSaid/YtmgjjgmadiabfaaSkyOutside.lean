/- What made things are used for: the start of the laws that make a sky, a place and a sight. No condition. -/
import Derived.Test.YtmgjjgmadiabfaaMakeOne
import Derived.Test.YtmgjjgmadiabfaaExcludes3
import Derived.Test.YtmgjjgmadiabfaaAgree
import Derived.Test.YtmgjjgmadiabfaaAwake
import Derived.Test.YtmgjjgmadiabfaaOwnInts
import Derived.Test.YtmgjjgmadiabfaaOutLaw
namespace Go.Proofs.Ytmgjjgmadiabfaa
open Go.RowKit

set_option maxHeartbeats 400000 in
theorem area_c (a b c d : Int) (w : World) :
    Calls Try.prog 55 #[.int .i64 a, .int .i64 b, .int .i64 c, .int .i64 d] w fun e w' => e = .returned (.agg #[.int .i64 a, .int .i64 b, .int .i64 c, .int .i64 d]) ∧ Ext w w' := by
  go_enter Try.func55, Try.ntmps55
  go_wp2_with fail
  (try simp only [Exit.inBlock, Exit.then]); apply bodyPost_ret; (focus (simp only [results, Try.results55]; go_simp; try rfl)); rfl
  refine ⟨rfl, ?_⟩
  exact Ext.alloc0 _ _
set_option maxHeartbeats 1000000 in
theorem around_c (px py aw ah : Int) (w : World) (h1 : -1000000 ≤ px ∧ px ≤ 1000000) (h2 : -1000000 ≤ py ∧ py ≤ 1000000) (h3 : 0 ≤ aw ∧ aw ≤ 1000) (h4 : 0 ≤ ah ∧ ah ≤ 1000) :
    Calls Try.prog 42 #[.agg #[.int .i64 px, .int .i64 py], .int .i64 aw, .int .i64 ah] w fun e w' => e = .returned (.agg #[.int .i64 (px - aw), .int .i64 (px + aw), .int .i64 (py - ah), .int .i64 (py + ah)]) ∧ Ext w w' := by
  obtain ⟨h11, h12⟩ := h1
  obtain ⟨h21, h22⟩ := h2
  obtain ⟨h31, h32⟩ := h3
  obtain ⟨h41, h42⟩ := h4
  go_enter Try.func42, Try.ntmps42
  go_wp2_with fail
  refine (area_c _ _ _ _ _).mono ?_
  rintro e w1 ⟨rfl, h1⟩; obtain ⟨hc_w1, hf_w1, hz_w1⟩ := bcell h1; (repeat (first | rw [World.size_alloc] at hz_w1 | rw [World.size_drew] at hz_w1 | rw [World.size_setCell] at hz_w1)); have : w.heap.size < w1.heap.size := (by omega); have : w.heap.size + 1 < w1.heap.size := (by omega)
  go_wp2_with fail
  (try simp only [Exit.inBlock, Exit.then]); apply bodyPost_ret; (focus (simp only [results, Try.results42]; go_simp; try rfl)); rfl
  refine ⟨rfl, ?_⟩
  (repeat' (first | exact Ext.refl _ | assumption | apply Ext.alloc | apply Ext.drew | refine Ext.set ?_ (by dsimp only; omega) _ | refine Ext.trans ?_ (by assumption)))

set_option maxRecDepth 4000 in
set_option maxHeartbeats 4000000 in
theorem SkyOutside_c (A : Option Addr) (n c : Nat) (l : List Int) (ax ay aw ah apx apy : Int) (w : World) (hl : Ints w A n l) :
    Calls Try.prog 8 #[.slice A n c, .int .i64 ax, .int .i64 ay, .int .i64 aw, .int .i64 ah, .int .i64 apx, .int .i64 apy] w fun e w' => e = .returned (.bool true) ∧ Ext w w' := by
  go_enter Try.func8, Try.ntmps8
  go_wp2_with fail
  refine (made_c A n c l _ hl).mono ?_
  rintro e w1 ⟨A1, n1, c1, home, A2, n2, c2, A3, n3, c3, s, px, py, kind, st, cat, tick, dx, dy, er, lo, hi, bs, rfl, hO, hs, hm, ⟨⟨hp1, hp2⟩, hp3, hp4⟩, hx, h1⟩
  go_wp2_with fail
  obtain ⟨W1, hW1⟩ : ∃ W, W = ((w1.alloc (.cells #[.slice A1 n1 c1, .int .i64 home, .slice A2 n2 c2, .slice A3 n3 c3] 28)).alloc (.cells #[.int .i64 px, .int .i64 py] 30)).alloc (.cells #[.int .i64 kind, .int .i64 st, .int .i64 cat, .int .i64 tick, .int .i64 dx, .int .i64 dy, .int .i64 er, .int .i64 lo, .int .i64 hi] 32) := ⟨_, rfl⟩
  rw [← hW1]
  have hE1 : Ext w1 W1 := by rw [hW1]; (repeat' (first | exact Ext.refl _ | assumption | apply Ext.alloc | apply Ext.drew | refine Ext.set ?_ (by dsimp only; omega) _ | refine Ext.trans ?_ (by assumption)))
  have hA1 : Blk W1 w1.heap.size 28 #[.slice A1 n1 c1, .int .i64 home, .slice A2 n2 c2, .slice A3 n3 c3] := by rw [hW1]; exact (((Blk.newAt rfl).alloc _).alloc _)
  have hA2 : Blk W1 (w1.heap.size + 1) 30 #[.int .i64 px, .int .i64 py] := by rw [hW1]; exact ((Blk.newAt (by simp)).alloc _)
  have hA3 : Blk W1 (w1.heap.size + 1 + 1) 32 #[.int .i64 kind, .int .i64 st, .int .i64 cat, .int .i64 tick, .int .i64 dx, .int .i64 dy, .int .i64 er, .int .i64 lo, .int .i64 hi] := by rw [hW1]; exact (Blk.newAt (by simp))
  clear hW1
  have hs1 := hs.ext hE1
  have hc2 := hA2.cell
  have hl1 := hA1.lt
  have hl2 := hA2.lt
  have hl3 := hA3.lt
  have hm1 : 0 ≤ ax % 4001 ∧ ax % 4001 < 4001 := ⟨by omega, by omega⟩
  have hm2 : 0 ≤ ay % 4001 ∧ ay % 4001 < 4001 := ⟨by omega, by omega⟩
  refine wp_region_chain1 true [] [0, 1, 2, 3, 4, 5, 6, 7, 8, 9, 10, 11, 12] 13 [14] (Ext _) (Ext _) _ (w1.heap.size) 30 #[.int .i64 0, .int .i64 0] (Stable.ext _) (fun _ h => h) (Ext.drew (Ext.refl _)) (by kernel_rfl) (by kernel_rfl) rfl (fun a w => by simp only [pick1, List.drop_succ_cons, List.drop_zero]; go_simp) (fun w h => ⟨h.size, Nat.lt_of_lt_of_le (by omega) h.size⟩) ?_; simp only [XO, pick, List.drop_succ_cons, List.drop_zero]; (repeat' (first | (refine bl_off (by rfl) ?_; simp only [Act.put, List.setIfInBounds_toArray, List.set_cons_zero, List.set_cons_succ]) | (apply bl_op; rfl; (intro w1 h1; obtain ⟨hc, hf, hz⟩ := bcell h1; go_simp; (try go_bits); (first | exact ⟨rfl, Ext.refl _⟩ | (apply gives_call; go_at_call 24; exact (Mod64_c _ _ _ (by omega) (by omega)).mono fun _ _ ⟨h, hw⟩ => ⟨h, hw ▸ Ext.refl _⟩) | (go_invoke; go_simp; apply gives_call; go_at_call 24; exact (Mod64_c _ _ _ (by omega) (by omega)).mono fun _ _ ⟨h, hw⟩ => ⟨h, hw ▸ Ext.refl _⟩))); simp only [Act.put, List.setIfInBounds_toArray, List.set_cons_zero, List.set_cons_succ]) | (refine bl_split rfl rfl (fun hx => ?_) (fun hx => ?_) <;> simp only [hx]))); refine bl_nil ?_; intro b18 hb_b18 hg_b18; (try simp only [pick1, List.drop_succ_cons, List.drop_zero]); (try simp only [List.setIfInBounds_toArray, List.set_cons_zero, List.set_cons_succ]); refine tl_last rfl rfl (fun wx ⟨hx, hBx⟩ => ?_); have hcB := hBx.cell; have hfB := hBx.frozen; have hlB := hBx.lt; refine ⟨_, (by go_simp; rfl), ?_⟩; have q0 : Blk (wx.setCell ⟨b18, 0, none⟩ (.int .i64 (px + ax % 4001 - 2000))) b18 30 #[.int .i64 (px + ax % 4001 - 2000), .int .i64 0] := hBx.set_ 0 _; have p0 : Ext _ (wx.setCell ⟨b18, 0, none⟩ (.int .i64 (px + ax % 4001 - 2000))) := Ext.set hx (by dsimp only; omega) _; have q1 : Blk ((wx.setCell ⟨b18, 0, none⟩ (.int .i64 (px + ax % 4001 - 2000))).setCell ⟨b18, 1, none⟩ (.int .i64 (py + ay % 4001 - 2000))) b18 30 #[.int .i64 (px + ax % 4001 - 2000), .int .i64 (py + ay % 4001 - 2000)] := q0.set_ 1 _; have p1 : Ext _ ((wx.setCell ⟨b18, 0, none⟩ (.int .i64 (px + ax % 4001 - 2000))).setCell ⟨b18, 1, none⟩ (.int .i64 (py + ay % 4001 - 2000))) := Ext.set p0 (by dsimp only; omega) _; revert q1 p1; clear hcB hfB hBx hlB hx; (try clear q0 p0); generalize World.setCell _ _ _ = W2; intro hB_b18 hE_W2
  obtain ⟨cx, hcx⟩ : ∃ q, q = px + ax % 4001 - 2000 := ⟨_, rfl⟩
  obtain ⟨cy, hcy⟩ : ∃ q, q = py + ay % 4001 - 2000 := ⟨_, rfl⟩
  rw [← hcx, ← hcy] at hB_b18
  try rw [← hcx, ← hcy]
  have hq : (-7000 ≤ cx ∧ cx ≤ 7000) ∧ -7000 ≤ cy ∧ cy ≤ 7000 := by omega
  obtain ⟨⟨hq1, hq2⟩, hq3, hq4⟩ := hq
  have hA1' := hA1.ext hE_W2
  have hA3' := hA3.ext hE_W2
  have hs2 := hs1.ext hE_W2
  have hE2 : Ext w W2 := (h1.trans hE1).trans hE_W2
  clear hcx hcy hm1 hm2 hE_W2 hA1 hA2 hA3 hs1 hs h1 hl1 hl2 hl3 hc2 hO hE1 hp1 hp2 hp3 hp4
  have hl1 := hA1'.lt
  have hl3 := hA3'.lt
  have hlb := hB_b18.lt
  have hcb := hB_b18.cell
  have hm1 : 0 ≤ aw % 600 ∧ aw % 600 < 600 := ⟨by omega, by omega⟩
  have hm2 : 0 ≤ ah % 600 ∧ ah % 600 < 600 := ⟨by omega, by omega⟩
  go_wp2_with fail
  refine wp_region_chain1 true [] [0, 1, 2, 3, 4, 5] 6 [7] (Ext _) (Ext _) _ (w1.heap.size) 61 #[.int .i64 0, .int .i64 0, .int .i64 0, .int .i64 0] (Stable.ext _) (fun _ h => h) (Ext.drew (Ext.refl _)) (by kernel_rfl) (by kernel_rfl) rfl (fun a w => by simp only [pick1, List.drop_succ_cons, List.drop_zero]; go_simp) (fun w h => ⟨h.size, Nat.lt_of_lt_of_le (by omega) h.size⟩) ?_; simp only [XO, pick, List.drop_succ_cons, List.drop_zero]; (repeat' (first | (refine bl_off (by rfl) ?_; simp only [Act.put, List.setIfInBounds_toArray, List.set_cons_zero, List.set_cons_succ]) | (apply bl_op; rfl; (intro w1 h1; obtain ⟨hc, hf, hz⟩ := bcell h1; go_simp; (try go_bits); (first | exact ⟨rfl, Ext.refl _⟩ | (apply gives_call; first | (go_at_call 24; exact (Mod64_c _ _ _ (by omega) (by omega)).mono fun _ _ ⟨h, hw⟩ => ⟨h, hw ▸ Ext.refl _⟩) | (go_at_call 42; exact around_c _ _ _ _ _ (by omega) (by omega) (by omega) (by omega))) | (go_invoke; go_simp; apply gives_call; first | (go_at_call 24; exact (Mod64_c _ _ _ (by omega) (by omega)).mono fun _ _ ⟨h, hw⟩ => ⟨h, hw ▸ Ext.refl _⟩) | (go_at_call 42; exact around_c _ _ _ _ _ (by omega) (by omega) (by omega) (by omega))))); simp only [Act.put, List.setIfInBounds_toArray, List.set_cons_zero, List.set_cons_succ]) | (refine bl_split rfl rfl (fun hx => ?_) (fun hx => ?_) <;> simp only [hx]))); refine bl_nil ?_; intro b19 hb_b19 hg_b19; (try simp only [pick1, List.drop_succ_cons, List.drop_zero]); (try simp only [List.setIfInBounds_toArray, List.set_cons_zero, List.set_cons_succ]); refine tl_last rfl rfl (fun wx ⟨hx, hBx⟩ => ?_); have hcB := hBx.cell; have hfB := hBx.frozen; have hlB := hBx.lt; refine ⟨_, (by go_simp; rfl), ?_⟩; have q0 : Blk (wx.setCell ⟨b19, 0, none⟩ (.int .i64 (cx - aw % 600))) b19 61 #[.int .i64 (cx - aw % 600), .int .i64 0, .int .i64 0, .int .i64 0] := hBx.set_ 0 _; have p0 : Ext _ (wx.setCell ⟨b19, 0, none⟩ (.int .i64 (cx - aw % 600))) := Ext.set hx (by dsimp only; omega) _; have q1 : Blk ((wx.setCell ⟨b19, 0, none⟩ (.int .i64 (cx - aw % 600))).setCell ⟨b19, 1, none⟩ (.int .i64 (cx + aw % 600))) b19 61 #[.int .i64 (cx - aw % 600), .int .i64 (cx + aw % 600), .int .i64 0, .int .i64 0] := q0.set_ 1 _; have p1 : Ext _ ((wx.setCell ⟨b19, 0, none⟩ (.int .i64 (cx - aw % 600))).setCell ⟨b19, 1, none⟩ (.int .i64 (cx + aw % 600))) := Ext.set p0 (by dsimp only; omega) _; have q2 : Blk (((wx.setCell ⟨b19, 0, none⟩ (.int .i64 (cx - aw % 600))).setCell ⟨b19, 1, none⟩ (.int .i64 (cx + aw % 600))).setCell ⟨b19, 2, none⟩ (.int .i64 (cy - ah % 600))) b19 61 #[.int .i64 (cx - aw % 600), .int .i64 (cx + aw % 600), .int .i64 (cy - ah % 600), .int .i64 0] := q1.set_ 2 _; have p2 : Ext _ (((wx.setCell ⟨b19, 0, none⟩ (.int .i64 (cx - aw % 600))).setCell ⟨b19, 1, none⟩ (.int .i64 (cx + aw % 600))).setCell ⟨b19, 2, none⟩ (.int .i64 (cy - ah % 600))) := Ext.set p1 (by dsimp only; omega) _; have q3 : Blk ((((wx.setCell ⟨b19, 0, none⟩ (.int .i64 (cx - aw % 600))).setCell ⟨b19, 1, none⟩ (.int .i64 (cx + aw % 600))).setCell ⟨b19, 2, none⟩ (.int .i64 (cy - ah % 600))).setCell ⟨b19, 3, none⟩ (.int .i64 (cy + ah % 600))) b19 61 #[.int .i64 (cx - aw % 600), .int .i64 (cx + aw % 600), .int .i64 (cy - ah % 600), .int .i64 (cy + ah % 600)] := q2.set_ 3 _; have p3 : Ext _ ((((wx.setCell ⟨b19, 0, none⟩ (.int .i64 (cx - aw % 600))).setCell ⟨b19, 1, none⟩ (.int .i64 (cx + aw % 600))).setCell ⟨b19, 2, none⟩ (.int .i64 (cy - ah % 600))).setCell ⟨b19, 3, none⟩ (.int .i64 (cy + ah % 600))) := Ext.set p2 (by dsimp only; omega) _; revert q3 p3; clear hcB hfB hBx hlB hx; (try clear q0 p0 q1 p1 q2 p2); generalize World.setCell _ _ _ = W3; intro hB_b19 hE_W3
  obtain ⟨xl, hxl⟩ : ∃ q, q = cx - aw % 600 := ⟨_, rfl⟩
  obtain ⟨xh, hxh⟩ : ∃ q, q = cx + aw % 600 := ⟨_, rfl⟩
  obtain ⟨yl, hyl⟩ : ∃ q, q = cy - ah % 600 := ⟨_, rfl⟩
  obtain ⟨yh, hyh⟩ : ∃ q, q = cy + ah % 600 := ⟨_, rfl⟩
  rw [← hxl, ← hxh, ← hyl, ← hyh] at hB_b19
  have hq : ((-8000 ≤ xl ∧ xl ≤ 8000) ∧ (-8000 ≤ xh ∧ xh ≤ 8000) ∧ 0 ≤ xh - xl ∧ xh - xl ≤ 1200) ∧ ((-8000 ≤ yl ∧ yl ≤ 8000) ∧ (-8000 ≤ yh ∧ yh ≤ 8000) ∧ 0 ≤ yh - yl ∧ yh - yl ≤ 1200) := by omega
  obtain ⟨⟨⟨ha1, ha2⟩, ⟨ha3, ha4⟩, ha5, ha6⟩, ⟨ha7, ha8⟩, ⟨ha9, ha10⟩, ha11, ha12⟩ := hq
  have hS3 := hA1'.ext hE_W3
  have hX3 := hA3'.ext hE_W3
  have hs3 := hs2.ext hE_W3
  have hE3 : Ext w W3 := hE2.trans hE_W3
  clear hxl hxh hyl hyh hm1 hm2 hE_W3 hA1' hA3' hs2 hE2 hl1 hl3 hlb hcb hB_b18 hq1 hq2 hq3 hq4
  have hl1 := hS3.lt
  have hlb := hB_b19.lt
  have hcb := hB_b19.cell
  have hm1 : 0 ≤ apx % (xh - xl + 1) := Int.emod_nonneg _ (by omega)
  have hm2 : apx % (xh - xl + 1) < xh - xl + 1 := Int.emod_lt_of_pos _ (by omega)
  have hm3 : 0 ≤ apy % (yh - yl + 1) := Int.emod_nonneg _ (by omega)
  have hm4 : apy % (yh - yl + 1) < yh - yl + 1 := Int.emod_lt_of_pos _ (by omega)
  go_wp2_with fail
  refine wp_region_chain1 true [] [0, 1, 2, 3, 4, 5, 6, 7, 8, 9, 10, 11, 12, 13, 14, 15, 16, 17, 18, 19, 20, 21, 22, 23, 24, 25, 26, 27, 28] 29 [30] (Ext _) (Ext _) _ (w1.heap.size) 30 #[.int .i64 0, .int .i64 0] (Stable.ext _) (fun _ h => h) (Ext.drew (Ext.refl _)) (by kernel_rfl) (by kernel_rfl) rfl (fun a w => by simp only [pick1, List.drop_succ_cons, List.drop_zero]; go_simp) (fun w h => ⟨h.size, Nat.lt_of_lt_of_le (by omega) h.size⟩) ?_; simp only [XO, pick, List.drop_succ_cons, List.drop_zero]; (repeat' (first | (refine bl_off (by rfl) ?_; simp only [Act.put, List.setIfInBounds_toArray, List.set_cons_zero, List.set_cons_succ]) | (apply bl_op; rfl; (intro w1 h1; obtain ⟨hc, hf, hz⟩ := bcell h1; go_simp; (try go_bits); (first | exact ⟨rfl, Ext.refl _⟩ | (apply gives_call; go_at_call 24; exact (Mod64_c _ _ _ (by omega) (by omega)).mono fun _ _ ⟨h, hw⟩ => ⟨h, hw ▸ Ext.refl _⟩) | (go_invoke; go_simp; apply gives_call; go_at_call 24; exact (Mod64_c _ _ _ (by omega) (by omega)).mono fun _ _ ⟨h, hw⟩ => ⟨h, hw ▸ Ext.refl _⟩))); simp only [Act.put, List.setIfInBounds_toArray, List.set_cons_zero, List.set_cons_succ]) | (refine bl_split rfl rfl (fun hx => ?_) (fun hx => ?_) <;> simp only [hx]))); refine bl_nil ?_; intro b20 hb_b20 hg_b20; (try simp only [pick1, List.drop_succ_cons, List.drop_zero]); (try simp only [List.setIfInBounds_toArray, List.set_cons_zero, List.set_cons_succ]); refine tl_last rfl rfl (fun wx ⟨hx, hBx⟩ => ?_); have hcB := hBx.cell; have hfB := hBx.frozen; have hlB := hBx.lt; refine ⟨_, (by go_simp; rfl), ?_⟩; have q0 : Blk (wx.setCell ⟨b20, 0, none⟩ (.int .i64 (xl + apx % (xh - xl + 1)))) b20 30 #[.int .i64 (xl + apx % (xh - xl + 1)), .int .i64 0] := hBx.set_ 0 _; have p0 : Ext _ (wx.setCell ⟨b20, 0, none⟩ (.int .i64 (xl + apx % (xh - xl + 1)))) := Ext.set hx (by dsimp only; omega) _; have q1 : Blk ((wx.setCell ⟨b20, 0, none⟩ (.int .i64 (xl + apx % (xh - xl + 1)))).setCell ⟨b20, 1, none⟩ (.int .i64 (yl + apy % (yh - yl + 1)))) b20 30 #[.int .i64 (xl + apx % (xh - xl + 1)), .int .i64 (yl + apy % (yh - yl + 1))] := q0.set_ 1 _; have p1 : Ext _ ((wx.setCell ⟨b20, 0, none⟩ (.int .i64 (xl + apx % (xh - xl + 1)))).setCell ⟨b20, 1, none⟩ (.int .i64 (yl + apy % (yh - yl + 1)))) := Ext.set p0 (by dsimp only; omega) _; revert q1 p1; clear hcB hfB hBx hlB hx; (try clear q0 p0); generalize World.setCell _ _ _ = W4; intro hB_b20 hE_W4
  obtain ⟨qx, hqx⟩ : ∃ q, q = xl + apx % (xh - xl + 1) := ⟨_, rfl⟩
  obtain ⟨qy, hqy⟩ : ∃ q, q = yl + apy % (yh - yl + 1) := ⟨_, rfl⟩
  rw [← hqx, ← hqy] at hB_b20
  have hq : (xl ≤ qx ∧ qx ≤ xh) ∧ yl ≤ qy ∧ qy ≤ yh := by omega
  obtain ⟨⟨hq1, hq2⟩, hq3, hq4⟩ := hq
  have hS4 := hS3.ext hE_W4
  have hX4 := hX3.ext hE_W4
  have hD4 := hB_b19.ext hE_W4
  have hs4 := hs3.ext hE_W4
  have hE4 : Ext w W4 := hE3.trans hE_W4
  clear hqx hqy hm1 hm2 hm3 hm4 hE_W4 hS3 hX3 hs3 hE3 hl1 hlb hcb hB_b19
  obtain ⟨L1, L2, L3⟩ := outside_law s ⟨kind, st, cat, tick, dx, dy, er, lo, hi⟩ (hx.ok hm) xl xh yl yh qx qy (by omega) hq1 hq2 hq3 hq4
  have hl1 := hS4.lt
  have hl2 := hX4.lt
  have hl3 := hD4.lt
  have hl4 := hB_b20.lt
  have hc1 := hS4.cell
  have hc2 := hX4.cell
  have hc3 := hD4.cell
  have hc4 := hB_b20.cell
  go_wp2_with fail
  refine wp_region_text (by kernel_rfl) (by kernel_rfl) ?_
  repeat' (first | (refine bl_off (by rfl) ?_; simp only [Act.put, List.setIfInBounds_toArray, List.set_cons_zero, List.set_cons_succ]) | (apply bl_op; rfl; (intro w1 h1; obtain ⟨hc, hf, hz⟩ := bcell h1; go_simp; (try go_bits); (first | exact ⟨rfl, Ext.refl _⟩ | (apply gives_call; first | (go_at_call 40; exact Excludes_c A1 n1 c1 home A2 n2 c2 A3 n3 c3 s _ _ _ _ _ _ _ _ _ _ _ _ _ _ (hs4.ext h1)) | (go_at_call 21; exact Agrees_c A1 n1 c1 home A2 n2 c2 A3 n3 c3 s _ _ _ _ _ _ _ _ _ _ _ _ (hs4.ext h1))) | (go_invoke; go_simp; apply gives_call; first | (go_at_call 40; exact Excludes_c A1 n1 c1 home A2 n2 c2 A3 n3 c3 s _ _ _ _ _ _ _ _ _ _ _ _ _ _ (hs4.ext h1)) | (go_at_call 21; exact Agrees_c A1 n1 c1 home A2 n2 c2 A3 n3 c3 s _ _ _ _ _ _ _ _ _ _ _ _ (hs4.ext h1))))); simp only [Act.put, List.setIfInBounds_toArray, List.set_cons_zero, List.set_cons_succ]) | (refine bl_split rfl rfl (fun hx => ?_) (fun hx => ?_) <;> simp only [hx]))
  refine bl_nil ?_
  intro W5 h5
  have hS5 := hS4.ext h5
  have hX5 := hX4.ext h5
  have hD5 := hD4.ext h5
  have hQ5 := hB_b20.ext h5
  have hs5 := hs4.ext h5
  clear hc1 hc2 hc3 hc4 hl1 hl2 hl3 hl4 hS4 hX4 hD4 hB_b20 hs4
  have hl1 := hS5.lt
  have hl2 := hX5.lt
  have hl3 := hD5.lt
  have hl4 := hQ5.lt
  have hc1 := hS5.cell
  have hc2 := hX5.cell
  have hc3 := hD5.cell
  have hc4 := hQ5.cell
  generalize he : exclAll s ⟨kind, st, cat, tick, dx, dy, er, lo, hi⟩ xl xh yl yh = e at L1 L3 ⊢
  generalize hg : agreesAll s ⟨kind, st, cat, tick, dx, dy, er, lo, hi⟩ qx qy = g at L1 L2 ⊢
  clear he hg
  cases e <;> cases g
  case true.true => exact absurd (L1 rfl) (by simp)
  all_goals go_wp2_with fail
  all_goals refine wp_region_text (by kernel_rfl) (by kernel_rfl) ?_
  all_goals (
    repeat' (first | (refine bl_off (by rfl) ?_; simp only [Act.put, List.setIfInBounds_toArray, List.set_cons_zero, List.set_cons_succ]) | (apply bl_op; rfl; (intro w1 h1; obtain ⟨hc, hf, hz⟩ := bcell h1; go_simp; (try go_bits); (first | exact ⟨rfl, Ext.refl _⟩ | (apply gives_call; first | (go_at_call 40; exact Excludes_c A1 n1 c1 home A2 n2 c2 A3 n3 c3 s _ _ _ _ _ _ _ _ _ _ _ _ _ _ (hs5.ext h1)) | (go_at_call 42; exact around_c _ _ _ _ _ (by omega) (by omega) (by omega) (by omega))) | (go_invoke; go_simp; apply gives_call; first | (go_at_call 40; exact Excludes_c A1 n1 c1 home A2 n2 c2 A3 n3 c3 s _ _ _ _ _ _ _ _ _ _ _ _ _ _ (hs5.ext h1)) | (go_at_call 42; exact around_c _ _ _ _ _ (by omega) (by omega) (by omega) (by omega))))); simp only [Act.put, List.setIfInBounds_toArray, List.set_cons_zero, List.set_cons_succ]) | (refine bl_split rfl rfl (fun hx => ?_) (fun hx => ?_) <;> simp only [hx])))
  all_goals refine bl_nil ?_
  all_goals intro W6 h6
  all_goals simp only [Int.sub_zero, Int.add_zero, L2]
  all_goals clear hc1 hc2 hc3 hc4 hl1 hl2 hl3 hl4
  all_goals have hS6 := hS5.ext h6
  all_goals have hX6 := hX5.ext h6
  all_goals have hD6 := hD5.ext h6
  all_goals have hQ6 := hQ5.ext h6
  all_goals have hs6 := hs5.ext h6
  all_goals have hE6 : Ext w W6 := (hE4.trans h5).trans h6
  all_goals have hl1 := hS6.lt
  all_goals have hl2 := hX6.lt
  all_goals have hl3 := hD6.lt
  all_goals have hl4 := hQ6.lt
  all_goals have hl5 : w1.heap.size < W6.heap.size + 1 := by omega
  all_goals have hl6 : w1.heap.size + 1 + 1 < W6.heap.size + 1 := by omega
  all_goals have hc1 := hS6.cell
  all_goals have hc2 := hX6.cell
  all_goals have hc3 := hD6.cell
  all_goals have hc4 := hQ6.cell
  all_goals clear hS5 hX5 hD5 hQ5 hs5 h5 h6 hE4
  all_goals go_wp2_with fail
  all_goals try (refine (Excludes_c A1 n1 c1 home A2 n2 c2 A3 n3 c3 s _ _ _ _ _ _ _ _ _ _ _ _ _ _ (hs6.ext (Ext.alloc0 _ _))).mono ?_; rw [L3 trivial]; rintro e w7 ⟨rfl, h7⟩; go_wp2_with fail)
  all_goals refine (awake_c _).mono ?_
  all_goals rintro e w8 ⟨rfl, h8⟩
  all_goals go_wp2_with fail
  all_goals go_ret
  all_goals refine ⟨rfl, hE6.trans ?_⟩
  all_goals (repeat' (first | exact Ext.refl _ | assumption | apply Ext.alloc | apply Ext.drew | refine Ext.set ?_ (by dsimp only; omega) _ | refine Ext.trans ?_ (by assumption)))
end Go.Proofs.Ytmgjjgmadiabfaa
