/- Empty looks and angles together say all. No condition. -/
import Derived.Test.YtmgjjgmadiabfaaMakeOne
import Derived.Test.YtmgjjgmadiabfaaAgree
import Derived.Test.YtmgjjgmadiabfaaAwake
import Derived.Test.YtmgjjgmadiabfaaOwnInts
namespace Go.Proofs.Ytmgjjgmadiabfaa
open Go.RowKit

theorem two_looks (s : Sky) (st cat tick dx dy er lo hi : Int) {kind : Int} (qx qy : Int) (hm : MadeSky s) (hx : MadeSight s ⟨kind, st, cat, tick, dx, dy, er, lo, hi⟩) (hq : (-33554432 ≤ qx ∧ qx ≤ 33554432) ∧ -33554432 ≤ qy ∧ qy ≤ 33554432) :
    ∃ c : Bool, agreesAll s ⟨1, st, cat, tick, dx, dy, er, lo, hi⟩ qx qy = c ∧ agreesAll s ⟨3, st, cat, tick, dx, dy, er, lo, hi⟩ qx qy = (!c || decide (hi * hi < distD qx qy (optV (whereM s st tick)).x (optV (whereM s st tick)).y)) := by
  have e3 : sightErr2 s ⟨3, st, cat, tick, dx, dy, er, lo, hi⟩ = 0 := MadeSight.ok hm ⟨by simp, hx.tick, hx.stn, hx.cat, hx.dir, hx.err, hx.lo, hx.hi, fun h => absurd rfl h⟩
  have e1 : sightErr2 s ⟨1, st, cat, tick, dx, dy, er, lo, hi⟩ = 0 := by
    rw [sightErr2] at e3 ⊢
    rw [hm.ok] at e3 ⊢
    simp only [ne_eq, not_true, if_false, sightErr] at e3 ⊢
    simp only [show ¬ ((1 : Int) < 1 ∨ (3 : Int) < 1) by omega, show ¬ ((3 : Int) < 1 ∨ (3 : Int) < 3) by omega, if_false, show ¬ ((1 : Int) = 2) by omega, show ¬ ((3 : Int) = 2) by omega, show ¬ ((1 : Int) = 3) by omega, if_true] at e3 ⊢
    have ed : dirErr ⟨3, st, cat, tick, dx, dy, er, lo, hi⟩ = dirErr ⟨1, st, cat, tick, dx, dy, er, lo, hi⟩ := rfl
    rw [ed] at e3
    revert e3
    cases within tick 0 1073741824 <;> cases (stnOf s.stations st).isSome <;> cases (catOf s.catalogs cat).isSome <;> cases dirErr ⟨1, st, cat, tick, dx, dy, er, lo, hi⟩ <;> simp
  have en : near ⟨qx, qy⟩ 33554432 = true := (near_iff _ _).2 ⟨hq.1, hq.2⟩
  refine ⟨_, rfl, ?_⟩
  rw [agreesAll, agreesAll, e1, e3, en]
  simp only [decide_true, Bool.true_and, agreesM]
  rfl

set_option maxRecDepth 4000 in
set_option maxHeartbeats 2000000 in
theorem SkyLooks_c (A : Option Addr) (n c : Nat) (l : List Int) (ax ay : Int) (w : World) (hl : Ints w A n l) :
    Calls Try.prog 4 #[.slice A n c, .int .i64 ax, .int .i64 ay] w fun e w' => e = .returned (.bool true) ∧ Ext w w' := by
  go_enter Try.func4, Try.ntmps4
  go_wp2_with fail
  refine (made_c A n c l _ hl).mono ?_
  rintro e w1 ⟨A1, n1, c1, home, A2, n2, c2, A3, n3, c3, s, px, py, kind, st, cat, tick, dx, dy, er, lo, hi, bs, rfl, hO, hs, hm, ⟨⟨hp1, hp2⟩, hp3, hp4⟩, hx, h1⟩
  go_wp2_with fail
  obtain ⟨W1, hW1⟩ : ∃ W, W = ((w1.alloc (.cells #[.slice A1 n1 c1, .int .i64 home, .slice A2 n2 c2, .slice A3 n3 c3] 28)).alloc (.cells #[.int .i64 px, .int .i64 py] 30)).alloc (.cells #[.int .i64 kind, .int .i64 st, .int .i64 cat, .int .i64 tick, .int .i64 dx, .int .i64 dy, .int .i64 er, .int .i64 lo, .int .i64 hi] 32) := ⟨_, rfl⟩
  rw [← hW1]
  have hE1 : Ext w1 W1 := by rw [hW1]; (repeat' (first | exact Ext.refl _ | assumption | apply Ext.alloc | apply Ext.drew | refine Ext.set ?_ (by dsimp only; omega) _ | refine Ext.trans ?_ (by assumption)))
  have hA1 : Blk W1 w1.heap.size 28 #[.slice A1 n1 c1, .int .i64 home, .slice A2 n2 c2, .slice A3 n3 c3] := by rw [hW1]; exact (((Blk.newAt rfl).alloc _).alloc _)
  have hA2 : Blk W1 (w1.heap.size + 1) 30 #[.int .i64 px, .int .i64 py] := by rw [hW1]; exact ((Blk.newAt (by simp)).alloc _)
  have hA3 : Blk W1 (w1.heap.size + 1 + 1) 32 #[.int .i64 kind, .int .i64 st, .int .i64 cat, .int .i64 tick, .int .i64 dx, .int .i64 dy, .int .i64 er, .int .i64 lo, .int .i64 hi] := by rw [hW1]; exact (Blk.newAt (by simp))
  clear hW1
  have hs1 := hs.ext hE1
  have hc2 := hA2.cell
  have hl1 := hA1.lt
  have hl2 := hA2.lt
  have hl3 := hA3.lt
  have hm1 : 0 ≤ ax % 401 ∧ ax % 401 < 401 := ⟨by omega, by omega⟩
  have hm2 : 0 ≤ ay % 401 ∧ ay % 401 < 401 := ⟨by omega, by omega⟩
  refine wp_region_chain1 true [] [0, 1, 2, 3, 4, 5, 6, 7, 8, 9, 10, 11, 12] 13 [14] (Ext _) (Ext _) _ (w1.heap.size) 30 #[.int .i64 0, .int .i64 0] (Stable.ext _) (fun _ h => h) (Ext.drew (Ext.refl _)) (by kernel_rfl) (by kernel_rfl) rfl (fun a w => by simp only [pick1, List.drop_succ_cons, List.drop_zero]; go_simp) (fun w h => ⟨h.size, Nat.lt_of_lt_of_le (by omega) h.size⟩) ?_; simp only [XO, pick, List.drop_succ_cons, List.drop_zero]; (repeat' (first | (refine bl_off (by rfl) ?_; simp only [Act.put, List.setIfInBounds_toArray, List.set_cons_zero, List.set_cons_succ]) | (apply bl_op; rfl; (intro w1 h1; obtain ⟨hc, hf, hz⟩ := bcell h1; go_simp; (try go_bits); (first | exact ⟨rfl, Ext.refl _⟩ | (apply gives_call; go_at_call 24; exact (Mod64_c _ _ _ (by omega) (by omega)).mono fun _ _ ⟨h, hw⟩ => ⟨h, hw ▸ Ext.refl _⟩) | (go_invoke; go_simp; apply gives_call; go_at_call 24; exact (Mod64_c _ _ _ (by omega) (by omega)).mono fun _ _ ⟨h, hw⟩ => ⟨h, hw ▸ Ext.refl _⟩))); simp only [Act.put, List.setIfInBounds_toArray, List.set_cons_zero, List.set_cons_succ]) | (refine bl_split rfl rfl (fun hx => ?_) (fun hx => ?_) <;> simp only [hx]))); refine bl_nil ?_; intro b10 hb_b10 hg_b10; (try simp only [pick1, List.drop_succ_cons, List.drop_zero]); (try simp only [Act.put, List.setIfInBounds_toArray, List.set_cons_zero, List.set_cons_succ]); refine tl_last rfl rfl (fun wx ⟨hx, hBx⟩ => ?_); have hcB := hBx.cell; have hfB := hBx.frozen; have hlB := hBx.lt; refine ⟨_, (by go_simp; rfl), ?_⟩; have q0 : Blk (wx.setCell ⟨b10, 0, none⟩ (.int .i64 (px + ax % 401 - 200))) b10 30 #[.int .i64 (px + ax % 401 - 200), .int .i64 0] := hBx.set_ 0 _; have p0 : Ext _ (wx.setCell ⟨b10, 0, none⟩ (.int .i64 (px + ax % 401 - 200))) := Ext.set hx (by dsimp only; omega) _; have q1 : Blk ((wx.setCell ⟨b10, 0, none⟩ (.int .i64 (px + ax % 401 - 200))).setCell ⟨b10, 1, none⟩ (.int .i64 (py + ay % 401 - 200))) b10 30 #[.int .i64 (px + ax % 401 - 200), .int .i64 (py + ay % 401 - 200)] := q0.set_ 1 _; have p1 : Ext _ ((wx.setCell ⟨b10, 0, none⟩ (.int .i64 (px + ax % 401 - 200))).setCell ⟨b10, 1, none⟩ (.int .i64 (py + ay % 401 - 200))) := Ext.set p0 (by dsimp only; omega) _; revert q1 p1; clear hcB hfB hBx hlB hx; (try clear q0 p0); generalize World.setCell _ _ _ = W2; intro hB_b10 hE_W2
  have hA1' := hA1.ext hE_W2
  have hA3' := hA3.ext hE_W2
  have hs2 := hs1.ext hE_W2
  have hE2 : Ext w W2 := (h1.trans hE1).trans hE_W2
  have hb1 : w1.heap.size < W2.heap.size := hA1'.lt
  have hb2 : w1.heap.size + 1 + 1 < W2.heap.size := hA3'.lt
  have hb3 : b10 < W2.heap.size := hB_b10.lt
  obtain ⟨qx, hqx⟩ : ∃ q, q = px + ax % 401 - 200 := ⟨_, rfl⟩
  obtain ⟨qy, hqy⟩ : ∃ q, q = py + ay % 401 - 200 := ⟨_, rfl⟩
  rw [← hqx, ← hqy] at hB_b10
  have hq1 : (-4300 ≤ qx ∧ qx ≤ 4300) ∧ -4300 ≤ qy ∧ qy ≤ 4300 := by omega
  obtain ⟨⟨hq1, hq2⟩, hq3, hq4⟩ := hq1
  try rw [← hqx, ← hqy]
  clear hqx hqy hm1 hm2 hE_W2 hA1 hA2 hA3 hs1 hs h1 hl1 hl2 hl3 hc2 hO hE1
  have hcB := hB_b10.cell
  have hcS := hA1'.cell
  have hcX := hA3'.cell
  by_cases hk2 : kind = 2
  · subst hk2
    go_wp2_with fail
    refine (awake_c _).mono ?_
    rintro e w3 ⟨rfl, h3⟩; obtain ⟨hc_w3, hf_w3, hz_w3⟩ := bcell h3; (repeat (first | rw [World.size_alloc] at hz_w3 | rw [World.size_drew] at hz_w3 | rw [World.size_setCell] at hz_w3))
    go_wp2_with fail
    go_ret
    exact ⟨rfl, by (repeat' (first | exact Ext.refl _ | assumption | apply Ext.alloc | apply Ext.drew | refine Ext.set ?_ (by dsimp only; omega) _ | refine Ext.trans ?_ (by assumption)))⟩
  · go_wp2_with fail
    refine wp_region_gen [0, 1] [2, 3] [4, 5] (Ext _) (Ext _) (Stable.ext _) (fun _ h => h) (Ext.drew (Ext.refl _)) (by kernel_rfl) (by kernel_rfl) ?_; simp only [pick, List.drop_succ_cons, List.drop_zero]; (repeat' (first | (refine bl_off (by rfl) ?_; simp only [Act.put, List.setIfInBounds_toArray, List.set_cons_zero, List.set_cons_succ]) | (apply bl_op; rfl; (intro w1 h1; obtain ⟨hc, hf, hz⟩ := bcell h1; go_simp; (try go_bits); (first | exact ⟨rfl, Ext.refl _⟩)); simp only [Act.put, List.setIfInBounds_toArray, List.set_cons_zero, List.set_cons_succ]) | (refine bl_split rfl rfl (fun hx => ?_) (fun hx => ?_) <;> simp only [hx]))); refine bl_nil ?_; refine ag_two (e1 := 32) (e2 := 32) (zs1 := #[.int .i64 0, .int .i64 0, .int .i64 0, .int .i64 0, .int .i64 0, .int .i64 0, .int .i64 0, .int .i64 0, .int .i64 0]) (zs2 := #[.int .i64 0, .int .i64 0, .int .i64 0, .int .i64 0, .int .i64 0, .int .i64 0, .int .i64 0, .int .i64 0, .int .i64 0]) (Stable.ext _) (fun _ h => h) (by decide) rfl rfl (fun u v => rfl) (fun v w => ⟨by simp only [opAt]; go_simp, by simp only [opAt]; go_simp⟩) (fun v w => ⟨by simp only [opAt]; go_simp, by simp only [opAt]; go_simp⟩) (fun b11 b12 hb_b11 hb_b12 hne_b11 => ?_); (try simp only [opAt]); (try simp only [Act.put, List.setIfInBounds_toArray, List.set_cons_zero, List.set_cons_succ]); refine tg_skip (fun w => Ext _ w ∧ Blk w b11 32 #[.int .i64 kind, .int .i64 st, .int .i64 cat, .int .i64 tick, .int .i64 dx, .int .i64 dy, .int .i64 er, .int .i64 lo, .int .i64 hi] ∧ Blk w b12 32 #[.int .i64 0, .int .i64 0, .int .i64 0, .int .i64 0, .int .i64 0, .int .i64 0, .int .i64 0, .int .i64 0, .int .i64 0]) rfl rfl ((Stable.ext _).and ((Stable.blk _ _ _).and (Stable.blk _ _ _))) (fun _ h => h.1) (fun wx hx => ?_) ?_; (focus (obtain ⟨hx, hB1, hB2⟩ := hx; have hcB := hB1.cell; have hfB := hB1.frozen; have hlB := hB1.lt; refine ⟨_, (by go_simp; rfl), ?_⟩; have q0 : Blk (wx.setCell ⟨b11, 0, none⟩ (.int .i64 kind)) b11 32 #[.int .i64 kind, .int .i64 0, .int .i64 0, .int .i64 0, .int .i64 0, .int .i64 0, .int .i64 0, .int .i64 0, .int .i64 0] := hB1.set_ 0 _; have p0 : Ext _ (wx.setCell ⟨b11, 0, none⟩ (.int .i64 kind)) := Ext.set hx (by dsimp only; omega) _; have o0 := Blk.far (p := ⟨b11, 0, none⟩) hB2 (by dsimp only; omega) (.int .i64 kind); have q1 : Blk ((wx.setCell ⟨b11, 0, none⟩ (.int .i64 kind)).setCell ⟨b11, 1, none⟩ (.int .i64 st)) b11 32 #[.int .i64 kind, .int .i64 st, .int .i64 0, .int .i64 0, .int .i64 0, .int .i64 0, .int .i64 0, .int .i64 0, .int .i64 0] := q0.set_ 1 _; have p1 : Ext _ ((wx.setCell ⟨b11, 0, none⟩ (.int .i64 kind)).setCell ⟨b11, 1, none⟩ (.int .i64 st)) := Ext.set p0 (by dsimp only; omega) _; have o1 := Blk.far (p := ⟨b11, 1, none⟩) o0 (by dsimp only; omega) (.int .i64 st); have q2 : Blk (((wx.setCell ⟨b11, 0, none⟩ (.int .i64 kind)).setCell ⟨b11, 1, none⟩ (.int .i64 st)).setCell ⟨b11, 2, none⟩ (.int .i64 cat)) b11 32 #[.int .i64 kind, .int .i64 st, .int .i64 cat, .int .i64 0, .int .i64 0, .int .i64 0, .int .i64 0, .int .i64 0, .int .i64 0] := q1.set_ 2 _; have p2 : Ext _ (((wx.setCell ⟨b11, 0, none⟩ (.int .i64 kind)).setCell ⟨b11, 1, none⟩ (.int .i64 st)).setCell ⟨b11, 2, none⟩ (.int .i64 cat)) := Ext.set p1 (by dsimp only; omega) _; have o2 := Blk.far (p := ⟨b11, 2, none⟩) o1 (by dsimp only; omega) (.int .i64 cat); have q3 : Blk ((((wx.setCell ⟨b11, 0, none⟩ (.int .i64 kind)).setCell ⟨b11, 1, none⟩ (.int .i64 st)).setCell ⟨b11, 2, none⟩ (.int .i64 cat)).setCell ⟨b11, 3, none⟩ (.int .i64 tick)) b11 32 #[.int .i64 kind, .int .i64 st, .int .i64 cat, .int .i64 tick, .int .i64 0, .int .i64 0, .int .i64 0, .int .i64 0, .int .i64 0] := q2.set_ 3 _; have p3 : Ext _ ((((wx.setCell ⟨b11, 0, none⟩ (.int .i64 kind)).setCell ⟨b11, 1, none⟩ (.int .i64 st)).setCell ⟨b11, 2, none⟩ (.int .i64 cat)).setCell ⟨b11, 3, none⟩ (.int .i64 tick)) := Ext.set p2 (by dsimp only; omega) _; have o3 := Blk.far (p := ⟨b11, 3, none⟩) o2 (by dsimp only; omega) (.int .i64 tick); have q4 : Blk (((((wx.setCell ⟨b11, 0, none⟩ (.int .i64 kind)).setCell ⟨b11, 1, none⟩ (.int .i64 st)).setCell ⟨b11, 2, none⟩ (.int .i64 cat)).setCell ⟨b11, 3, none⟩ (.int .i64 tick)).setCell ⟨b11, 4, none⟩ (.int .i64 dx)) b11 32 #[.int .i64 kind, .int .i64 st, .int .i64 cat, .int .i64 tick, .int .i64 dx, .int .i64 0, .int .i64 0, .int .i64 0, .int .i64 0] := q3.set_ 4 _; have p4 : Ext _ (((((wx.setCell ⟨b11, 0, none⟩ (.int .i64 kind)).setCell ⟨b11, 1, none⟩ (.int .i64 st)).setCell ⟨b11, 2, none⟩ (.int .i64 cat)).setCell ⟨b11, 3, none⟩ (.int .i64 tick)).setCell ⟨b11, 4, none⟩ (.int .i64 dx)) := Ext.set p3 (by dsimp only; omega) _; have o4 := Blk.far (p := ⟨b11, 4, none⟩) o3 (by dsimp only; omega) (.int .i64 dx); have q5 : Blk ((((((wx.setCell ⟨b11, 0, none⟩ (.int .i64 kind)).setCell ⟨b11, 1, none⟩ (.int .i64 st)).setCell ⟨b11, 2, none⟩ (.int .i64 cat)).setCell ⟨b11, 3, none⟩ (.int .i64 tick)).setCell ⟨b11, 4, none⟩ (.int .i64 dx)).setCell ⟨b11, 5, none⟩ (.int .i64 dy)) b11 32 #[.int .i64 kind, .int .i64 st, .int .i64 cat, .int .i64 tick, .int .i64 dx, .int .i64 dy, .int .i64 0, .int .i64 0, .int .i64 0] := q4.set_ 5 _; have p5 : Ext _ ((((((wx.setCell ⟨b11, 0, none⟩ (.int .i64 kind)).setCell ⟨b11, 1, none⟩ (.int .i64 st)).setCell ⟨b11, 2, none⟩ (.int .i64 cat)).setCell ⟨b11, 3, none⟩ (.int .i64 tick)).setCell ⟨b11, 4, none⟩ (.int .i64 dx)).setCell ⟨b11, 5, none⟩ (.int .i64 dy)) := Ext.set p4 (by dsimp only; omega) _; have o5 := Blk.far (p := ⟨b11, 5, none⟩) o4 (by dsimp only; omega) (.int .i64 dy); have q6 : Blk (((((((wx.setCell ⟨b11, 0, none⟩ (.int .i64 kind)).setCell ⟨b11, 1, none⟩ (.int .i64 st)).setCell ⟨b11, 2, none⟩ (.int .i64 cat)).setCell ⟨b11, 3, none⟩ (.int .i64 tick)).setCell ⟨b11, 4, none⟩ (.int .i64 dx)).setCell ⟨b11, 5, none⟩ (.int .i64 dy)).setCell ⟨b11, 6, none⟩ (.int .i64 er)) b11 32 #[.int .i64 kind, .int .i64 st, .int .i64 cat, .int .i64 tick, .int .i64 dx, .int .i64 dy, .int .i64 er, .int .i64 0, .int .i64 0] := q5.set_ 6 _; have p6 : Ext _ (((((((wx.setCell ⟨b11, 0, none⟩ (.int .i64 kind)).setCell ⟨b11, 1, none⟩ (.int .i64 st)).setCell ⟨b11, 2, none⟩ (.int .i64 cat)).setCell ⟨b11, 3, none⟩ (.int .i64 tick)).setCell ⟨b11, 4, none⟩ (.int .i64 dx)).setCell ⟨b11, 5, none⟩ (.int .i64 dy)).setCell ⟨b11, 6, none⟩ (.int .i64 er)) := Ext.set p5 (by dsimp only; omega) _; have o6 := Blk.far (p := ⟨b11, 6, none⟩) o5 (by dsimp only; omega) (.int .i64 er); have q7 : Blk ((((((((wx.setCell ⟨b11, 0, none⟩ (.int .i64 kind)).setCell ⟨b11, 1, none⟩ (.int .i64 st)).setCell ⟨b11, 2, none⟩ (.int .i64 cat)).setCell ⟨b11, 3, none⟩ (.int .i64 tick)).setCell ⟨b11, 4, none⟩ (.int .i64 dx)).setCell ⟨b11, 5, none⟩ (.int .i64 dy)).setCell ⟨b11, 6, none⟩ (.int .i64 er)).setCell ⟨b11, 7, none⟩ (.int .i64 lo)) b11 32 #[.int .i64 kind, .int .i64 st, .int .i64 cat, .int .i64 tick, .int .i64 dx, .int .i64 dy, .int .i64 er, .int .i64 lo, .int .i64 0] := q6.set_ 7 _; have p7 : Ext _ ((((((((wx.setCell ⟨b11, 0, none⟩ (.int .i64 kind)).setCell ⟨b11, 1, none⟩ (.int .i64 st)).setCell ⟨b11, 2, none⟩ (.int .i64 cat)).setCell ⟨b11, 3, none⟩ (.int .i64 tick)).setCell ⟨b11, 4, none⟩ (.int .i64 dx)).setCell ⟨b11, 5, none⟩ (.int .i64 dy)).setCell ⟨b11, 6, none⟩ (.int .i64 er)).setCell ⟨b11, 7, none⟩ (.int .i64 lo)) := Ext.set p6 (by dsimp only; omega) _; have o7 := Blk.far (p := ⟨b11, 7, none⟩) o6 (by dsimp only; omega) (.int .i64 lo); have q8 : Blk (((((((((wx.setCell ⟨b11, 0, none⟩ (.int .i64 kind)).setCell ⟨b11, 1, none⟩ (.int .i64 st)).setCell ⟨b11, 2, none⟩ (.int .i64 cat)).setCell ⟨b11, 3, none⟩ (.int .i64 tick)).setCell ⟨b11, 4, none⟩ (.int .i64 dx)).setCell ⟨b11, 5, none⟩ (.int .i64 dy)).setCell ⟨b11, 6, none⟩ (.int .i64 er)).setCell ⟨b11, 7, none⟩ (.int .i64 lo)).setCell ⟨b11, 8, none⟩ (.int .i64 hi)) b11 32 #[.int .i64 kind, .int .i64 st, .int .i64 cat, .int .i64 tick, .int .i64 dx, .int .i64 dy, .int .i64 er, .int .i64 lo, .int .i64 hi] := q7.set_ 8 _; have p8 : Ext _ (((((((((wx.setCell ⟨b11, 0, none⟩ (.int .i64 kind)).setCell ⟨b11, 1, none⟩ (.int .i64 st)).setCell ⟨b11, 2, none⟩ (.int .i64 cat)).setCell ⟨b11, 3, none⟩ (.int .i64 tick)).setCell ⟨b11, 4, none⟩ (.int .i64 dx)).setCell ⟨b11, 5, none⟩ (.int .i64 dy)).setCell ⟨b11, 6, none⟩ (.int .i64 er)).setCell ⟨b11, 7, none⟩ (.int .i64 lo)).setCell ⟨b11, 8, none⟩ (.int .i64 hi)) := Ext.set p7 (by dsimp only; omega) _; have o8 := Blk.far (p := ⟨b11, 8, none⟩) o7 (by dsimp only; omega) (.int .i64 hi); exact ⟨p8, q8, o8⟩)); refine tg_skip (fun w => Ext _ w ∧ Blk w b11 32 #[.int .i64 kind, .int .i64 st, .int .i64 cat, .int .i64 tick, .int .i64 dx, .int .i64 dy, .int .i64 er, .int .i64 lo, .int .i64 hi] ∧ Blk w b12 32 #[.int .i64 kind, .int .i64 st, .int .i64 cat, .int .i64 tick, .int .i64 dx, .int .i64 dy, .int .i64 er, .int .i64 lo, .int .i64 hi]) rfl rfl ((Stable.ext _).and ((Stable.blk _ _ _).and (Stable.blk _ _ _))) (fun _ h => h.1) (fun wx hx => ?_) ?_; (focus (obtain ⟨hx, hB1, hB2⟩ := hx; have hcB := hB2.cell; have hfB := hB2.frozen; have hlB := hB2.lt; refine ⟨_, (by go_simp; rfl), ?_⟩; have q0 : Blk (wx.setCell ⟨b12, 0, none⟩ (.int .i64 kind)) b12 32 #[.int .i64 kind, .int .i64 0, .int .i64 0, .int .i64 0, .int .i64 0, .int .i64 0, .int .i64 0, .int .i64 0, .int .i64 0] := hB2.set_ 0 _; have p0 : Ext _ (wx.setCell ⟨b12, 0, none⟩ (.int .i64 kind)) := Ext.set hx (by dsimp only; omega) _; have o0 := Blk.far (p := ⟨b12, 0, none⟩) hB1 (by dsimp only; omega) (.int .i64 kind); have q1 : Blk ((wx.setCell ⟨b12, 0, none⟩ (.int .i64 kind)).setCell ⟨b12, 1, none⟩ (.int .i64 st)) b12 32 #[.int .i64 kind, .int .i64 st, .int .i64 0, .int .i64 0, .int .i64 0, .int .i64 0, .int .i64 0, .int .i64 0, .int .i64 0] := q0.set_ 1 _; have p1 : Ext _ ((wx.setCell ⟨b12, 0, none⟩ (.int .i64 kind)).setCell ⟨b12, 1, none⟩ (.int .i64 st)) := Ext.set p0 (by dsimp only; omega) _; have o1 := Blk.far (p := ⟨b12, 1, none⟩) o0 (by dsimp only; omega) (.int .i64 st); have q2 : Blk (((wx.setCell ⟨b12, 0, none⟩ (.int .i64 kind)).setCell ⟨b12, 1, none⟩ (.int .i64 st)).setCell ⟨b12, 2, none⟩ (.int .i64 cat)) b12 32 #[.int .i64 kind, .int .i64 st, .int .i64 cat, .int .i64 0, .int .i64 0, .int .i64 0, .int .i64 0, .int .i64 0, .int .i64 0] := q1.set_ 2 _; have p2 : Ext _ (((wx.setCell ⟨b12, 0, none⟩ (.int .i64 kind)).setCell ⟨b12, 1, none⟩ (.int .i64 st)).setCell ⟨b12, 2, none⟩ (.int .i64 cat)) := Ext.set p1 (by dsimp only; omega) _; have o2 := Blk.far (p := ⟨b12, 2, none⟩) o1 (by dsimp only; omega) (.int .i64 cat); have q3 : Blk ((((wx.setCell ⟨b12, 0, none⟩ (.int .i64 kind)).setCell ⟨b12, 1, none⟩ (.int .i64 st)).setCell ⟨b12, 2, none⟩ (.int .i64 cat)).setCell ⟨b12, 3, none⟩ (.int .i64 tick)) b12 32 #[.int .i64 kind, .int .i64 st, .int .i64 cat, .int .i64 tick, .int .i64 0, .int .i64 0, .int .i64 0, .int .i64 0, .int .i64 0] := q2.set_ 3 _; have p3 : Ext _ ((((wx.setCell ⟨b12, 0, none⟩ (.int .i64 kind)).setCell ⟨b12, 1, none⟩ (.int .i64 st)).setCell ⟨b12, 2, none⟩ (.int .i64 cat)).setCell ⟨b12, 3, none⟩ (.int .i64 tick)) := Ext.set p2 (by dsimp only; omega) _; have o3 := Blk.far (p := ⟨b12, 3, none⟩) o2 (by dsimp only; omega) (.int .i64 tick); have q4 : Blk (((((wx.setCell ⟨b12, 0, none⟩ (.int .i64 kind)).setCell ⟨b12, 1, none⟩ (.int .i64 st)).setCell ⟨b12, 2, none⟩ (.int .i64 cat)).setCell ⟨b12, 3, none⟩ (.int .i64 tick)).setCell ⟨b12, 4, none⟩ (.int .i64 dx)) b12 32 #[.int .i64 kind, .int .i64 st, .int .i64 cat, .int .i64 tick, .int .i64 dx, .int .i64 0, .int .i64 0, .int .i64 0, .int .i64 0] := q3.set_ 4 _; have p4 : Ext _ (((((wx.setCell ⟨b12, 0, none⟩ (.int .i64 kind)).setCell ⟨b12, 1, none⟩ (.int .i64 st)).setCell ⟨b12, 2, none⟩ (.int .i64 cat)).setCell ⟨b12, 3, none⟩ (.int .i64 tick)).setCell ⟨b12, 4, none⟩ (.int .i64 dx)) := Ext.set p3 (by dsimp only; omega) _; have o4 := Blk.far (p := ⟨b12, 4, none⟩) o3 (by dsimp only; omega) (.int .i64 dx); have q5 : Blk ((((((wx.setCell ⟨b12, 0, none⟩ (.int .i64 kind)).setCell ⟨b12, 1, none⟩ (.int .i64 st)).setCell ⟨b12, 2, none⟩ (.int .i64 cat)).setCell ⟨b12, 3, none⟩ (.int .i64 tick)).setCell ⟨b12, 4, none⟩ (.int .i64 dx)).setCell ⟨b12, 5, none⟩ (.int .i64 dy)) b12 32 #[.int .i64 kind, .int .i64 st, .int .i64 cat, .int .i64 tick, .int .i64 dx, .int .i64 dy, .int .i64 0, .int .i64 0, .int .i64 0] := q4.set_ 5 _; have p5 : Ext _ ((((((wx.setCell ⟨b12, 0, none⟩ (.int .i64 kind)).setCell ⟨b12, 1, none⟩ (.int .i64 st)).setCell ⟨b12, 2, none⟩ (.int .i64 cat)).setCell ⟨b12, 3, none⟩ (.int .i64 tick)).setCell ⟨b12, 4, none⟩ (.int .i64 dx)).setCell ⟨b12, 5, none⟩ (.int .i64 dy)) := Ext.set p4 (by dsimp only; omega) _; have o5 := Blk.far (p := ⟨b12, 5, none⟩) o4 (by dsimp only; omega) (.int .i64 dy); have q6 : Blk (((((((wx.setCell ⟨b12, 0, none⟩ (.int .i64 kind)).setCell ⟨b12, 1, none⟩ (.int .i64 st)).setCell ⟨b12, 2, none⟩ (.int .i64 cat)).setCell ⟨b12, 3, none⟩ (.int .i64 tick)).setCell ⟨b12, 4, none⟩ (.int .i64 dx)).setCell ⟨b12, 5, none⟩ (.int .i64 dy)).setCell ⟨b12, 6, none⟩ (.int .i64 er)) b12 32 #[.int .i64 kind, .int .i64 st, .int .i64 cat, .int .i64 tick, .int .i64 dx, .int .i64 dy, .int .i64 er, .int .i64 0, .int .i64 0] := q5.set_ 6 _; have p6 : Ext _ (((((((wx.setCell ⟨b12, 0, none⟩ (.int .i64 kind)).setCell ⟨b12, 1, none⟩ (.int .i64 st)).setCell ⟨b12, 2, none⟩ (.int .i64 cat)).setCell ⟨b12, 3, none⟩ (.int .i64 tick)).setCell ⟨b12, 4, none⟩ (.int .i64 dx)).setCell ⟨b12, 5, none⟩ (.int .i64 dy)).setCell ⟨b12, 6, none⟩ (.int .i64 er)) := Ext.set p5 (by dsimp only; omega) _; have o6 := Blk.far (p := ⟨b12, 6, none⟩) o5 (by dsimp only; omega) (.int .i64 er); have q7 : Blk ((((((((wx.setCell ⟨b12, 0, none⟩ (.int .i64 kind)).setCell ⟨b12, 1, none⟩ (.int .i64 st)).setCell ⟨b12, 2, none⟩ (.int .i64 cat)).setCell ⟨b12, 3, none⟩ (.int .i64 tick)).setCell ⟨b12, 4, none⟩ (.int .i64 dx)).setCell ⟨b12, 5, none⟩ (.int .i64 dy)).setCell ⟨b12, 6, none⟩ (.int .i64 er)).setCell ⟨b12, 7, none⟩ (.int .i64 lo)) b12 32 #[.int .i64 kind, .int .i64 st, .int .i64 cat, .int .i64 tick, .int .i64 dx, .int .i64 dy, .int .i64 er, .int .i64 lo, .int .i64 0] := q6.set_ 7 _; have p7 : Ext _ ((((((((wx.setCell ⟨b12, 0, none⟩ (.int .i64 kind)).setCell ⟨b12, 1, none⟩ (.int .i64 st)).setCell ⟨b12, 2, none⟩ (.int .i64 cat)).setCell ⟨b12, 3, none⟩ (.int .i64 tick)).setCell ⟨b12, 4, none⟩ (.int .i64 dx)).setCell ⟨b12, 5, none⟩ (.int .i64 dy)).setCell ⟨b12, 6, none⟩ (.int .i64 er)).setCell ⟨b12, 7, none⟩ (.int .i64 lo)) := Ext.set p6 (by dsimp only; omega) _; have o7 := Blk.far (p := ⟨b12, 7, none⟩) o6 (by dsimp only; omega) (.int .i64 lo); have q8 : Blk (((((((((wx.setCell ⟨b12, 0, none⟩ (.int .i64 kind)).setCell ⟨b12, 1, none⟩ (.int .i64 st)).setCell ⟨b12, 2, none⟩ (.int .i64 cat)).setCell ⟨b12, 3, none⟩ (.int .i64 tick)).setCell ⟨b12, 4, none⟩ (.int .i64 dx)).setCell ⟨b12, 5, none⟩ (.int .i64 dy)).setCell ⟨b12, 6, none⟩ (.int .i64 er)).setCell ⟨b12, 7, none⟩ (.int .i64 lo)).setCell ⟨b12, 8, none⟩ (.int .i64 hi)) b12 32 #[.int .i64 kind, .int .i64 st, .int .i64 cat, .int .i64 tick, .int .i64 dx, .int .i64 dy, .int .i64 er, .int .i64 lo, .int .i64 hi] := q7.set_ 8 _; have p8 : Ext _ (((((((((wx.setCell ⟨b12, 0, none⟩ (.int .i64 kind)).setCell ⟨b12, 1, none⟩ (.int .i64 st)).setCell ⟨b12, 2, none⟩ (.int .i64 cat)).setCell ⟨b12, 3, none⟩ (.int .i64 tick)).setCell ⟨b12, 4, none⟩ (.int .i64 dx)).setCell ⟨b12, 5, none⟩ (.int .i64 dy)).setCell ⟨b12, 6, none⟩ (.int .i64 er)).setCell ⟨b12, 7, none⟩ (.int .i64 lo)).setCell ⟨b12, 8, none⟩ (.int .i64 hi)) := Ext.set p7 (by dsimp only; omega) _; have o8 := Blk.far (p := ⟨b12, 8, none⟩) o7 (by dsimp only; omega) (.int .i64 hi); exact ⟨p8, o8, q8⟩)); refine tg_nil ?_; rintro W3 ⟨hE_W3, hB_b11, hB_b12⟩
    have hE3 : Ext w W3 := hE2.trans hE_W3
    have hB3 := hB_b10.ext hE_W3
    have hS3 := hA1'.ext hE_W3
    have hX3 := hA3'.ext hE_W3
    clear hcB hcS hcX hA1' hA3' hB_b10
    have hcB := hB3.cell
    have hcS := hS3.cell
    have hcX := hX3.cell
    have hcM := hB_b11.cell
    have hcN := hB_b12.cell
    have hfM := hB_b11.frozen
    have hfN := hB_b12.frozen
    have hlM := hB_b11.lt
    have hlN := hB_b12.lt
    have hlB := hB3.lt
    have hlS := hS3.lt
    have hlX := hX3.lt
    have ne1 : b11 ≠ w1.heap.size := by omega
    have ne2 : b12 ≠ w1.heap.size := by omega
    have ne3 : b11 ≠ w1.heap.size + 1 + 1 := by omega
    have ne4 : b12 ≠ w1.heap.size + 1 + 1 := by omega
    have ne5 : b11 ≠ b10 := by omega
    have ne6 : b12 ≠ b10 := by omega
    obtain ⟨o, ho, ⟨hox1, hox2⟩, hoy1, hoy2⟩ := hm.orig hx.stn (t := tick) (by have := hx.tick; dsimp only at this; omega)
    obtain ⟨u, hu1, hu3⟩ := two_looks s st cat tick dx dy er lo hi qx qy hm hx (by omega)
    dsimp only at ho
    rw [ho] at hu3
    simp only [optV, distD] at hu3
    have HWH := Lib.hid fun W (hW : Ext W2 W) => Where_c A1 n1 c1 home A2 n2 c2 A3 n3 c3 s st tick W (hs2.ext hW)
    rw [ho] at HWH
    simp only [optV, Option.isSome_some] at HWH
    have Hu1 := Lib.hid hu1
    have Hu3 := Lib.hid hu3
    clear hu1 hu3 ho
    go_wp2_with fail
    have k1 : Blk (W3.setCell ⟨b11, 0, none⟩ (.int .i64 1)) b11 32 #[.int .i64 1, .int .i64 st, .int .i64 cat, .int .i64 tick, .int .i64 dx, .int .i64 dy, .int .i64 er, .int .i64 lo, .int .i64 hi] := hB_b11.set_ 0 _
    have K1 : Hid (Blk ((W3.setCell ⟨b11, 0, none⟩ (.int .i64 1)).setCell ⟨b12, 0, none⟩ (.int .i64 3)) b11 32 #[.int .i64 1, .int .i64 st, .int .i64 cat, .int .i64 tick, .int .i64 dx, .int .i64 dy, .int .i64 er, .int .i64 lo, .int .i64 hi]) := Lib.hid (k1.far (p := ⟨b12, 0, none⟩) (by dsimp only; omega) _)
    have K2 : Hid (Blk ((W3.setCell ⟨b11, 0, none⟩ (.int .i64 1)).setCell ⟨b12, 0, none⟩ (.int .i64 3)) b12 32 #[.int .i64 3, .int .i64 st, .int .i64 cat, .int .i64 tick, .int .i64 dx, .int .i64 dy, .int .i64 er, .int .i64 lo, .int .i64 hi]) := Lib.hid ((hB_b12.far (p := ⟨b11, 0, none⟩) (by dsimp only; omega) _).set_ 0 _)
    have K3 : Hid (Blk ((W3.setCell ⟨b11, 0, none⟩ (.int .i64 1)).setCell ⟨b12, 0, none⟩ (.int .i64 3)) w1.heap.size 28 #[.slice A1 n1 c1, .int .i64 home, .slice A2 n2 c2, .slice A3 n3 c3]) := Lib.hid ((hS3.far (p := ⟨b11, 0, none⟩) (by dsimp only; omega) _).far (p := ⟨b12, 0, none⟩) (by dsimp only; omega) _)
    have K4 : Hid (Blk ((W3.setCell ⟨b11, 0, none⟩ (.int .i64 1)).setCell ⟨b12, 0, none⟩ (.int .i64 3)) (w1.heap.size + 1 + 1) 32 #[.int .i64 kind, .int .i64 st, .int .i64 cat, .int .i64 tick, .int .i64 dx, .int .i64 dy, .int .i64 er, .int .i64 lo, .int .i64 hi]) := Lib.hid ((hX3.far (p := ⟨b11, 0, none⟩) (by dsimp only; omega) _).far (p := ⟨b12, 0, none⟩) (by dsimp only; omega) _)
    have K5 : Hid (Blk ((W3.setCell ⟨b11, 0, none⟩ (.int .i64 1)).setCell ⟨b12, 0, none⟩ (.int .i64 3)) b10 30 #[.int .i64 qx, .int .i64 qy]) := Lib.hid ((hB3.far (p := ⟨b11, 0, none⟩) (by dsimp only; omega) _).far (p := ⟨b12, 0, none⟩) (by dsimp only; omega) _)
    have K6 : Hid (Ext W2 ((W3.setCell ⟨b11, 0, none⟩ (.int .i64 1)).setCell ⟨b12, 0, none⟩ (.int .i64 3))) := Lib.hid (Ext.set (Ext.set hE_W3 (by dsimp only; omega) _) (by dsimp only; omega) _)
    clear k1 hcB hcS hcX hcM hcN hfM hfN hlM hlN hlB hlS hlX hB_b11 hB_b12 hB3 hS3 hX3 hE3 hE_W3
    revert K1 K2 K3 K4 K5 K6
    generalize World.setCell _ _ _ = W4
    intro K1 K2 K3 K4 K5 K6
    refine (HWH.out _ K6.out).mono ?_
    rintro e w5 ⟨rfl, h5⟩
    have m1 := (K1.out.ext h5).cell
    have m2 := (K2.out.ext h5).cell
    have m3 := (K3.out.ext h5).cell
    have m4 := (K4.out.ext h5).cell
    have m5 := (K5.out.ext h5).cell
    have l1 := (K1.out.ext h5).lt
    have l2 := (K2.out.ext h5).lt
    have l3 := (K3.out.ext h5).lt
    have l4 := (K4.out.ext h5).lt
    have l5 := (K5.out.ext h5).lt
    have h25 : Hid (Ext W2 w5) := Lib.hid (K6.out.trans h5)
    have hhi := hx.hi
    obtain ⟨hhi1, hhi2⟩ := hhi
    dsimp only at hhi1 hhi2
    have hh0 : 0 ≤ hi * hi ∧ hi * hi ≤ 49000000 := ⟨(mul_bd (A := 7000) (B := 7000) (a := hi) (b := hi) (by omega) (by omega)).2 |> fun _ => Int.mul_nonneg (by omega) (by omega), (mul_bd (A := 7000) (B := 7000) (a := hi) (b := hi) (by omega) (by omega)).2⟩
    have hxx : (qx - o.x) * (qx - o.x) ≤ 49000000 ∧ -49000000 ≤ (qx - o.x) * (qx - o.x) := ⟨(mul_bd (A := 7000) (B := 7000) (by omega) (by omega)).2, (mul_bd (A := 7000) (B := 7000) (by omega) (by omega)).1⟩
    have hyy : (qy - o.y) * (qy - o.y) ≤ 49000000 ∧ -49000000 ≤ (qy - o.y) * (qy - o.y) := ⟨(mul_bd (A := 7000) (B := 7000) (by omega) (by omega)).2, (mul_bd (A := 7000) (B := 7000) (by omega) (by omega)).1⟩
    have M1 := Lib.hid (K1.out.ext h5)
    have M2 := Lib.hid (K2.out.ext h5)
    have M3 := Lib.hid (K3.out.ext h5)
    have M5 := Lib.hid (K5.out.ext h5)
    clear K1 K2 K3 K4 K5 K6 h5 HWH
    by_cases hf : hi * hi < (qx - o.x) * (qx - o.x) + (qy - o.y) * (qy - o.y)
    all_goals cases u
    all_goals have hu1 := Hu1.out
    all_goals have hu3 := Hu3.out
    all_goals simp only [hf, decide_true, decide_false, Bool.or_true, Bool.or_false, Bool.not_true, Bool.not_false] at hu3
    all_goals have Hu3 := Lib.hid hu3
    all_goals clear hu1 hu3
    all_goals go_wp2_with fail
    all_goals clear m1 m2 m3 m4 m5
    all_goals obtain ⟨W6, hW6⟩ : ∃ W, W = w5.alloc (.cells #[.int .i64 o.x, .int .i64 o.y] 30) := ⟨_, rfl⟩
    all_goals rw [← hW6]
    all_goals have e6 : Ext w5 W6 := by rw [hW6]; exact Ext.alloc0 _ _
    all_goals clear hW6
    all_goals have m1 := (M1.out.ext e6).cell
    all_goals have m2 := (M2.out.ext e6).cell
    all_goals have m3 := (M3.out.ext e6).cell
    all_goals have m5 := (M5.out.ext e6).cell
    all_goals have l1 := (M1.out.ext e6).lt
    all_goals have l2 := (M2.out.ext e6).lt
    all_goals have l3 := (M3.out.ext e6).lt
    all_goals have l5 := (M5.out.ext e6).lt
    all_goals refine wp_region_text (by kernel_rfl) (by kernel_rfl) ?_
    all_goals (
      repeat' (first | (refine bl_off (by rfl) ?_; simp only [Act.put, List.setIfInBounds_toArray, List.set_cons_zero, List.set_cons_succ]) | (apply bl_op; rfl; (intro w1 h1; obtain ⟨hc, hf, hz⟩ := bcell h1; go_simp; (try go_bits); (first | exact ⟨rfl, Ext.refl _⟩ | (apply gives_call; go_at_call 21; exact Agrees_c A1 n1 c1 home A2 n2 c2 A3 n3 c3 s _ _ _ _ _ _ _ _ _ _ _ _ (hs2.ext (h25.out.trans (e6.trans h1)))) | (go_invoke; go_simp; apply gives_call; go_at_call 21; exact Agrees_c A1 n1 c1 home A2 n2 c2 A3 n3 c3 s _ _ _ _ _ _ _ _ _ _ _ _ (hs2.ext (h25.out.trans (e6.trans h1)))))); simp only [Act.put, List.setIfInBounds_toArray, List.set_cons_zero, List.set_cons_succ]) | (refine bl_split rfl rfl (fun hx => ?_) (fun hx => ?_) <;> simp only [hx])))
    all_goals refine bl_nil ?_
    all_goals intro w7 h7
    all_goals rw [Hu1.out, Hu3.out]
    all_goals go_wp2_with fail
    all_goals refine (awake_c _).mono ?_
    all_goals rintro e w8 ⟨rfl, h8⟩
    all_goals go_wp2_with fail
    all_goals go_ret
    all_goals refine ⟨ret_b ?_, hE2.trans (h25.out.trans (e6.trans (h7.trans h8)))⟩
    all_goals simp [hf]
end Go.Proofs.Ytmgjjgmadiabfaa
