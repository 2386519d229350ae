/- A sky, a place and a sight made of numbers. No condition. -/
import Derived.Test.YtmgjjgmadiabfaaSightOf
namespace Go.Proofs.Ytmgjjgmadiabfaa
open Go.RowKit

theorem Ext.far2 {w0 w : World} (h : Ext w0 w) {p : Addr} (hp : w0.heap.size ≤ p.block) (u : Value) : Ext w0 (w.setCell p u) := Ext.set h hp u

set_option maxRecDepth 4000 in
set_option maxHeartbeats 2000000 in
theorem made_c (A : Option Addr) (n c : Nat) (l : List Int) (w : World) (hl : Ints w A n l) :
    Calls Try.prog 23 #[.slice A n c] w fun e w' => ∃ A1 n1 c1 home A2 n2 c2 A3 n3 c3 s px py kind st cat tick dx dy er lo hi bs,
      e = .returned (.tuple #[.agg #[.slice A1 n1 c1, .int .i64 home, .slice A2 n2 c2, .slice A3 n3 c3], .agg #[.int .i64 px, .int .i64 py], .agg #[.int .i64 kind, .int .i64 st, .int .i64 cat, .int .i64 tick, .int .i64 dx, .int .i64 dy, .int .i64 er, .int .i64 lo, .int .i64 hi]]) ∧ OwnSky w.heap.size w' (.slice A1 n1 c1) (.slice A2 n2 c2) (.slice A3 n3 c3) s bs ∧ IsSky w' A1 n1 home A2 n2 A3 n3 s ∧ MadeSky s ∧
        ((-4000 ≤ px ∧ px ≤ 4000) ∧ -4000 ≤ py ∧ py ≤ 4000) ∧ MadeSight s ⟨kind, st, cat, tick, dx, dy, er, lo, hi⟩ ∧ Ext w w' := by
  go_enter Try.func23, Try.ntmps23
  go_wp2_with fail
  refine (NewRing_c A n c l _ (Ints.ext (by (repeat' (first | exact Ext.refl _ | assumption | apply Ext.alloc | apply Ext.drew | refine Ext.set ?_ (by dsimp only; omega) _ | refine Ext.trans ?_ (by assumption)))) hl)).mono ?_
  rintro e w1 ⟨rfl, h1, hr1⟩
  obtain ⟨hc1, hf1, hz1⟩ := bcell h1
  simp only [World.size_alloc] at hz1
  obtain ⟨W0, hW0⟩ : ∃ W, W = (((w.alloc (.cells zsky 28)).alloc (.cells #[.int .i64 0, .int .i64 0] 30)).alloc (.cells #[.int .i64 0, .int .i64 0, .int .i64 0, .int .i64 0, .int .i64 0, .int .i64 0, .int .i64 0, .int .i64 0, .int .i64 0] 32)) := ⟨_, rfl⟩
  have hE0 : Ext w W0 := by rw [hW0]; (repeat' (first | exact Ext.refl _ | assumption | apply Ext.alloc | apply Ext.drew | refine Ext.set ?_ (by dsimp only; omega) _ | refine Ext.trans ?_ (by assumption)))
  have hz0 : W0.heap.size = w.heap.size + 1 + 1 + 1 := by rw [hW0]; simp
  have hA0 : Blk W0 w.heap.size 28 zsky := by rw [hW0]; exact (((Blk.newAt rfl).alloc _).alloc _)
  have hB0 : Blk W0 (w.heap.size + 1) 30 #[.int .i64 0, .int .i64 0] := by rw [hW0]; exact ((Blk.newAt (by simp)).alloc _)
  have hC0 : Blk W0 (w.heap.size + 1 + 1) 32 #[.int .i64 0, .int .i64 0, .int .i64 0, .int .i64 0, .int .i64 0, .int .i64 0, .int .i64 0, .int .i64 0, .int .i64 0] := by rw [hW0]; exact (Blk.newAt (by simp))
  rw [show (((w.alloc (.cells zsky 28)).alloc (.cells #[.int .i64 0, .int .i64 0] 30)).alloc (.cells #[.int .i64 0, .int .i64 0, .int .i64 0, .int .i64 0, .int .i64 0, .int .i64 0, .int .i64 0, .int .i64 0, .int .i64 0] 32)) = W0 from hW0.symm] at h1 hr1 ⊢
  clear hW0 hc1 hf1
  generalize hgg : W0.heap.size = g at *
  have hgw : w.heap.size + 1 + 1 < g := by omega
  have hgw1 : w.heap.size + 1 < g := by omega
  have hgw0 : w.heap.size < g := by omega
  clear hz0
  have hl1 := hr1.lt
  go_wp2_with fail
  refine (SkyOf_c W0 g 0 _ hr1 (by omega)).mono ?_
  rintro e w2 ⟨A1, n1, c1, home, A2, n2, c2, A3, n3, c3, s, rfl, ⟨bs, ho2⟩, hs2, hm, hw2, hr2⟩
  have hl2 := hr2.lt
  have hz2 := hw2.size
  go_wp2_with fail
  have hr2' := hr2.alloc (.cells #[.slice A1 n1 c1, .int .i64 home, .slice A2 n2 c2, .slice A3 n3 c3] 28)
  refine (PointOf_c W0 g _ 4000 _ hr2' (by omega) (by omega) (by omega)).mono ?_
  rintro e w3 ⟨px, py, rfl, pa, pb, pc, pd, hw3, hr3⟩
  have hl3 := hr3.lt
  have hz3 := hw3.size
  simp only [World.size_alloc] at hz3
  go_wp2_with fail
  obtain ⟨W3, hW3⟩ : ∃ W, W = w3.alloc (.cells #[.int .i64 px, .int .i64 py] 30) := ⟨_, rfl⟩
  rw [← hW3]
  have S6 : Blk W3 w2.heap.size 28 #[.slice A1 n1 c1, .int .i64 home, .slice A2 n2 c2, .slice A3 n3 c3] := by rw [hW3]; exact ((Blk.newAt rfl).wr hw3 (by omega)).alloc _
  have S7 : Blk W3 w3.heap.size 30 #[.int .i64 px, .int .i64 py] := by rw [hW3]; exact Blk.newAt rfl
  have hr4 : IsRing W0 W3 g 62 := by rw [hW3]; exact (hr3.alloc _).mono (by omega)
  have ho4 : OwnSky w1.heap.size W3 (.slice A1 n1 c1) (.slice A2 n2 c2) (.slice A3 n3 c3) s bs := by rw [hW3]; exact ((ho2.ext (Ext.alloc0 _ _)).wr hr2' hw3).ext (Ext.alloc0 _ _)
  have hs4 : IsSky W3 A1 n1 home A2 n2 A3 n3 s := by rw [hW3]; exact ((hs2.ext (Ext.alloc0 _ _)).wr hr2' hw3).ext (Ext.alloc0 _ _)
  have hE4 : Ext W0 W3 := hr4.ext
  have hA4 := hA0.ext hE4
  have hB4 := hB0.ext hE4
  have hC4 := hC0.ext hE4
  have g6 : w2.heap.size ≠ g := by omega
  have g7 : w3.heap.size ≠ g := by omega
  have l6 := S6.lt
  have l7 := S7.lt
  clear hW3 hA0 hB0 hC0 ho2 hs2 hw2 hw3 hr3 hr2' hr2
  refine wp_region_chain0 true [([0, 1, 2, 3, 4, 6], 5), ([], 7)] [] [8, 9, 10] (fun w' => Blk w' w2.heap.size 28 #[.slice A1 n1 c1, .int .i64 home, .slice A2 n2 c2, .slice A3 n3 c3] ∧ Blk w' w3.heap.size 30 #[.int .i64 px, .int .i64 py])
    (fun w' => Wr W3 g w' ∧ IsRing W0 w' g 62) ((Wr.stable W3 g).and (Stable.ring _ _ _)) (fun w h => ⟨S6.wr h.1 g6, S7.wr h.1 g7⟩) ⟨(Wr.refl _ _).drew, hr4.drew⟩ (by kernel_rfl) (by kernel_rfl) ?_
  simp only [XO, pick, List.drop_succ_cons, List.drop_zero]
  repeat' (first | (refine bl_off (by rfl) ?_; simp only [Act.put, List.setIfInBounds_toArray, List.set_cons_zero, List.set_cons_succ]) | (apply bl_op; rfl; (intro w1 h1; obtain ⟨hq6, hq7⟩ := h1; have hc6 := hq6.cell; have hl6 := hq6.lt; have hc7 := hq7.cell; have hl7 := hq7.lt; go_simp; (try go_bits); (first | exact ⟨rfl, Ext.refl _⟩)); simp only [Act.put, List.setIfInBounds_toArray, List.set_cons_zero, List.set_cons_succ]) | (refine bl_split rfl rfl (fun hx => ?_) (fun hx => ?_) <;> simp only [hx]))
  refine bl_nil ?_
  try simp only [pick1, List.drop_succ_cons, List.drop_zero]
  refine xe_call (f := 69) (args := #[.pointer (some ⟨g, 0, none⟩), .int .i64 9]) (fun v => ∃ x : Int, v = .int .i64 x ∧ 0 ≤ x ∧ x < 9) (fun w => Wr W3 g w ∧ IsRing W0 w g 63) rfl ((Wr.stable W3 g).and (Stable.ring _ _ _)) (fun w h => ⟨S6.wr h.1 g6, S7.wr h.1 g7⟩) (fun w h => by go_simp) (fun w h => ?_) ?_
  · refine (Next_c W0 g 62 9 w h.2 (by omega) (by omega) (by omega)).mono ?_
    rintro e w' ⟨x, rfl, p1, p2, k1, k2⟩
    exact ⟨_, rfl, ⟨x, rfl, p1, p2⟩, h.1.trans k1, k2⟩
  rintro v ⟨tick, rfl, ht0, ht1⟩
  simp only [Act.put, List.setIfInBounds_toArray, List.set_cons_zero, List.set_cons_succ]
  refine bl_nil ?_
  try simp only [pick1, List.drop_succ_cons, List.drop_zero]
  refine xe_call (f := 68) (args := #[.pointer (some ⟨g, 0, none⟩), .agg #[.slice A1 n1 c1, .int .i64 home, .slice A2 n2 c2, .slice A3 n3 c3], .int .i64 tick, .agg #[.int .i64 px, .int .i64 py]]) (fun v => ∃ kind st cat dx dy er lo hi : Int, v = .agg #[.int .i64 kind, .int .i64 st, .int .i64 cat, .int .i64 tick, .int .i64 dx, .int .i64 dy, .int .i64 er, .int .i64 lo, .int .i64 hi] ∧ MadeSight s ⟨kind, st, cat, tick, dx, dy, er, lo, hi⟩) (fun w => Wr W3 g w ∧ IsRing W0 w g 73) rfl ((Wr.stable W3 g).and (Stable.ring _ _ _)) (fun w h => ⟨S6.wr h.1 g6, S7.wr h.1 g7⟩) (fun w h => by go_simp) (fun w h => ?_) ?_
  · refine (SightOf_c W0 g 63 A1 n1 c1 home A2 n2 c2 A3 n3 c3 s tick px py w h.2 (by omega) (hs4.wr hr4 h.1) hm (by omega) ⟨pa, pb⟩ ⟨pc, pd⟩).mono ?_
    rintro e w' ⟨kind, st, cat, dx, dy, er, lo, hi, rfl, hx, k1, k2⟩
    exact ⟨_, rfl, ⟨kind, st, cat, dx, dy, er, lo, hi, rfl, hx⟩, h.1.trans k1, k2⟩
  rintro v ⟨kind, st, cat, dx, dy, er, lo, hi, rfl, hx⟩
  simp only [Act.put, List.setIfInBounds_toArray, List.set_cons_zero, List.set_cons_succ]
  refine bl_nil ?_
  try simp only [pick1, List.drop_succ_cons, List.drop_zero]
  have KS : ∀ (W : World) (r i : Nat) (u : Value), w.heap.size ≤ r → r < g → (Ext w W ∧ OwnSky w1.heap.size W (.slice A1 n1 c1) (.slice A2 n2 c2) (.slice A3 n3 c3) s bs ∧ (Blk W w2.heap.size 28 #[.slice A1 n1 c1, .int .i64 home, .slice A2 n2 c2, .slice A3 n3 c3] ∧ Blk W w3.heap.size 30 #[.int .i64 px, .int .i64 py])) →
      (Ext w (W.setCell ⟨r, i, none⟩ u) ∧ OwnSky w1.heap.size (W.setCell ⟨r, i, none⟩ u) (.slice A1 n1 c1) (.slice A2 n2 c2) (.slice A3 n3 c3) s bs ∧ (Blk (W.setCell ⟨r, i, none⟩ u) w2.heap.size 28 #[.slice A1 n1 c1, .int .i64 home, .slice A2 n2 c2, .slice A3 n3 c3] ∧ Blk (W.setCell ⟨r, i, none⟩ u) w3.heap.size 30 #[.int .i64 px, .int .i64 py])) :=
    fun W r i u q1 q2 ⟨k1, k2, k3, k4⟩ => ⟨Ext.set k1 q1 u, k2.set (by dsimp only; omega) u, k3.far (by dsimp only; omega) u, k4.far (by dsimp only; omega) u⟩
  refine tl_skip (fun w' => Ext w w' ∧ OwnSky w1.heap.size w' (.slice A1 n1 c1) (.slice A2 n2 c2) (.slice A3 n3 c3) s bs ∧ (Blk w' w2.heap.size 28 #[.slice A1 n1 c1, .int .i64 home, .slice A2 n2 c2, .slice A3 n3 c3] ∧ Blk w' w3.heap.size 30 #[.int .i64 px, .int .i64 py]) ∧
    Blk w' w.heap.size 28 #[.slice A1 n1 c1, .int .i64 home, .slice A2 n2 c2, .slice A3 n3 c3] ∧ Blk w' (w.heap.size + 1) 30 #[.int .i64 0, .int .i64 0] ∧ Blk w' (w.heap.size + 1 + 1) 32 #[.int .i64 0, .int .i64 0, .int .i64 0, .int .i64 0, .int .i64 0, .int .i64 0, .int .i64 0, .int .i64 0, .int .i64 0]) rfl rfl
    (fun _ _ ⟨k1, k2, k3, k4, k5, k6⟩ k => ⟨k1.trans k, k2.ext k, ⟨k3.1.ext k, k3.2.ext k⟩, k4.ext k, k5.ext k, k6.ext k⟩) (fun _ k => k.2.2.1) (fun w' h => ?_) ?_
  · have a0 := hA4.wr h.1 (by omega)
    have hc := a0.cell
    have hf := a0.frozen
    have hl := a0.lt
    refine ⟨_, (by go_simp; rfl), ?_⟩
    have f := h.2
    have b0 := hB4.wr h.1 (by omega)
    have c0 := hC4.wr h.1 (by omega)
    have d0 := S6.wr h.1 g6
    have d1 := S7.wr h.1 g7
    have k0 : Ext w w' ∧ OwnSky w1.heap.size w' (.slice A1 n1 c1) (.slice A2 n2 c2) (.slice A3 n3 c3) s bs ∧ (Blk w' w2.heap.size 28 #[.slice A1 n1 c1, .int .i64 home, .slice A2 n2 c2, .slice A3 n3 c3] ∧ Blk w' w3.heap.size 30 #[.int .i64 px, .int .i64 py]) := ⟨hE0.trans h.2.ext, ho4.wr hr4 h.1, d0, d1⟩
    have k1 := KS w' w.heap.size 0 (.slice A1 n1 c1) (Nat.le_refl _) (by omega) k0
    have k2 := KS _ w.heap.size 1 (.int .i64 home) (Nat.le_refl _) (by omega) k1
    have k3 := KS _ w.heap.size 2 (.slice A2 n2 c2) (Nat.le_refl _) (by omega) k2
    have k4 := KS _ w.heap.size 3 (.slice A3 n3 c3) (Nat.le_refl _) (by omega) k3
    refine ⟨k4.1, k4.2.1, k4.2.2, Blk.set4 _ _ _ _ a0, ?_, ?_⟩
    · exact (((b0.far (p := ⟨w.heap.size, 0, none⟩) (by dsimp only; omega) _).far (p := ⟨w.heap.size, 1, none⟩) (by dsimp only; omega) _).far (p := ⟨w.heap.size, 2, none⟩) (by dsimp only; omega) _).far (p := ⟨w.heap.size, 3, none⟩) (by dsimp only; omega) _
    · exact (((c0.far (p := ⟨w.heap.size, 0, none⟩) (by dsimp only; omega) _).far (p := ⟨w.heap.size, 1, none⟩) (by dsimp only; omega) _).far (p := ⟨w.heap.size, 2, none⟩) (by dsimp only; omega) _).far (p := ⟨w.heap.size, 3, none⟩) (by dsimp only; omega) _
  refine tl_skip (fun w' => Ext w w' ∧ OwnSky w1.heap.size w' (.slice A1 n1 c1) (.slice A2 n2 c2) (.slice A3 n3 c3) s bs ∧ (Blk w' w2.heap.size 28 #[.slice A1 n1 c1, .int .i64 home, .slice A2 n2 c2, .slice A3 n3 c3] ∧ Blk w' w3.heap.size 30 #[.int .i64 px, .int .i64 py]) ∧
    Blk w' w.heap.size 28 #[.slice A1 n1 c1, .int .i64 home, .slice A2 n2 c2, .slice A3 n3 c3] ∧ Blk w' (w.heap.size + 1) 30 #[.int .i64 px, .int .i64 py] ∧ Blk w' (w.heap.size + 1 + 1) 32 #[.int .i64 0, .int .i64 0, .int .i64 0, .int .i64 0, .int .i64 0, .int .i64 0, .int .i64 0, .int .i64 0, .int .i64 0]) rfl rfl
    (fun _ _ ⟨k1, k2, k3, k4, k5, k6⟩ k => ⟨k1.trans k, k2.ext k, ⟨k3.1.ext k, k3.2.ext k⟩, k4.ext k, k5.ext k, k6.ext k⟩) (fun _ k => k.2.2.1) (fun w' h => ?_) ?_
  · obtain ⟨h1, h2, h3, h4, h5, h6⟩ := h
    have hc := h5.cell
    have hf := h5.frozen
    have hl := h5.lt
    refine ⟨_, (by go_simp; rfl), ?_⟩
    have k1 := KS w' (w.heap.size + 1) 0 (.int .i64 px) (by omega) (by omega) ⟨h1, h2, h3⟩
    have k2 := KS _ (w.heap.size + 1) 1 (.int .i64 py) (by omega) (by omega) k1
    refine ⟨k2.1, k2.2.1, k2.2.2, ?_, Blk.set2 _ _ h5, ?_⟩
    · exact (h4.far (p := ⟨w.heap.size + 1, 0, none⟩) (by dsimp only; omega) _).far (p := ⟨w.heap.size + 1, 1, none⟩) (by dsimp only; omega) _
    · exact (h6.far (p := ⟨w.heap.size + 1, 0, none⟩) (by dsimp only; omega) _).far (p := ⟨w.heap.size + 1, 1, none⟩) (by dsimp only; omega) _
  refine tl_last rfl rfl (fun w5 ⟨h1, h2, h3, h4, h5, h6⟩ => ?_)
  have hc := h6.cell
  have hf := h6.frozen
  have hl := h6.lt
  refine ⟨_, (by go_simp; rfl), ?_⟩
  have R1 : Hid (Ext w (set9 w5 (w.heap.size + 1 + 1) (.int .i64 kind) (.int .i64 st) (.int .i64 cat) (.int .i64 tick) (.int .i64 dx) (.int .i64 dy) (.int .i64 er) (.int .i64 lo) (.int .i64 hi))) := by
    unfold set9
    exact Lib.hid (by iterate 9 refine Ext.set ?_ (by dsimp only; omega) _
                      exact h1)
  have R2 : Hid (OwnSky w1.heap.size (set9 w5 (w.heap.size + 1 + 1) (.int .i64 kind) (.int .i64 st) (.int .i64 cat) (.int .i64 tick) (.int .i64 dx) (.int .i64 dy) (.int .i64 er) (.int .i64 lo) (.int .i64 hi)) (.slice A1 n1 c1) (.slice A2 n2 c2) (.slice A3 n3 c3) s bs) := by
    unfold set9
    exact Lib.hid (by iterate 9 refine OwnSky.set ?_ (by dsimp only; omega) _
                      exact h2)
  have R3 : Hid (Blk (set9 w5 (w.heap.size + 1 + 1) (.int .i64 kind) (.int .i64 st) (.int .i64 cat) (.int .i64 tick) (.int .i64 dx) (.int .i64 dy) (.int .i64 er) (.int .i64 lo) (.int .i64 hi)) w.heap.size 28 #[.slice A1 n1 c1, .int .i64 home, .slice A2 n2 c2, .slice A3 n3 c3]) := by
    unfold set9
    exact Lib.hid (by iterate 9 refine Blk.far ?_ (by dsimp only; omega) _
                      exact h4)
  have R4 : Hid (Blk (set9 w5 (w.heap.size + 1 + 1) (.int .i64 kind) (.int .i64 st) (.int .i64 cat) (.int .i64 tick) (.int .i64 dx) (.int .i64 dy) (.int .i64 er) (.int .i64 lo) (.int .i64 hi)) (w.heap.size + 1) 30 #[.int .i64 px, .int .i64 py]) := by
    unfold set9
    exact Lib.hid (by iterate 9 refine Blk.far ?_ (by dsimp only; omega) _
                      exact h5)
  have R5 : Hid (Blk (set9 w5 (w.heap.size + 1 + 1) (.int .i64 kind) (.int .i64 st) (.int .i64 cat) (.int .i64 tick) (.int .i64 dx) (.int .i64 dy) (.int .i64 er) (.int .i64 lo) (.int .i64 hi)) (w.heap.size + 1 + 1) 32 #[.int .i64 kind, .int .i64 st, .int .i64 cat, .int .i64 tick, .int .i64 dx, .int .i64 dy, .int .i64 er, .int .i64 lo, .int .i64 hi]) := Lib.hid (Blk.set9 _ _ _ _ _ _ _ _ _ h6)
  unfold set9 at R1 R2 R3 R4 R5
  revert R1 R2 R3 R4 R5
  generalize World.setCell _ _ _ = W6
  intro R1 R2 R3 R4 R5
  clear h1 h2 h3 h4 h5 h6 hc hf hl
  have hc1 := R3.out.cell
  have hc2 := R4.out.cell
  have hc3 := R5.out.cell
  have hl1 := R3.out.lt
  have hl2 := R4.out.lt
  have hl3 := R5.out.lt
  (try dsimp only); repeat' (first | go_values | go_skip | go_guarded | go_step | go_upon | go_in | go_at_K)
  (try simp only [Exit.inBlock, Exit.then]); apply bodyPost_ret; (focus (simp only [results, Try.results23]; go_simp; try rfl)); rfl
  obtain ⟨A1', c1', A2', c2', A3', c3', e1, e2, e3, hsky⟩ := R2.out.sky
  injection e1 with e1a e1b e1c; injection e2 with e2a e2b e2c; injection e3 with e3a e3b e3c
  exact ⟨_, _, _, _, _, _, _, _, _, _, _, _, _, _, _, _, _, _, _, _, _, _, _, rfl, R2.out.mono (by omega), hs4.home ▸ e1a ▸ e1b ▸ e2a ▸ e2b ▸ e3a ▸ e3b ▸ hsky, hm, ⟨⟨pa, pb⟩, pc, pd⟩, hx, R1.out⟩
end Go.Proofs.Ytmgjjgmadiabfaa
