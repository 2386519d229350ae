/- What the laws of orbits are made of: a sky, a drift, a box and a state of it, made of numbers. No condition. -/
import Derived.Test.YtfniicgoeljmdaaGreatMadeBox
import Derived.Test.YtfniicgoeljmdaaGreatSkyOf
namespace Go.Proofs.YtfniicgoeljmdaaGreat
open Go.RowKit

set_option maxHeartbeats 400000 in
theorem NewRing_b (wb : World) (A : Option Addr) (n c : Nat) (l : List Int) (w : World) (hl : Ints wb A n l) (hE : Ext wb w) :
    Calls Tryz.prog 80 #[.slice A n c] w fun e w' => e = .returned (.pointer (some ⟨w.heap.size, 0, none⟩)) ∧ Ext w w' ∧ IsRing wb w' w.heap.size 0 := by
  have hz := hE.size
  go_enter Tryz.func80, Tryz.ntmps80
  go_wp2_with fail
  go_ret
  exact ⟨rfl, Ext.alloc0 _ _, hE.trans (Ext.alloc0 _ _), hz, A, n, c, l, 0, hl, Blk.newAt rfl, by omega, by omega⟩
theorem Wr.putC {a : World} {b g : Nat} (hb : a.heap.size ≤ b) : ∀ (l : List Value) {w : World} (i : Nat), Wr a g w → Wr a g (putC b w i l)
  | [], _, _, h => h
  | v :: r, _, i, h => Wr.putC hb r (i + 1) (Wr.put (p := ⟨b, i, none⟩) h hb v)
theorem IsRing.putC {wb : World} {b g : Nat} {B : Int} (hb : wb.heap.size ≤ b ∧ b ≠ g) : ∀ (l : List Value) {w : World} (i : Nat), IsRing wb w g B → IsRing wb (putC b w i l) g B
  | [], _, _, h => h
  | v :: r, _, i, h => IsRing.putC hb r (i + 1) (IsRing.put (p := ⟨b, i, none⟩) h hb v)
theorem OwnSky.putC {base b : Nat} (hb : b < base) {v1 v2 v3 : Value} {s : Sky} {bs : List Nat} : ∀ (l : List Value) {w : World} (i : Nat), OwnSky base w v1 v2 v3 s bs → OwnSky base (putC b w i l) v1 v2 v3 s bs
  | [], _, _, h => h
  | v :: r, _, i, h => OwnSky.putC hb r (i + 1) (OwnSky.set h (p := ⟨b, i, none⟩) hb v)
set_option maxRecDepth 4000 in
set_option maxHeartbeats 4000000 in
theorem BoxOf_c (wb : World) (g : Nat) (B : Int) (w : World) (hr : IsRing wb w g B) (hB : B ≤ 800000000) :
    Calls Tryz.prog 83 #[.pointer (some ⟨g, 0, none⟩)] w fun e w' => ∃ b : Bx, e = .returned (bxV b) ∧ ((-2800 ≤ b.x.lo ∧ b.x.lo ≤ b.x.hi ∧ b.x.hi ≤ 3200) ∧ (-2800 ≤ b.y.lo ∧ b.y.lo ≤ b.y.hi ∧ b.y.hi ≤ 3200) ∧ (-50 ≤ b.u.lo ∧ b.u.lo ≤ b.u.hi ∧ b.u.hi ≤ 60) ∧ -50 ≤ b.v.lo ∧ b.v.lo ≤ b.v.hi ∧ b.v.hi ≤ 60) ∧ Wr w g w' ∧ IsRing wb w' g (B + 9) := by
  have hg := hr.lt
  have hge := hr.ge
  have hsz := hr.ext.size
  have hb0 : w.heap.size ≠ g := by omega
  go_enter Tryz.func83, Tryz.ntmps83
  go_wp2_with fail
  refine (PointOf_c wb g _ _ _ (by (repeat' (first | assumption | apply IsRing.alloc | apply IsRing.drew | refine IsRing.put ?_ (by dsimp only; omega) _))) (by omega) (by omega) (by omega)).mono ?_; rintro e w1 ⟨px1, py1, rfl, pa1, pb1, pc1, pd1, hw1, hr1⟩; obtain ⟨hc1, hf1, hz1⟩ := Wr.cells hw1; (try simp only [szA] at hz1); have hg1 := hr1.lt
  have R1 : Blk w1 w.heap.size 38 #[.int .i64 0, .int .i64 0, .int .i64 0, .int .i64 0, .int .i64 0, .int .i64 0, .int .i64 0, .int .i64 0] := Blk.wr (Blk.newAt rfl) hw1 hb0
  have K1 : Wr w g w1 := by (repeat' (first | exact Wr.refl _ _ | assumption | apply Wr.alloc | apply Wr.drew | refine Wr.put ?_ (by dsimp only; omega) _ | refine Wr.trans ?_ (by assumption)))
  clear hw1 hc1 hf1
  have l1 := R1.lt
  go_wp2_with fail
  refine (PointOf_c wb g _ _ _ hr1 (by omega) (by omega) (by omega)).mono ?_; rintro e w2 ⟨px2, py2, rfl, pa2, pb2, pc2, pd2, hw2, hr2⟩; obtain ⟨hc2, hf2, hz2⟩ := Wr.cells hw2; (try simp only [szA] at hz2); have hg2 := hr2.lt
  have R2 := R1.wr hw2 hb0
  have K2 := K1.trans hw2
  clear hw2 hc2 hf2 R1 K1 l1
  go_wp2_with fail
  obtain ⟨V2, hV2⟩ : ∃ W, W = (w2.alloc (.cells #[.int .i64 px1, .int .i64 py1] 85)).alloc (.cells #[.int .i64 px2, .int .i64 py2] 85) := ⟨_, rfl⟩
  obtain ⟨z2, hz2'⟩ : ∃ z, z = w2.heap.size := ⟨_, rfl⟩
  rw [← hV2, ← hz2']
  have P2 : Blk V2 z2 85 #[.int .i64 px1, .int .i64 py1] := by rw [hV2]; exact (Blk.newAt hz2').alloc _
  have Q2 : Blk V2 (z2 + 1) 85 #[.int .i64 px2, .int .i64 py2] := by rw [hV2]; exact Blk.newAt (by simp [hz2'])
  have R2' : Blk V2 w.heap.size 38 #[.int .i64 0, .int .i64 0, .int .i64 0, .int .i64 0, .int .i64 0, .int .i64 0, .int .i64 0, .int .i64 0] := by rw [hV2]; exact (R2.alloc _).alloc _
  have r2 : IsRing wb V2 g (B + 4) := by rw [hV2]; exact ((hr2.alloc _).alloc _).mono (by omega)
  have K2' : Wr w g V2 := by rw [hV2]; exact (K2.alloc _).alloc _
  have o1 : w.heap.size < z2 := by have := R2.lt; omega
  have o2 : z2 ≠ g := by omega
  have o3 : z2 + 1 ≠ g := by omega
  clear hV2 hz2' R2 hr2 K2 hz1 hz2 hg1 hg2
  refine (Next_c wb g _ _ _ r2 (by omega) (by omega) (by omega)).mono ?_; rintro e w3 ⟨v3, rfl, va3, vb3, hw3, hr3⟩; obtain ⟨hc3, hf3, hz3⟩ := Wr.cells hw3; (try simp only [szA] at hz3); have hg3 := hr3.lt
  have P3 := P2.wr hw3 o2
  have Q3 := Q2.wr hw3 o3
  have R3 := R2'.wr hw3 hb0
  have K3 := K2'.trans hw3
  clear hw3 hc3 hf3 P2 Q2 R2' K2' r2
  go_wp2_with fail
  refine (Next_c wb g _ _ _ hr3 (by omega) (by omega) (by omega)).mono ?_; rintro e w4 ⟨v4, rfl, va4, vb4, hw4, hr4⟩; obtain ⟨hc4, hf4, hz4⟩ := Wr.cells hw4; (try simp only [szA] at hz4); have hg4 := hr4.lt
  have P4 := P3.wr hw4 o2
  have Q4 := Q3.wr hw4 o3
  have R4 := R3.wr hw4 hb0
  have K4 := K3.trans hw4
  clear hw4 hc4 hf4 P3 Q3 R3 K3 hr3
  have hm0 : 0 ≤ v3 * v4 := Int.mul_nonneg va3 va4
  have hm1 : v3 * v4 ≤ 2 * 199 := Int.mul_le_mul (by omega) (by omega) va4 (by omega)
  go_wp2_with fail
  refine (Next_c wb g _ _ _ hr4 (by omega) (by omega) (by omega)).mono ?_; rintro e w5 ⟨v5, rfl, va5, vb5, hw5, hr5⟩; obtain ⟨hc5, hf5, hz5⟩ := Wr.cells hw5; (try simp only [szA] at hz5); have hg5 := hr5.lt
  have P5 := P4.wr hw5 o2
  have Q5 := Q4.wr hw5 o3
  have R5 := R4.wr hw5 hb0
  have K5 := K4.trans hw5
  clear hw5 hc5 hf5 P4 Q4 R4 K4 hr4
  obtain ⟨wide, hwide⟩ : ∃ q, v3 * v4 = q := ⟨_, rfl⟩
  rw [hwide] at hm0 hm1
  try rw [hwide]
  clear hwide
  have r5 : IsRing wb w5 g (B + 7) := hr5.mono (by omega)
  clear hr5
  go_wp2_with fail
  have hgl := r5.lt
  have lP := P5.lt
  have lQ := Q5.lt
  refine wp_region_chain0 true [([0, 1, 2, 3, 4, 5, 6, 7, 8, 9, 10, 11, 15, 16, 17, 18, 19, 20, 21, 22, 23, 24, 25, 26], 12), ([13, 14], 27)] [28, 29, 30] [31] (fun w' => Blk w' z2 85 #[.int .i64 px1, .int .i64 py1] ∧ Blk w' (z2 + 1) 85 #[.int .i64 px2, .int .i64 py2]) (fun w' => Wr w5 g w' ∧ IsRing wb w' g (B + 7)) ((Wr.stable w5 g).and (Stable.ring _ _ _)) (fun w h => ⟨P5.wr h.1 o2, Q5.wr h.1 o3⟩) ⟨(Wr.refl _ _).drew, r5.drew⟩ (by kernel_rfl) (by kernel_rfl) ?_
  simp only [XO, pick, List.drop_succ_cons, List.drop_zero]
  repeat' (first | (refine bl_off (by rfl) ?_; simp only [putX]) | (apply bl_op; rfl; (intro w1 h1; obtain ⟨hq6, hq7⟩ := h1; have hc6 := hq6.cell; have hl6 := hq6.lt; have hc7 := hq7.cell; have hl7 := hq7.lt; go_simp; (try go_bits); (first | exact ⟨rfl, Ext.refl _⟩)); simp only [putX]) | (refine bl_split rfl rfl (fun hx => ?_) (fun hx => ?_) <;> simp only [hx]))
  refine bl_nil ?_
  try simp only [pick1, List.drop_succ_cons, List.drop_zero]
  refine xe_call (f := 62) (args := #[.pointer (some ⟨g, 0, none⟩), .int .i64 200]) (fun v => ∃ x : Int, v = .int .i64 x ∧ 0 ≤ x ∧ x < 200) (fun w => Wr w5 g w ∧ IsRing wb w g (B + 8)) rfl ((Wr.stable w5 g).and (Stable.ring _ _ _)) (fun w h => ⟨P5.wr h.1 o2, Q5.wr h.1 o3⟩) (fun w h => by go_simp) (fun w h => ?_) ?_
  · refine (Next_c wb g (B + 7) 200 w h.2 (by omega) (by omega) (by omega)).mono ?_
    rintro e w' ⟨x, rfl, p1, p2, k1, k2⟩
    exact ⟨_, rfl, ⟨x, rfl, p1, p2⟩, h.1.trans k1, k2.mono (by omega)⟩
  rintro v ⟨v6, rfl, va6, vb6⟩
  simp only [putX]
  repeat' (first | (refine bl_off (by rfl) ?_; simp only [putX]) | (apply bl_op; rfl; (intro w1 h1; obtain ⟨hq6, hq7⟩ := h1; have hc6 := hq6.cell; have hl6 := hq6.lt; have hc7 := hq7.cell; have hl7 := hq7.lt; go_simp; (try go_bits); (first | exact ⟨rfl, Ext.refl _⟩)); simp only [putX]) | (refine bl_split rfl rfl (fun hx => ?_) (fun hx => ?_) <;> simp only [hx]))
  refine bl_nil ?_
  try simp only [pick1, List.drop_succ_cons, List.drop_zero]
  refine xe_call (f := 62) (args := #[.pointer (some ⟨g, 0, none⟩), .int .i64 8]) (fun v => ∃ x : Int, v = .int .i64 x ∧ 0 ≤ x ∧ x < 8) (fun w => Wr w5 g w ∧ IsRing wb w g (B + 9)) rfl ((Wr.stable w5 g).and (Stable.ring _ _ _)) (fun w h => ⟨P5.wr h.1 o2, Q5.wr h.1 o3⟩) (fun w h => by go_simp) (fun w h => ?_) ?_
  · refine (Next_c wb g (B + 8) 8 w h.2 (by omega) (by omega) (by omega)).mono ?_
    rintro e w' ⟨x, rfl, p1, p2, k1, k2⟩
    exact ⟨_, rfl, ⟨x, rfl, p1, p2⟩, h.1.trans k1, k2.mono (by omega)⟩
  rintro v ⟨v7, rfl, va7, vb7⟩
  simp only [putX]
  repeat' (first | (refine bl_off (by rfl) ?_; simp only [putX]) | (apply bl_op; rfl; (intro w1 h1; obtain ⟨hq6, hq7⟩ := h1; have hc6 := hq6.cell; have hl6 := hq6.lt; have hc7 := hq7.cell; have hl7 := hq7.lt; go_simp; (try go_bits); (first | exact ⟨rfl, Ext.refl _⟩)); simp only [putX]) | (refine bl_split rfl rfl (fun hx => ?_) (fun hx => ?_) <;> simp only [hx]))
  refine bl_nil ?_
  try simp only [pick1, List.drop_succ_cons, List.drop_zero]
  refine tl_last rfl rfl (fun w8 ⟨h8, hr8⟩ => ?_)
  have R8 := R5.wr h8 hb0
  have K8 := K5.trans h8
  have c_R8 := R8.cell; have f_R8 := R8.frozen; have l_R8 := R8.lt
  refine ⟨_, (by go_simp; rfl), ?_⟩
  have R9 := Blk.putAt (l := [.int .i64 px1, .int .i64 (px1 + wide), .int .i64 py1, .int .i64 (py1 + v6), .int .i64 px2, .int .i64 (px2 + v5), .int .i64 py2, .int .i64 (py2 + v7)]) R8 rfl
  have K9 := Wr.putC (Nat.le_refl w.heap.size) [.int .i64 px1, .int .i64 (px1 + wide), .int .i64 py1, .int .i64 (py1 + v6), .int .i64 px2, .int .i64 (px2 + v5), .int .i64 py2, .int .i64 (py2 + v7)] 0 K8
  have r9 := IsRing.putC (b := w.heap.size) ⟨by omega, hb0⟩ [.int .i64 px1, .int .i64 (px1 + wide), .int .i64 py1, .int .i64 (py1 + v6), .int .i64 px2, .int .i64 (px2 + v5), .int .i64 py2, .int .i64 (py2 + v7)] 0 hr8
  simp only [putC, Nat.reduceAdd] at R9 K9 r9
  revert R9 K9 r9
  generalize World.setCell _ _ _ = W9
  intro R9 K9 r9
  clear c_R8 f_R8 l_R8
  clear R8 K8 hr8 h8
  have c_R9 := R9.cell; have f_R9 := R9.frozen; have l_R9 := R9.lt
  (try dsimp only); repeat' (first | go_values | go_skip | go_guarded | go_step | go_upon | go_in | go_at_K)
  (try simp only [Exit.inBlock, Exit.then]); apply bodyPost_ret; (focus (simp only [results, Tryz.results83]; go_simp; try rfl)); rfl
  exact ⟨⟨⟨px1, px1 + wide⟩, ⟨py1, py1 + v6⟩, ⟨px2, px2 + v5⟩, py2, py2 + v7⟩, rfl, by dsimp only; omega, K9, r9⟩
structure Four (w W : World) (g : Nat) (v1 v2 v3 : Value) (s : Sky) (bs : List Nat) : Prop where
  ext : Ext w W
  ring : IsRing w W g 200
  sky : OwnSky (g + 1) W v1 v2 v3 s bs
theorem Four.keep {w W W' : World} {g : Nat} {v1 v2 v3 : Value} {s : Sky} {bs : List Nat} (h : Four w W g v1 v2 v3 s bs) (e : Ext W W') : Four w W' g v1 v2 v3 s bs := ⟨h.ext.trans e, h.ring.keep e, h.sky.ext e⟩
theorem Four.putC {w W : World} {g b : Nat} {v1 v2 v3 : Value} {s : Sky} {bs : List Nat} (h1 : w.heap.size ≤ b) (h2 : b < g) (l : List Value) (h : Four w W g v1 v2 v3 s bs) : Four w (putC b W 0 l) g v1 v2 v3 s bs :=
  ⟨Ext.putC h1 l 0 h.ext, IsRing.putC ⟨h1, by omega⟩ l 0 h.ring, OwnSky.putC (by omega) l 0 h.sky⟩
theorem OwnSky.isSky {base : Nat} {w : World} {A1 : Option Addr} {n1 c1 : Nat} {A2 : Option Addr} {n2 c2 : Nat} {A3 : Option Addr} {n3 c3 : Nat} {s : Sky} {bs : List Nat} (h : OwnSky base w (.slice A1 n1 c1) (.slice A2 n2 c2) (.slice A3 n3 c3) s bs) : IsSky w A1 n1 s.world.home A2 n2 A3 n3 s := by
  obtain ⟨A1', c1', A2', c2', A3', c3', e1, e2, e3, hsky⟩ := h.sky
  injection e1 with e1a e1b e1c; injection e2 with e2a e2b e2c; injection e3 with e3a e3b e3c
  exact e1a ▸ e1b ▸ e2a ▸ e2b ▸ e3a ▸ e3b ▸ hsky
def smallB (b : Bx) : Prop := (-2800 ≤ b.x.lo ∧ b.x.lo ≤ b.x.hi ∧ b.x.hi ≤ 3200) ∧ (-2800 ≤ b.y.lo ∧ b.y.lo ≤ b.y.hi ∧ b.y.hi ≤ 3200) ∧ (-50 ≤ b.u.lo ∧ b.u.lo ≤ b.u.hi ∧ b.u.hi ≤ 60) ∧ -50 ≤ b.v.lo ∧ b.v.lo ≤ b.v.hi ∧ b.v.hi ≤ 60
def inBx (b : Bx) (s : St) : Prop := (b.x.lo ≤ s.x ∧ s.x ≤ b.x.hi) ∧ (b.y.lo ≤ s.y ∧ s.y ≤ b.y.hi) ∧ (b.u.lo ≤ s.u ∧ s.u ≤ b.u.hi) ∧ b.v.lo ≤ s.v ∧ s.v ≤ b.v.hi
set_option maxRecDepth 4000 in
set_option maxHeartbeats 4000000 in
theorem made4_c (A : Option Addr) (n c : Nat) (l : List Int) (w : World) (hl : Ints w A n l) :
    Calls Tryz.prog 28 #[.slice A n c] w fun e w' => ∃ g A1 n1 c1 home A2 n2 c2 A3 n3 c3 s ll lh el eh gs b x y u v bs,
      e = .returned (.tuple #[.pointer (some ⟨g, 0, none⟩), .agg #[.slice A1 n1 c1, .int .i64 home, .slice A2 n2 c2, .slice A3 n3 c3], .agg #[.int .i64 ll, .int .i64 lh, .int .i64 el, .int .i64 eh, .int .i64 gs], bxV b, .agg #[.int .i64 x, .int .i64 y, .int .i64 u, .int .i64 v]]) ∧ Four w w' g (.slice A1 n1 c1) (.slice A2 n2 c2) (.slice A3 n3 c3) s bs ∧ IsSky w' A1 n1 home A2 n2 A3 n3 s ∧ MadeSky s ∧
        ((0 ≤ ll ∧ ll ≤ lh ∧ lh ≤ 4) ∧ (-3 ≤ el ∧ el ≤ eh ∧ eh ≤ 3) ∧ 0 ≤ gs ∧ gs ≤ 2) ∧ smallB b ∧ inBx b ⟨x, y, u, v⟩ := by
  go_enter Tryz.func28, Tryz.ntmps28
  go_wp2_with fail
  obtain ⟨W0, hW0⟩ : ∃ W, W = ((((w.alloc (.cells zsky 53)).alloc (.cells #[.int .i64 0, .int .i64 0, .int .i64 0, .int .i64 0, .int .i64 0] 28)).alloc (.cells #[.int .i64 0, .int .i64 0, .int .i64 0, .int .i64 0, .int .i64 0, .int .i64 0, .int .i64 0, .int .i64 0] 38)).alloc (.cells #[.int .i64 0, .int .i64 0, .int .i64 0, .int .i64 0] 30)) := ⟨_, rfl⟩
  have hE0 : Ext w W0 := by rw [hW0]; exact ext_by
  have hz0 : W0.heap.size = w.heap.size + 1 + 1 + 1 + 1 := by rw [hW0]; simp
  have A0 : Blk W0 w.heap.size 53 zsky := by rw [hW0]; exact (((Blk.newAt rfl).alloc _).alloc _).alloc _
  have B0 : Blk W0 (w.heap.size + 1) 28 #[.int .i64 0, .int .i64 0, .int .i64 0, .int .i64 0, .int .i64 0] := by rw [hW0]; exact ((Blk.newAt (by simp)).alloc _).alloc _
  have C0 : Blk W0 (w.heap.size + 1 + 1) 38 #[.int .i64 0, .int .i64 0, .int .i64 0, .int .i64 0, .int .i64 0, .int .i64 0, .int .i64 0, .int .i64 0] := by rw [hW0]; exact (Blk.newAt (by simp)).alloc _
  have D0 : Blk W0 (w.heap.size + 1 + 1 + 1) 30 #[.int .i64 0, .int .i64 0, .int .i64 0, .int .i64 0] := by rw [hW0]; exact Blk.newAt (by simp)
  rw [show ((((w.alloc (.cells zsky 53)).alloc (.cells #[.int .i64 0, .int .i64 0, .int .i64 0, .int .i64 0, .int .i64 0] 28)).alloc (.cells #[.int .i64 0, .int .i64 0, .int .i64 0, .int .i64 0, .int .i64 0, .int .i64 0, .int .i64 0, .int .i64 0] 38)).alloc (.cells #[.int .i64 0, .int .i64 0, .int .i64 0, .int .i64 0] 30)) = W0 from hW0.symm]
  clear hW0
  refine (NewRing_b w A n c l _ hl hE0).mono ?_
  rintro e w1 ⟨rfl, h1, hr1⟩
  have E1 := hE0.trans h1
  replace A0 := A0.ext h1
  replace B0 := B0.ext h1
  replace C0 := C0.ext h1
  replace D0 := D0.ext h1
  generalize hgg : W0.heap.size = g at *
  have g0 : w.heap.size ≠ g := by omega
  have g1 : w.heap.size + 1 ≠ g := by omega
  have g2 : w.heap.size + 1 + 1 ≠ g := by omega
  have g3 : w.heap.size + 1 + 1 + 1 ≠ g := by omega
  have gl : w.heap.size + 1 + 1 + 1 < g := by omega
  clear hz0 hgg h1
  have hl1 := hr1.lt
  go_wp2_with fail
  refine (SkyOf_c w g 0 _ hr1 (by omega)).mono ?_
  rintro e w2 ⟨A1, n1, c1, home, A2, n2, c2, A3, n3, c3, s, rfl, ⟨bs, ho2⟩, hs2, hm, hw2, hr2⟩
  have hE2 := Wr.ext hw2 E1 hr1.ge
  replace ho2 := ho2.mono (base' := g + 1) (by omega)
  replace A0 := A0.wr hw2 g0
  replace B0 := B0.wr hw2 g1
  replace C0 := C0.wr hw2 g2
  replace D0 := D0.wr hw2 g3
  have HH := Lib.hid hs2.home
  clear hw2 hs2 E1 hr1
  have hl2 := hr2.lt
  go_wp2_with fail
  refine (GasOf_c w g _ _ hr2 (by omega)).mono ?_
  rintro e w3 ⟨ll, lh, el, eh, gs, rfl, hgas, hw3, hr3⟩
  have hE3 := Wr.ext hw3 hE2 hr2.ge
  have ho3 := ho2.wr hr2 hw3
  replace A0 := A0.wr hw3 g0
  replace B0 := B0.wr hw3 g1
  replace C0 := C0.wr hw3 g2
  replace D0 := D0.wr hw3 g3
  clear hw3 hE2 hr2 ho2
  have hl3 := hr3.lt
  go_wp2_with fail
  refine (BoxOf_c w g _ _ hr3 (by omega)).mono ?_
  rintro e w4 ⟨b, rfl, hbox, hw4, hr4⟩
  have hE4 := Wr.ext hw4 hE3 hr3.ge
  have ho4 := ho3.wr hr3 hw4
  replace A0 := A0.wr hw4 g0
  replace B0 := B0.wr hw4 g1
  replace C0 := C0.wr hw4 g2
  replace D0 := D0.wr hw4 g3
  have hsm : Hid (smallB b) := hbox
  clear hw4 hE3 hr3 ho3 hbox
  have hl4 := hr4.lt
  have F4 : Four w w4 g (.slice A1 n1 c1) (.slice A2 n2 c2) (.slice A3 n3 c3) s bs := ⟨hE4, hr4.mono (by omega), ho4⟩
  have r4 : IsRing w w4 g 100 := hr4.mono (by omega)
  clear hE4 hr4 ho4
  go_wp2_with fail
  refine name_w _ ?_
  intro V hV
  obtain ⟨z, hz⟩ : ∃ z, z = w4.heap.size := ⟨_, rfl⟩
  have gz : g < z := by omega
  have P8 : Blk V z 53 #[.slice A1 n1 c1, .int .i64 home, .slice A2 n2 c2, .slice A3 n3 c3] := by rw [hV]; exact (((Blk.newAt hz).alloc _).alloc _)
  have P9 : Blk V (z + 1) 28 #[.int .i64 ll, .int .i64 lh, .int .i64 el, .int .i64 eh, .int .i64 gs] := by rw [hV]; exact (Blk.newAt (by simp [hz])).alloc _
  have P10 : Blk V (z + 1 + 1) 38 #[.int .i64 b.x.lo, .int .i64 b.x.hi, .int .i64 b.y.lo, .int .i64 b.y.hi, .int .i64 b.u.lo, .int .i64 b.u.hi, .int .i64 b.v.lo, .int .i64 b.v.hi] := by rw [hV]; exact Blk.newAt (by simp [hz])
  have EV : Ext w4 V := by rw [hV]; exact ext_by
  rw [← hz]
  clear hV
  replace A0 := A0.ext EV
  replace B0 := B0.ext EV
  replace C0 := C0.ext EV
  replace D0 := D0.ext EV
  have F5 := F4.keep EV
  have r5 := r4.keep EV
  clear F4 r4 EV hz hl1 hl2 hl3 hl4
  have hlV := r5.lt
  have l8 := P8.lt
  have l9 := P9.lt
  have l10 := P10.lt
  have o8 : z ≠ g := by omega
  have o9 : z + 1 ≠ g := by omega
  have o10 : z + 1 + 1 ≠ g := by omega
  refine wp_region_chain0 true [([0, 1, 2, 3, 4, 5], 6)] [] [7, 8, 9, 10, 11] (fun w' => Blk w' z 53 #[.slice A1 n1 c1, .int .i64 home, .slice A2 n2 c2, .slice A3 n3 c3] ∧ Blk w' (z + 1) 28 #[.int .i64 ll, .int .i64 lh, .int .i64 el, .int .i64 eh, .int .i64 gs] ∧ Blk w' (z + 1 + 1) 38 #[.int .i64 b.x.lo, .int .i64 b.x.hi, .int .i64 b.y.lo, .int .i64 b.y.hi, .int .i64 b.u.lo, .int .i64 b.u.hi, .int .i64 b.v.lo, .int .i64 b.v.hi]) (fun w' => Wr V g w' ∧ IsRing w w' g 100) ((Wr.stable V g).and (Stable.ring _ _ _)) (fun w h => ⟨P8.wr h.1 o8, P9.wr h.1 o9, P10.wr h.1 o10⟩) ⟨(Wr.refl _ _).drew, r5.drew⟩ (by kernel_rfl) (by kernel_rfl) ?_
  simp only [XO, pick, List.drop_succ_cons, List.drop_zero]
  repeat' (first | (refine bl_off (by rfl) ?_; simp only [putX]) | (apply bl_op; rfl; (intro w1 h1; obtain ⟨hq6, hq7, hq8⟩ := h1; have hc6 := hq6.cell; have hl6 := hq6.lt; have hc7 := hq7.cell; have hl7 := hq7.lt; have hc8 := hq8.cell; have hl8 := hq8.lt; go_simp; (try go_bits); (first | exact ⟨rfl, Ext.refl _⟩)); simp only [putX]) | (refine bl_split rfl rfl (fun hx => ?_) (fun hx => ?_) <;> simp only [hx]))
  refine bl_nil ?_
  try simp only [pick1, List.drop_succ_cons, List.drop_zero]
  refine xe_call (f := 84) (args := #[.pointer (some ⟨g, 0, none⟩), bxV b]) (fun r => ∃ x y u v : Int, r = .agg #[.int .i64 x, .int .i64 y, .int .i64 u, .int .i64 v] ∧ inBx b ⟨x, y, u, v⟩) (fun w' => Wr V g w' ∧ IsRing w w' g 108) rfl ((Wr.stable V g).and (Stable.ring _ _ _)) (fun w h => ⟨P8.wr h.1 o8, P9.wr h.1 o9, P10.wr h.1 o10⟩) (fun w h => by go_simp) (fun w h => ?_) ?_
  · refine (StateIn_c _ g 100 b w h.2 (by omega) (by have h := hsm.out; unfold smallB at h; omega)).mono ?_
    rintro e w' ⟨x, y, u, v, rfl, hx, k1, k2⟩
    exact ⟨_, rfl, ⟨x, y, u, v, rfl, hx⟩, h.1.trans k1, k2.mono (by omega)⟩
  rintro r ⟨x, y, u, v, rfl, hx⟩
  simp only [putX]
  refine bl_nil ?_
  try simp only [pick1, List.drop_succ_cons, List.drop_zero]
  have HX := Lib.hid hx
  have HM := Lib.hid hm
  clear hx hm hlV l8 l9 l10
  refine tl_val (v := .pointer (some ⟨g, 0, none⟩)) rfl ((Wr.stable V g).and (Stable.ring _ _ _)) (fun w h => ⟨P8.wr h.1 o8, P9.wr h.1 o9, P10.wr h.1 o10⟩) (fun w h => by go_simp) ?_
  simp only [putX]
  have BEG : ∀ W, (Wr V g W ∧ IsRing w W g 108) → Four w W g (.slice A1 n1 c1) (.slice A2 n2 c2) (.slice A3 n3 c3) s bs ∧ (Blk W z 53 #[.slice A1 n1 c1, .int .i64 home, .slice A2 n2 c2, .slice A3 n3 c3] ∧ Blk W (z + 1) 28 #[.int .i64 ll, .int .i64 lh, .int .i64 el, .int .i64 eh, .int .i64 gs] ∧ Blk W (z + 1 + 1) 38 #[.int .i64 b.x.lo, .int .i64 b.x.hi, .int .i64 b.y.lo, .int .i64 b.y.hi, .int .i64 b.u.lo, .int .i64 b.u.hi, .int .i64 b.v.lo, .int .i64 b.v.hi]) ∧ Blk W w.heap.size 53 zsky ∧ Blk W (w.heap.size + 1) 28 #[.int .i64 0, .int .i64 0, .int .i64 0, .int .i64 0, .int .i64 0] ∧ Blk W (w.heap.size + 1 + 1) 38 #[.int .i64 0, .int .i64 0, .int .i64 0, .int .i64 0, .int .i64 0, .int .i64 0, .int .i64 0, .int .i64 0] ∧ Blk W (w.heap.size + 1 + 1 + 1) 30 #[.int .i64 0, .int .i64 0, .int .i64 0, .int .i64 0] := fun W h =>
    ⟨⟨Wr.ext h.1 F5.ext r5.ge, h.2.mono (by omega), F5.sky.wr r5 h.1⟩, ⟨P8.wr h.1 o8, P9.wr h.1 o9, P10.wr h.1 o10⟩, A0.wr h.1 g0, B0.wr h.1 g1, C0.wr h.1 g2, D0.wr h.1 g3⟩
  refine tl_skip (fun W => Four w W g (.slice A1 n1 c1) (.slice A2 n2 c2) (.slice A3 n3 c3) s bs ∧ (Blk W z 53 #[.slice A1 n1 c1, .int .i64 home, .slice A2 n2 c2, .slice A3 n3 c3] ∧ Blk W (z + 1) 28 #[.int .i64 ll, .int .i64 lh, .int .i64 el, .int .i64 eh, .int .i64 gs] ∧ Blk W (z + 1 + 1) 38 #[.int .i64 b.x.lo, .int .i64 b.x.hi, .int .i64 b.y.lo, .int .i64 b.y.hi, .int .i64 b.u.lo, .int .i64 b.u.hi, .int .i64 b.v.lo, .int .i64 b.v.hi]) ∧ Blk W w.heap.size 53 #[.slice A1 n1 c1, .int .i64 home, .slice A2 n2 c2, .slice A3 n3 c3] ∧ Blk W (w.heap.size + 1) 28 #[.int .i64 0, .int .i64 0, .int .i64 0, .int .i64 0, .int .i64 0] ∧ Blk W (w.heap.size + 1 + 1) 38 #[.int .i64 0, .int .i64 0, .int .i64 0, .int .i64 0, .int .i64 0, .int .i64 0, .int .i64 0, .int .i64 0] ∧ Blk W (w.heap.size + 1 + 1 + 1) 30 #[.int .i64 0, .int .i64 0, .int .i64 0, .int .i64 0]) rfl rfl
    (fun _ _ ⟨k1, ⟨k2, k3, k4⟩, k5, k6, k7, k8⟩ k => ⟨k1.keep k, ⟨k2.ext k, k3.ext k, k4.ext k⟩, k5.ext k, k6.ext k, k7.ext k, k8.ext k⟩) (fun _ k => k.2.1) (fun W h => ?_) ?_
  · obtain ⟨k1, ⟨k2, k3, k4⟩, k5, k6, k7, k8⟩ := BEG W h
    have hc := k5.cell
    have hf := k5.frozen
    have hl := k5.lt
    refine ⟨putC w.heap.size W 0 [.slice A1 n1 c1, .int .i64 home, .slice A2 n2 c2, .slice A3 n3 c3], (by simp only [putC, Nat.reduceAdd]; go_simp; try rfl), Four.putC (Nat.le_refl _) (by omega) _ k1, ⟨k2.putFar (by omega) _ _, k3.putFar (by omega) _ _, k4.putFar (by omega) _ _⟩, k5.putAt rfl, k6.putFar (by omega) _ _, k7.putFar (by omega) _ _, k8.putFar (by omega) _ _⟩
  refine tl_skip (fun W => Four w W g (.slice A1 n1 c1) (.slice A2 n2 c2) (.slice A3 n3 c3) s bs ∧ (Blk W z 53 #[.slice A1 n1 c1, .int .i64 home, .slice A2 n2 c2, .slice A3 n3 c3] ∧ Blk W (z + 1) 28 #[.int .i64 ll, .int .i64 lh, .int .i64 el, .int .i64 eh, .int .i64 gs] ∧ Blk W (z + 1 + 1) 38 #[.int .i64 b.x.lo, .int .i64 b.x.hi, .int .i64 b.y.lo, .int .i64 b.y.hi, .int .i64 b.u.lo, .int .i64 b.u.hi, .int .i64 b.v.lo, .int .i64 b.v.hi]) ∧ Blk W w.heap.size 53 #[.slice A1 n1 c1, .int .i64 home, .slice A2 n2 c2, .slice A3 n3 c3] ∧ Blk W (w.heap.size + 1) 28 #[.int .i64 ll, .int .i64 lh, .int .i64 el, .int .i64 eh, .int .i64 gs] ∧ Blk W (w.heap.size + 1 + 1) 38 #[.int .i64 0, .int .i64 0, .int .i64 0, .int .i64 0, .int .i64 0, .int .i64 0, .int .i64 0, .int .i64 0] ∧ Blk W (w.heap.size + 1 + 1 + 1) 30 #[.int .i64 0, .int .i64 0, .int .i64 0, .int .i64 0]) rfl rfl
    (fun _ _ ⟨k1, ⟨k2, k3, k4⟩, k5, k6, k7, k8⟩ k => ⟨k1.keep k, ⟨k2.ext k, k3.ext k, k4.ext k⟩, k5.ext k, k6.ext k, k7.ext k, k8.ext k⟩) (fun _ k => k.2.1) (fun W h => ?_) ?_
  · obtain ⟨k1, ⟨k2, k3, k4⟩, k5, k6, k7, k8⟩ := h
    have hc := k6.cell
    have hf := k6.frozen
    have hl := k6.lt
    refine ⟨putC (w.heap.size + 1) W 0 [.int .i64 ll, .int .i64 lh, .int .i64 el, .int .i64 eh, .int .i64 gs], (by simp only [putC, Nat.reduceAdd]; go_simp; try rfl), Four.putC (by omega) (by omega) _ k1, ⟨k2.putFar (by omega) _ _, k3.putFar (by omega) _ _, k4.putFar (by omega) _ _⟩, k5.putFar (by omega) _ _, k6.putAt rfl, k7.putFar (by omega) _ _, k8.putFar (by omega) _ _⟩
  refine tl_skip (fun W => Four w W g (.slice A1 n1 c1) (.slice A2 n2 c2) (.slice A3 n3 c3) s bs ∧ (Blk W z 53 #[.slice A1 n1 c1, .int .i64 home, .slice A2 n2 c2, .slice A3 n3 c3] ∧ Blk W (z + 1) 28 #[.int .i64 ll, .int .i64 lh, .int .i64 el, .int .i64 eh, .int .i64 gs] ∧ Blk W (z + 1 + 1) 38 #[.int .i64 b.x.lo, .int .i64 b.x.hi, .int .i64 b.y.lo, .int .i64 b.y.hi, .int .i64 b.u.lo, .int .i64 b.u.hi, .int .i64 b.v.lo, .int .i64 b.v.hi]) ∧ Blk W w.heap.size 53 #[.slice A1 n1 c1, .int .i64 home, .slice A2 n2 c2, .slice A3 n3 c3] ∧ Blk W (w.heap.size + 1) 28 #[.int .i64 ll, .int .i64 lh, .int .i64 el, .int .i64 eh, .int .i64 gs] ∧ Blk W (w.heap.size + 1 + 1) 38 #[.int .i64 b.x.lo, .int .i64 b.x.hi, .int .i64 b.y.lo, .int .i64 b.y.hi, .int .i64 b.u.lo, .int .i64 b.u.hi, .int .i64 b.v.lo, .int .i64 b.v.hi] ∧ Blk W (w.heap.size + 1 + 1 + 1) 30 #[.int .i64 0, .int .i64 0, .int .i64 0, .int .i64 0]) rfl rfl
    (fun _ _ ⟨k1, ⟨k2, k3, k4⟩, k5, k6, k7, k8⟩ k => ⟨k1.keep k, ⟨k2.ext k, k3.ext k, k4.ext k⟩, k5.ext k, k6.ext k, k7.ext k, k8.ext k⟩) (fun _ k => k.2.1) (fun W h => ?_) ?_
  · obtain ⟨k1, ⟨k2, k3, k4⟩, k5, k6, k7, k8⟩ := h
    have hc := k7.cell
    have hf := k7.frozen
    have hl := k7.lt
    refine ⟨putC (w.heap.size + 1 + 1) W 0 [.int .i64 b.x.lo, .int .i64 b.x.hi, .int .i64 b.y.lo, .int .i64 b.y.hi, .int .i64 b.u.lo, .int .i64 b.u.hi, .int .i64 b.v.lo, .int .i64 b.v.hi], (by simp only [putC, Nat.reduceAdd]; go_simp; try rfl), Four.putC (by omega) (by omega) _ k1, ⟨k2.putFar (by omega) _ _, k3.putFar (by omega) _ _, k4.putFar (by omega) _ _⟩, k5.putFar (by omega) _ _, k6.putFar (by omega) _ _, k7.putAt rfl, k8.putFar (by omega) _ _⟩
  refine tl_last rfl rfl (fun W ⟨k1, k2, k5, k6, k7, k8⟩ => ?_)
  have hc := k8.cell
  have hf := k8.frozen
  have hl := k8.lt
  refine ⟨putC (w.heap.size + 1 + 1 + 1) W 0 [.int .i64 x, .int .i64 y, .int .i64 u, .int .i64 v], (by simp only [putC, Nat.reduceAdd]; go_simp; try rfl), ?_⟩
  have q1 := Four.putC (b := w.heap.size + 1 + 1 + 1) (by omega) (by omega) [.int .i64 x, .int .i64 y, .int .i64 u, .int .i64 v] k1
  have q5 := k5.putFar (b := w.heap.size + 1 + 1 + 1) (by omega) [.int .i64 x, .int .i64 y, .int .i64 u, .int .i64 v] 0
  have q6 := k6.putFar (b := w.heap.size + 1 + 1 + 1) (by omega) [.int .i64 x, .int .i64 y, .int .i64 u, .int .i64 v] 0
  have q7 := k7.putFar (b := w.heap.size + 1 + 1 + 1) (by omega) [.int .i64 x, .int .i64 y, .int .i64 u, .int .i64 v] 0
  have q8 := k8.putAt (l := [.int .i64 x, .int .i64 y, .int .i64 u, .int .i64 v]) rfl
  generalize putC _ _ _ _ = W9 at *
  clear k1 k2 k5 k6 k7 k8 hc hf hl BEG A0 B0 C0 D0 P8 P9 P10 F5 r5
  have c_q5 := q5.cell; have f_q5 := q5.frozen; have l_q5 := q5.lt; have c_q6 := q6.cell; have f_q6 := q6.frozen; have l_q6 := q6.lt; have c_q7 := q7.cell; have f_q7 := q7.frozen; have l_q7 := q7.lt; have c_q8 := q8.cell; have f_q8 := q8.frozen; have l_q8 := q8.lt
  (try dsimp only); repeat' (first | go_values | go_skip | go_guarded | go_step | go_upon | go_in | go_at_K)
  (try simp only [Exit.inBlock, Exit.then]); apply bodyPost_ret; (focus (simp only [results, Tryz.results28]; go_simp; try rfl)); rfl
  exact ⟨g, A1, n1, c1, home, A2, n2, c2, A3, n3, c3, s, ll, lh, el, eh, gs, b, x, y, u, v, bs, rfl, q1, by rw [HH.out]; exact q1.sky.isSky, HM.out, hgas, hsm.out, HX.out⟩
end Go.Proofs.YtfniicgoeljmdaaGreat
