/- Drifts, boxes and states made of numbers. No condition. -/
import Derived.Test.YtfniicgoeljmdaaGreatRing
import Derived.Test.YtfniicgoeljmdaaGreatSlices
import Derived.Test.YtfniicgoeljmdaaGreatNameW
import Derived.LoopN
namespace Go.Proofs.YtfniicgoeljmdaaGreat
open Go.RowKit

def inSpanM (lo hi n : Int) : Int := lo + n % (hi - lo + 1)
theorem inSpan_in {lo hi : Int} (n : Int) (h : lo ≤ hi) : lo ≤ inSpanM lo hi n ∧ inSpanM lo hi n ≤ hi := by
  unfold inSpanM
  have h1 := Int.emod_nonneg n (show hi - lo + 1 ≠ 0 by omega)
  have h2 := Int.emod_lt_of_pos n (show 0 < hi - lo + 1 by omega)
  omega
set_option maxRecDepth 4000 in
set_option maxHeartbeats 1000000 in
theorem InSpan_c (lo hi n : Int) (w : World) (h : lo ≤ hi) (hb : -1000000000000000000 ≤ lo ∧ hi ≤ 1000000000000000000) :
    Calls Tryz.prog 87 #[.agg #[.int .i64 lo, .int .i64 hi], .int .i64 n] w fun e w' => e = .returned (.int .i64 (inSpanM lo hi n)) ∧ Ext w w' := by
  have hm := inSpan_in n h
  obtain ⟨hb1, hb2⟩ := hb
  have hM := Lib.hid fun W => (Mod64_c n (hi - lo + 1) W (by omega) (by omega)).mono (R' := fun e w' => e = .returned (.int .i64 (n % (hi - lo + 1))) ∧ Ext W w') fun _ _ ⟨h, hw⟩ => ⟨h, hw ▸ Ext.refl _⟩
  unfold inSpanM at hm ⊢
  obtain ⟨q, hq⟩ : ∃ q, n % (hi - lo + 1) = q := ⟨_, rfl⟩
  rw [hq] at hM hm ⊢
  obtain ⟨hm1, hm2⟩ := hm
  clear hq
  go_enter Tryz.func87, Tryz.ntmps87
  go_wp2_with fail
  refine wp_region_text (by kernel_rfl) (by kernel_rfl) ?_
  (repeat' (first | (refine bl_off (by rfl) ?_; simp only [putX]) | (apply bl_op; rfl; (intro w1 h1; obtain ⟨hc, hf, hz⟩ := bcell h1; go_simp; (try go_bits); (first | exact ⟨rfl, Ext.refl _⟩ | (apply gives_call; go_at_call 129; exact hM.out _) | (go_invoke; go_simp; apply gives_call; go_at_call 129; exact hM.out _))); simp only [putX]) | (refine bl_split rfl rfl (fun hx => ?_) (fun hx => ?_) <;> simp only [hx])))
  refine bl_nil ?_
  intro w2 h2
  obtain ⟨hc_w2, hf_w2, hz_w2⟩ := bcell h2; (try simp only [szA] at hz_w2); (try have := wz0 w w2); (try have := wz1 w w2); (try have := wz2 w w2); (try have := wz3 w w2); (try have := wz4 w w2)
  go_wp2_with fail
  go_ret
  exact ⟨rfl, ext_by⟩
set_option maxRecDepth 4000 in
set_option maxHeartbeats 2000000 in
theorem GasOf_c (wb : World) (g : Nat) (B : Int) (w : World) (hr : IsRing wb w g B) (hB : B ≤ 800000000) :
    Calls Tryz.prog 82 #[.pointer (some ⟨g, 0, none⟩)] w fun e w' => ∃ ll lh hl hh gs, e = .returned (.agg #[.int .i64 ll, .int .i64 lh, .int .i64 hl, .int .i64 hh, .int .i64 gs]) ∧ ((0 ≤ ll ∧ ll ≤ lh ∧ lh ≤ 4) ∧ (-3 ≤ hl ∧ hl ≤ hh ∧ hh ≤ 3) ∧ 0 ≤ gs ∧ gs ≤ 2) ∧ Wr w g w' ∧ IsRing wb w' g (B + 5) := by
  have hg := hr.lt
  have hge := hr.ge
  have hsz := hr.ext.size
  have hb0 : w.heap.size ≠ g := by omega
  have hb1 : w.heap.size + 1 ≠ g := by omega
  go_enter Tryz.func82, Tryz.ntmps82
  go_wp2_with fail
  refine (Next_c wb g _ _ _ (by (repeat' (first | assumption | apply IsRing.alloc | apply IsRing.drew | refine IsRing.put ?_ (by dsimp only; omega) _))) (by omega) (by omega) (by omega)).mono ?_; rintro e w1 ⟨v1, rfl, va1, vb1, hw1, hr1⟩; obtain ⟨hc1, hf1, hz1⟩ := Wr.cells hw1; (try simp only [szA] at hz1); have hg1 := hr1.lt
  have R1 : Blk w1 w.heap.size 28 #[.int .i64 0, .int .i64 0, .int .i64 0, .int .i64 0, .int .i64 0] := Blk.wr ((Blk.newAt rfl).alloc _) hw1 hb0
  have D1 : Blk w1 (w.heap.size + 1) 28 #[.int .i64 0, .int .i64 0, .int .i64 0, .int .i64 0, .int .i64 0] := Blk.wr (Blk.newAt (by simp)) hw1 hb1
  have K1 : Wr w g w1 := by (repeat' (first | exact Wr.refl _ _ | assumption | apply Wr.alloc | apply Wr.drew | refine Wr.put ?_ (by dsimp only; omega) _ | refine Wr.trans ?_ (by assumption)))
  clear hw1 hc1 hf1
  have c_D1 := D1.cell; have f_D1 := D1.frozen; have l_D1 := D1.lt; have c_R1 := R1.cell; have f_R1 := R1.frozen; have l_R1 := R1.lt
  go_wp2_with fail
  have R1a : Blk (w1.setCell ⟨w.heap.size + 1, 0, none⟩ (.int .i64 v1)) w.heap.size 28 #[.int .i64 0, .int .i64 0, .int .i64 0, .int .i64 0, .int .i64 0] := R1.far (by dsimp only; omega) _
  have D1a : Blk (w1.setCell ⟨w.heap.size + 1, 0, none⟩ (.int .i64 v1)) (w.heap.size + 1) 28 #[.int .i64 v1, .int .i64 0, .int .i64 0, .int .i64 0, .int .i64 0] := D1.set_ 0 _
  have r1a : IsRing wb (w1.setCell ⟨w.heap.size + 1, 0, none⟩ (.int .i64 v1)) g (B + 1) := IsRing.put (hr1.mono (by omega)) ⟨by dsimp only; omega, hb1⟩ _
  have K1a : Wr w g (w1.setCell ⟨w.heap.size + 1, 0, none⟩ (.int .i64 v1)) := Wr.put K1 (by dsimp only; omega) _
  clear c_D1 f_D1 l_D1 c_R1 f_R1 l_R1
  clear R1 D1 K1 hr1
  revert R1a D1a r1a K1a
  generalize World.setCell _ _ _ = V1
  intro R1a D1a r1a K1a
  have c_D1a := D1a.cell; have f_D1a := D1a.frozen; have l_D1a := D1a.lt; have c_R1a := R1a.cell; have f_R1a := R1a.frozen; have l_R1a := R1a.lt
  have hgl1 := r1a.lt
  refine wp_region_chain0 false [([0, 1, 2, 3], 4)] [5, 6, 7] [8] (fun W => ∃ u, Blk W (w.heap.size + 1) 28 #[.int .i64 v1, u, .int .i64 0, .int .i64 0, .int .i64 0]) (fun w' => Wr V1 g w' ∧ IsRing wb w' g (B + 1)) ((Wr.stable V1 g).and (Stable.ring _ _ _)) (fun w h => ⟨_, D1a.wr h.1 hb1⟩) ⟨(Wr.refl _ _).drew, r1a.drew⟩ (by kernel_rfl) (by kernel_rfl) ?_
  simp only [XO, pick, List.drop_succ_cons, List.drop_zero]
  repeat' (first | (refine bl_off (by rfl) ?_; simp only [putX]) | (apply bl_op; rfl; (intro w1 h1; obtain ⟨u, hq⟩ := h1; have hcq := hq.cell; have hlq := hq.lt; go_simp; (try go_bits); (first | exact ⟨rfl, Ext.refl _⟩)); simp only [putX]) | (refine bl_split rfl rfl (fun hx => ?_) (fun hx => ?_) <;> simp only [hx]))
  refine bl_nil ?_
  try simp only [pick1, List.drop_succ_cons, List.drop_zero]
  refine xe_call (f := 62) (args := #[.pointer (some ⟨g, 0, none⟩), .int .i64 3]) (fun v => ∃ x : Int, v = .int .i64 x ∧ 0 ≤ x ∧ x < 3) (fun w => Wr V1 g w ∧ IsRing wb w g (B + 2)) rfl ((Wr.stable V1 g).and (Stable.ring _ _ _)) (fun w h => ⟨_, D1a.wr h.1 hb1⟩) (fun w h => by go_simp) (fun w h => ?_) ?_
  · refine (Next_c wb g (B + 1) 3 w h.2 (by omega) (by omega) (by omega)).mono ?_
    rintro e w' ⟨x, rfl, p1, p2, k1, k2⟩
    exact ⟨_, rfl, ⟨x, rfl, p1, p2⟩, h.1.trans k1, k2.mono (by omega)⟩
  rintro v ⟨v2, rfl, va2, vb2⟩
  simp only [putX]
  repeat' (first | (refine bl_off (by rfl) ?_; simp only [putX]) | (apply bl_op; rfl; (intro w1 h1; obtain ⟨u, hq⟩ := h1; have hcq := hq.cell; have hlq := hq.lt; go_simp; (try go_bits); (first | exact ⟨rfl, Ext.refl _⟩)); simp only [putX]) | (refine bl_split rfl rfl (fun hx => ?_) (fun hx => ?_) <;> simp only [hx]))
  refine bl_nil ?_
  try simp only [pick1, List.drop_succ_cons, List.drop_zero]
  refine tl_skip (fun W => Blk W w.heap.size 28 #[.int .i64 0, .int .i64 0, .int .i64 0, .int .i64 0, .int .i64 0] ∧ Blk W (w.heap.size + 1) 28 #[.int .i64 v1, .int .i64 (v1 + v2), .int .i64 0, .int .i64 0, .int .i64 0] ∧ IsRing wb W g (B + 2) ∧ Wr w g W) rfl rfl (fun _ _ ⟨k1, k2, k3, k4⟩ k => ⟨k1.ext k, k2.ext k, k3.keep k, Wr.stable _ _ _ _ k4 k⟩) (fun _ k => ⟨_, k.2.1⟩) (fun W ⟨h2, hr2⟩ => ?_) ?_
  · have R2 := R1a.wr h2 hb0
    have D2 := D1a.wr h2 hb1
    have c_D := D2.cell
    have f_D := D2.frozen
    have l_D := D2.lt
    exact ⟨_, (by go_simp; try rfl), R2.far (by dsimp only; omega) _, D2.set_ 1 _, IsRing.put (hr2.mono (by omega)) ⟨by dsimp only; omega, hb1⟩ _, Wr.put (K1a.trans h2) (by dsimp only; omega) _⟩
  clear c_D1a f_D1a l_D1a c_R1a f_R1a l_R1a
  clear R1a D1a K1a r1a hgl1
  refine tl_nil ?_
  rintro V2 ⟨R2a, D2a, r2a, K2a⟩
  have c_D2a := D2a.cell; have f_D2a := D2a.frozen; have l_D2a := D2a.lt; have c_R2a := R2a.cell; have f_R2a := R2a.frozen; have l_R2a := R2a.lt
  go_wp2_with fail
  refine (Next_c wb g _ _ _ r2a (by omega) (by omega) (by omega)).mono ?_; rintro e w3 ⟨v3, rfl, va3, vb3, hw3, hr3⟩; obtain ⟨hc3, hf3, hz3⟩ := Wr.cells hw3; (try simp only [szA] at hz3); have hg3 := hr3.lt
  have R3 := R2a.wr hw3 hb0
  have D3 := D2a.wr hw3 hb1
  have K3 := K2a.trans hw3
  clear c_D2a f_D2a l_D2a c_R2a f_R2a l_R2a
  clear R2a D2a K2a r2a hw3 hc3 hf3
  have c_D3 := D3.cell; have f_D3 := D3.frozen; have l_D3 := D3.lt; have c_R3 := R3.cell; have f_R3 := R3.frozen; have l_R3 := R3.lt
  go_wp2_with fail
  have R3a : Blk (w3.setCell ⟨w.heap.size + 1, 2, none⟩ (.int .i64 (v3 - 3))) w.heap.size 28 #[.int .i64 0, .int .i64 0, .int .i64 0, .int .i64 0, .int .i64 0] := R3.far (by dsimp only; omega) _
  have D3a : Blk (w3.setCell ⟨w.heap.size + 1, 2, none⟩ (.int .i64 (v3 - 3))) (w.heap.size + 1) 28 #[.int .i64 v1, .int .i64 (v1 + v2), .int .i64 (v3 - 3), .int .i64 0, .int .i64 0] := D3.set_ 2 _
  have r3a : IsRing wb (w3.setCell ⟨w.heap.size + 1, 2, none⟩ (.int .i64 (v3 - 3))) g (B + 3) := IsRing.put (hr3.mono (by omega)) ⟨by dsimp only; omega, hb1⟩ _
  have K3a : Wr w g (w3.setCell ⟨w.heap.size + 1, 2, none⟩ (.int .i64 (v3 - 3))) := Wr.put K3 (by dsimp only; omega) _
  clear c_D3 f_D3 l_D3 c_R3 f_R3 l_R3
  clear R3 D3 K3 hr3
  revert R3a D3a r3a K3a
  generalize World.setCell _ _ _ = V3
  intro R3a D3a r3a K3a
  have c_D3a := D3a.cell; have f_D3a := D3a.frozen; have l_D3a := D3a.lt; have c_R3a := R3a.cell; have f_R3a := R3a.frozen; have l_R3a := R3a.lt
  have hgl3 := r3a.lt
  refine wp_region_chain0 false [([0, 1, 2, 3], 4)] [5, 6, 7] [8] (fun W => ∃ u, Blk W (w.heap.size + 1) 28 #[.int .i64 v1, .int .i64 (v1 + v2), .int .i64 (v3 - 3), u, .int .i64 0]) (fun w' => Wr V3 g w' ∧ IsRing wb w' g (B + 3)) ((Wr.stable V3 g).and (Stable.ring _ _ _)) (fun w h => ⟨_, D3a.wr h.1 hb1⟩) ⟨(Wr.refl _ _).drew, r3a.drew⟩ (by kernel_rfl) (by kernel_rfl) ?_
  simp only [XO, pick, List.drop_succ_cons, List.drop_zero]
  repeat' (first | (refine bl_off (by rfl) ?_; simp only [putX]) | (apply bl_op; rfl; (intro w1 h1; obtain ⟨u, hq⟩ := h1; have hcq := hq.cell; have hlq := hq.lt; go_simp; (try go_bits); (first | exact ⟨rfl, Ext.refl _⟩)); simp only [putX]) | (refine bl_split rfl rfl (fun hx => ?_) (fun hx => ?_) <;> simp only [hx]))
  refine bl_nil ?_
  try simp only [pick1, List.drop_succ_cons, List.drop_zero]
  refine xe_call (f := 62) (args := #[.pointer (some ⟨g, 0, none⟩), .int .i64 3]) (fun v => ∃ x : Int, v = .int .i64 x ∧ 0 ≤ x ∧ x < 3) (fun w => Wr V3 g w ∧ IsRing wb w g (B + 4)) rfl ((Wr.stable V3 g).and (Stable.ring _ _ _)) (fun w h => ⟨_, D3a.wr h.1 hb1⟩) (fun w h => by go_simp) (fun w h => ?_) ?_
  · refine (Next_c wb g (B + 3) 3 w h.2 (by omega) (by omega) (by omega)).mono ?_
    rintro e w' ⟨x, rfl, p1, p2, k1, k2⟩
    exact ⟨_, rfl, ⟨x, rfl, p1, p2⟩, h.1.trans k1, k2.mono (by omega)⟩
  rintro v ⟨v4, rfl, va4, vb4⟩
  simp only [putX]
  repeat' (first | (refine bl_off (by rfl) ?_; simp only [putX]) | (apply bl_op; rfl; (intro w1 h1; obtain ⟨u, hq⟩ := h1; have hcq := hq.cell; have hlq := hq.lt; go_simp; (try go_bits); (first | exact ⟨rfl, Ext.refl _⟩)); simp only [putX]) | (refine bl_split rfl rfl (fun hx => ?_) (fun hx => ?_) <;> simp only [hx]))
  refine bl_nil ?_
  try simp only [pick1, List.drop_succ_cons, List.drop_zero]
  refine tl_skip (fun W => Blk W w.heap.size 28 #[.int .i64 0, .int .i64 0, .int .i64 0, .int .i64 0, .int .i64 0] ∧ Blk W (w.heap.size + 1) 28 #[.int .i64 v1, .int .i64 (v1 + v2), .int .i64 (v3 - 3), .int .i64 (v3 - 3 + v4), .int .i64 0] ∧ IsRing wb W g (B + 4) ∧ Wr w g W) rfl rfl (fun _ _ ⟨k1, k2, k3, k4⟩ k => ⟨k1.ext k, k2.ext k, k3.keep k, Wr.stable _ _ _ _ k4 k⟩) (fun _ k => ⟨_, k.2.1⟩) (fun W ⟨h4, hr4⟩ => ?_) ?_
  · have R4 := R3a.wr h4 hb0
    have D4 := D3a.wr h4 hb1
    have c_D := D4.cell
    have f_D := D4.frozen
    have l_D := D4.lt
    exact ⟨_, (by go_simp; try rfl), R4.far (by dsimp only; omega) _, D4.set_ 3 _, IsRing.put (hr4.mono (by omega)) ⟨by dsimp only; omega, hb1⟩ _, Wr.put (K3a.trans h4) (by dsimp only; omega) _⟩
  clear c_D3a f_D3a l_D3a c_R3a f_R3a l_R3a
  clear R3a D3a K3a r3a hgl3
  refine tl_nil ?_
  rintro V4 ⟨R4a, D4a, r4a, K4a⟩
  have c_D4a := D4a.cell; have f_D4a := D4a.frozen; have l_D4a := D4a.lt; have c_R4a := R4a.cell; have f_R4a := R4a.frozen; have l_R4a := R4a.lt
  go_wp2_with fail
  refine (Next_c wb g _ _ _ r4a (by omega) (by omega) (by omega)).mono ?_; rintro e w5 ⟨v5, rfl, va5, vb5, hw5, hr5⟩; obtain ⟨hc5, hf5, hz5⟩ := Wr.cells hw5; (try simp only [szA] at hz5); have hg5 := hr5.lt
  have R5 := R4a.wr hw5 hb0
  have D5 := D4a.wr hw5 hb1
  have K5 := K4a.trans hw5
  clear c_D4a f_D4a l_D4a c_R4a f_R4a l_R4a
  clear R4a D4a K4a r4a hw5 hc5 hf5
  have c_D5 := D5.cell; have f_D5 := D5.frozen; have l_D5 := D5.lt; have c_R5 := R5.cell; have f_R5 := R5.frozen; have l_R5 := R5.lt
  (try dsimp only); repeat' (first | go_values | go_skip | go_guarded | go_step | go_upon | go_in | go_at_K)
  refine name_w _ ?_
  intro W9 hW9
  have R9 : Blk W9 w.heap.size 28 #[.int .i64 v1, .int .i64 (v1 + v2), .int .i64 (v3 - 3), .int .i64 (v3 - 3 + v4), .int .i64 v5] := by
    rw [hW9]
    exact ((((((R5.far (p := ⟨w.heap.size + 1, 4, none⟩) (by dsimp only; omega) _).set_ 0 _).set_ 1 _).set_ 2 _).set_ 3 _).set_ 4 _)
  have K9 : Wr w g W9 := by
    rw [hW9]
    iterate 6 refine Wr.put ?_ (by dsimp only; omega) _
    exact K5
  have r9 : IsRing wb W9 g (B + 5) := by
    rw [hW9]
    iterate 6 refine IsRing.put ?_ ⟨by dsimp only; omega, by first | exact hb1 | exact hb0⟩ _
    exact hr5.mono (by omega)
  clear c_D5 f_D5 l_D5 c_R5 f_R5 l_R5
  clear hW9 R5 D5 K5 hr5
  have c_R9 := R9.cell; have f_R9 := R9.frozen; have l_R9 := R9.lt
  (try simp only [Exit.inBlock, Exit.then]); apply bodyPost_ret; (focus (simp only [results, Tryz.results82]; go_simp; try rfl)); rfl
  exact ⟨_, _, _, _, _, rfl, ⟨by omega, by omega, by omega⟩, K9, r9⟩
set_option maxRecDepth 4000 in
set_option maxHeartbeats 4000000 in
theorem func4_c (wb : World) (g : Nat) (B : Int) (w : World) (hr : IsRing wb w g B) (hB : B ≤ 800000000) :
    Calls Tryz.prog 86 #[.pointer (some ⟨g, 0, none⟩)] w fun e w' => ∃ a b c d, e = .returned (.agg #[.int .i64 a, .int .i64 b, .int .i64 c, .int .i64 d]) ∧ Wr w g w' ∧ IsRing wb w' g (B + 8) := by
  have hg := hr.lt
  have hge := hr.ge
  have hsz := hr.ext.size
  have hb0 : w.heap.size ≠ g := by omega
  have hb1 : w.heap.size + 1 ≠ g := by omega
  go_enter Tryz.func86, Tryz.ntmps86
  go_wp2_with fail
  go_loopw [4] (fun i wr => ∃ (k : Nat) (x0 x1 x2 x3 : Int), k ≤ 4 ∧ i = .int .i64 k ∧ Hid (Blk wr (w.heap.size + 1) 115 #[.int .i64 x0, .int .i64 x1, .int .i64 x2, .int .i64 x3]) ∧ Hid (Blk wr w.heap.size 115 #[.int .i64 0, .int .i64 0, .int .i64 0, .int .i64 0]) ∧ Hid (Wr w g wr) ∧ IsRing wb wr g (B + 2 * k)) (fun i _ => 4 - (intOf i).toNat)
  case atStart => exact ⟨0, 0, 0, 0, 0, by omega, rfl, Lib.hid (Blk.newAt (by simp)), Lib.hid ((Blk.newAt rfl).alloc _), Lib.hid ((Wr.refl _ _).alloc _ |>.alloc _), (hr.alloc _).alloc _ |>.mono (by omega)⟩
  case round =>
    obtain ⟨k, x0, x1, x2, x3, hk, rfl, HD, HR, HW, hrr⟩ := hrel
    rcases (show k = 0 ∨ k = 1 ∨ k = 2 ∨ k = 3 ∨ k = 4 by omega) with rfl | rfl | rfl | rfl | rfl
    · have hgr := hrr.lt
      have c_D := HD.out.cell
      have f_D := HD.out.frozen
      have l_D := HD.out.lt
      go_wp2_with fail
      refine (Next_c wb g _ _ _ hrr (by omega) (by omega) (by omega)).mono ?_; rintro e w1 ⟨v1, rfl, va1, vb1, hw1, hr1⟩; obtain ⟨hc1, hf1, hz1⟩ := Wr.cells hw1; (try simp only [szA] at hz1); have hg1 := hr1.lt
      have HD1 := Lib.hid (HD.out.wr hw1 hb1)
      have HR1 := Lib.hid (HR.out.wr hw1 hb0)
      have HW1 := Lib.hid (HW.out.trans hw1)
      clear hc1 hf1 hw1 HD HR HW c_D f_D l_D hrr
      have c_D := HD1.out.cell
      have f_D := HD1.out.frozen
      have l_D := HD1.out.lt
      go_wp2_with fail
      have HD2 : Hid (Blk (w1.setCell ⟨w.heap.size + 1, 0, none⟩ (.int .i64 v1)) (w.heap.size + 1) 115 #[.int .i64 v1, .int .i64 x1, .int .i64 x2, .int .i64 x3]) := Lib.hid (HD1.out.set_ 0 _)
      have HR2 : Hid (Blk (w1.setCell ⟨w.heap.size + 1, 0, none⟩ (.int .i64 v1)) w.heap.size 115 #[.int .i64 0, .int .i64 0, .int .i64 0, .int .i64 0]) := Lib.hid (HR1.out.far (by dsimp only; omega) _)
      have HW2 : Hid (Wr w g (w1.setCell ⟨w.heap.size + 1, 0, none⟩ (.int .i64 v1))) := Lib.hid (Wr.put HW1.out (by dsimp only; omega) _)
      have hrV : IsRing wb (w1.setCell ⟨w.heap.size + 1, 0, none⟩ (.int .i64 v1)) g (B + 2 * 0 + 1) := IsRing.put (hr1.mono (by omega)) ⟨by dsimp only; omega, hb1⟩ _
      clear HD1 HR1 HW1 hr1 c_D f_D l_D hz1 hg1
      revert HD2 HR2 HW2 hrV
      generalize World.setCell _ _ _ = V1
      intro HD2 HR2 HW2 hrV
      have hgv := hrV.lt
      refine (Next_c wb g _ _ _ hrV (by omega) (by omega) (by omega)).mono ?_; rintro e w2 ⟨v2, rfl, va2, vb2, hw2, hr2⟩; obtain ⟨hc2, hf2, hz2⟩ := Wr.cells hw2; (try simp only [szA] at hz2); have hg2 := hr2.lt
      have HD3 := Lib.hid (HD2.out.wr hw2 hb1)
      have HR3 := Lib.hid (HR2.out.wr hw2 hb0)
      have HW3 := Lib.hid (HW2.out.trans hw2)
      clear hc2 hf2 hw2 HD2 HR2 HW2 hrV
      have c_D := HD3.out.cell
      have f_D := HD3.out.frozen
      have l_D := HD3.out.lt
      by_cases hv : v2 < 2
      · go_wp2_with fail
        have HD4 : Hid (Blk (w2.setCell ⟨w.heap.size + 1, 0, none⟩ (.int .i64 (-v2))) (w.heap.size + 1) 115 #[.int .i64 (-v2), .int .i64 x1, .int .i64 x2, .int .i64 x3]) := Lib.hid (HD3.out.set_ 0 _)
        have HR4 : Hid (Blk (w2.setCell ⟨w.heap.size + 1, 0, none⟩ (.int .i64 (-v2))) w.heap.size 115 #[.int .i64 0, .int .i64 0, .int .i64 0, .int .i64 0]) := Lib.hid (HR3.out.far (by dsimp only; omega) _)
        have HW4 : Hid (Wr w g (w2.setCell ⟨w.heap.size + 1, 0, none⟩ (.int .i64 (-v2)))) := Lib.hid (Wr.put HW3.out (by dsimp only; omega) _)
        have hr4 : IsRing wb (w2.setCell ⟨w.heap.size + 1, 0, none⟩ (.int .i64 (-v2))) g (B + 2 * ((0 : Nat) + 1 : Nat)) := IsRing.put (hr2.mono (by omega)) ⟨by dsimp only; omega, hb1⟩ _
        go_roundw
        case rel => exact ⟨0 + 1, _, _, _, _, by omega, by go_num, HD4, HR4, HW4, hr4⟩
        case measure => simp [intOf]
      · go_wp2_with fail
        go_roundw
        case rel => exact ⟨0 + 1, _, _, _, _, by omega, by go_num, HD3, HR3, HW3, hr2.mono (by omega)⟩
        case measure => simp [intOf]
    
    · have hgr := hrr.lt
      have c_D := HD.out.cell
      have f_D := HD.out.frozen
      have l_D := HD.out.lt
      go_wp2_with fail
      refine (Next_c wb g _ _ _ hrr (by omega) (by omega) (by omega)).mono ?_; rintro e w1 ⟨v1, rfl, va1, vb1, hw1, hr1⟩; obtain ⟨hc1, hf1, hz1⟩ := Wr.cells hw1; (try simp only [szA] at hz1); have hg1 := hr1.lt
      have HD1 := Lib.hid (HD.out.wr hw1 hb1)
      have HR1 := Lib.hid (HR.out.wr hw1 hb0)
      have HW1 := Lib.hid (HW.out.trans hw1)
      clear hc1 hf1 hw1 HD HR HW c_D f_D l_D hrr
      have c_D := HD1.out.cell
      have f_D := HD1.out.frozen
      have l_D := HD1.out.lt
      go_wp2_with fail
      have HD2 : Hid (Blk (w1.setCell ⟨w.heap.size + 1, 1, none⟩ (.int .i64 v1)) (w.heap.size + 1) 115 #[.int .i64 x0, .int .i64 v1, .int .i64 x2, .int .i64 x3]) := Lib.hid (HD1.out.set_ 1 _)
      have HR2 : Hid (Blk (w1.setCell ⟨w.heap.size + 1, 1, none⟩ (.int .i64 v1)) w.heap.size 115 #[.int .i64 0, .int .i64 0, .int .i64 0, .int .i64 0]) := Lib.hid (HR1.out.far (by dsimp only; omega) _)
      have HW2 : Hid (Wr w g (w1.setCell ⟨w.heap.size + 1, 1, none⟩ (.int .i64 v1))) := Lib.hid (Wr.put HW1.out (by dsimp only; omega) _)
      have hrV : IsRing wb (w1.setCell ⟨w.heap.size + 1, 1, none⟩ (.int .i64 v1)) g (B + 2 * 1 + 1) := IsRing.put (hr1.mono (by omega)) ⟨by dsimp only; omega, hb1⟩ _
      clear HD1 HR1 HW1 hr1 c_D f_D l_D hz1 hg1
      revert HD2 HR2 HW2 hrV
      generalize World.setCell _ _ _ = V1
      intro HD2 HR2 HW2 hrV
      have hgv := hrV.lt
      refine (Next_c wb g _ _ _ hrV (by omega) (by omega) (by omega)).mono ?_; rintro e w2 ⟨v2, rfl, va2, vb2, hw2, hr2⟩; obtain ⟨hc2, hf2, hz2⟩ := Wr.cells hw2; (try simp only [szA] at hz2); have hg2 := hr2.lt
      have HD3 := Lib.hid (HD2.out.wr hw2 hb1)
      have HR3 := Lib.hid (HR2.out.wr hw2 hb0)
      have HW3 := Lib.hid (HW2.out.trans hw2)
      clear hc2 hf2 hw2 HD2 HR2 HW2 hrV
      have c_D := HD3.out.cell
      have f_D := HD3.out.frozen
      have l_D := HD3.out.lt
      by_cases hv : v2 < 2
      · go_wp2_with fail
        have HD4 : Hid (Blk (w2.setCell ⟨w.heap.size + 1, 1, none⟩ (.int .i64 (-v2))) (w.heap.size + 1) 115 #[.int .i64 x0, .int .i64 (-v2), .int .i64 x2, .int .i64 x3]) := Lib.hid (HD3.out.set_ 1 _)
        have HR4 : Hid (Blk (w2.setCell ⟨w.heap.size + 1, 1, none⟩ (.int .i64 (-v2))) w.heap.size 115 #[.int .i64 0, .int .i64 0, .int .i64 0, .int .i64 0]) := Lib.hid (HR3.out.far (by dsimp only; omega) _)
        have HW4 : Hid (Wr w g (w2.setCell ⟨w.heap.size + 1, 1, none⟩ (.int .i64 (-v2)))) := Lib.hid (Wr.put HW3.out (by dsimp only; omega) _)
        have hr4 : IsRing wb (w2.setCell ⟨w.heap.size + 1, 1, none⟩ (.int .i64 (-v2))) g (B + 2 * ((1 : Nat) + 1 : Nat)) := IsRing.put (hr2.mono (by omega)) ⟨by dsimp only; omega, hb1⟩ _
        go_roundw
        case rel => exact ⟨1 + 1, _, _, _, _, by omega, by go_num, HD4, HR4, HW4, hr4⟩
        case measure => simp [intOf]
      · go_wp2_with fail
        go_roundw
        case rel => exact ⟨1 + 1, _, _, _, _, by omega, by go_num, HD3, HR3, HW3, hr2.mono (by omega)⟩
        case measure => simp [intOf]
    
    · have hgr := hrr.lt
      have c_D := HD.out.cell
      have f_D := HD.out.frozen
      have l_D := HD.out.lt
      go_wp2_with fail
      refine (Next_c wb g _ _ _ hrr (by omega) (by omega) (by omega)).mono ?_; rintro e w1 ⟨v1, rfl, va1, vb1, hw1, hr1⟩; obtain ⟨hc1, hf1, hz1⟩ := Wr.cells hw1; (try simp only [szA] at hz1); have hg1 := hr1.lt
      have HD1 := Lib.hid (HD.out.wr hw1 hb1)
      have HR1 := Lib.hid (HR.out.wr hw1 hb0)
      have HW1 := Lib.hid (HW.out.trans hw1)
      clear hc1 hf1 hw1 HD HR HW c_D f_D l_D hrr
      have c_D := HD1.out.cell
      have f_D := HD1.out.frozen
      have l_D := HD1.out.lt
      go_wp2_with fail
      have HD2 : Hid (Blk (w1.setCell ⟨w.heap.size + 1, 2, none⟩ (.int .i64 v1)) (w.heap.size + 1) 115 #[.int .i64 x0, .int .i64 x1, .int .i64 v1, .int .i64 x3]) := Lib.hid (HD1.out.set_ 2 _)
      have HR2 : Hid (Blk (w1.setCell ⟨w.heap.size + 1, 2, none⟩ (.int .i64 v1)) w.heap.size 115 #[.int .i64 0, .int .i64 0, .int .i64 0, .int .i64 0]) := Lib.hid (HR1.out.far (by dsimp only; omega) _)
      have HW2 : Hid (Wr w g (w1.setCell ⟨w.heap.size + 1, 2, none⟩ (.int .i64 v1))) := Lib.hid (Wr.put HW1.out (by dsimp only; omega) _)
      have hrV : IsRing wb (w1.setCell ⟨w.heap.size + 1, 2, none⟩ (.int .i64 v1)) g (B + 2 * 2 + 1) := IsRing.put (hr1.mono (by omega)) ⟨by dsimp only; omega, hb1⟩ _
      clear HD1 HR1 HW1 hr1 c_D f_D l_D hz1 hg1
      revert HD2 HR2 HW2 hrV
      generalize World.setCell _ _ _ = V1
      intro HD2 HR2 HW2 hrV
      have hgv := hrV.lt
      refine (Next_c wb g _ _ _ hrV (by omega) (by omega) (by omega)).mono ?_; rintro e w2 ⟨v2, rfl, va2, vb2, hw2, hr2⟩; obtain ⟨hc2, hf2, hz2⟩ := Wr.cells hw2; (try simp only [szA] at hz2); have hg2 := hr2.lt
      have HD3 := Lib.hid (HD2.out.wr hw2 hb1)
      have HR3 := Lib.hid (HR2.out.wr hw2 hb0)
      have HW3 := Lib.hid (HW2.out.trans hw2)
      clear hc2 hf2 hw2 HD2 HR2 HW2 hrV
      have c_D := HD3.out.cell
      have f_D := HD3.out.frozen
      have l_D := HD3.out.lt
      by_cases hv : v2 < 2
      · go_wp2_with fail
        have HD4 : Hid (Blk (w2.setCell ⟨w.heap.size + 1, 2, none⟩ (.int .i64 (-v2))) (w.heap.size + 1) 115 #[.int .i64 x0, .int .i64 x1, .int .i64 (-v2), .int .i64 x3]) := Lib.hid (HD3.out.set_ 2 _)
        have HR4 : Hid (Blk (w2.setCell ⟨w.heap.size + 1, 2, none⟩ (.int .i64 (-v2))) w.heap.size 115 #[.int .i64 0, .int .i64 0, .int .i64 0, .int .i64 0]) := Lib.hid (HR3.out.far (by dsimp only; omega) _)
        have HW4 : Hid (Wr w g (w2.setCell ⟨w.heap.size + 1, 2, none⟩ (.int .i64 (-v2)))) := Lib.hid (Wr.put HW3.out (by dsimp only; omega) _)
        have hr4 : IsRing wb (w2.setCell ⟨w.heap.size + 1, 2, none⟩ (.int .i64 (-v2))) g (B + 2 * ((2 : Nat) + 1 : Nat)) := IsRing.put (hr2.mono (by omega)) ⟨by dsimp only; omega, hb1⟩ _
        go_roundw
        case rel => exact ⟨2 + 1, _, _, _, _, by omega, by go_num, HD4, HR4, HW4, hr4⟩
        case measure => simp [intOf]
      · go_wp2_with fail
        go_roundw
        case rel => exact ⟨2 + 1, _, _, _, _, by omega, by go_num, HD3, HR3, HW3, hr2.mono (by omega)⟩
        case measure => simp [intOf]
    
    · have hgr := hrr.lt
      have c_D := HD.out.cell
      have f_D := HD.out.frozen
      have l_D := HD.out.lt
      go_wp2_with fail
      refine (Next_c wb g _ _ _ hrr (by omega) (by omega) (by omega)).mono ?_; rintro e w1 ⟨v1, rfl, va1, vb1, hw1, hr1⟩; obtain ⟨hc1, hf1, hz1⟩ := Wr.cells hw1; (try simp only [szA] at hz1); have hg1 := hr1.lt
      have HD1 := Lib.hid (HD.out.wr hw1 hb1)
      have HR1 := Lib.hid (HR.out.wr hw1 hb0)
      have HW1 := Lib.hid (HW.out.trans hw1)
      clear hc1 hf1 hw1 HD HR HW c_D f_D l_D hrr
      have c_D := HD1.out.cell
      have f_D := HD1.out.frozen
      have l_D := HD1.out.lt
      go_wp2_with fail
      have HD2 : Hid (Blk (w1.setCell ⟨w.heap.size + 1, 3, none⟩ (.int .i64 v1)) (w.heap.size + 1) 115 #[.int .i64 x0, .int .i64 x1, .int .i64 x2, .int .i64 v1]) := Lib.hid (HD1.out.set_ 3 _)
      have HR2 : Hid (Blk (w1.setCell ⟨w.heap.size + 1, 3, none⟩ (.int .i64 v1)) w.heap.size 115 #[.int .i64 0, .int .i64 0, .int .i64 0, .int .i64 0]) := Lib.hid (HR1.out.far (by dsimp only; omega) _)
      have HW2 : Hid (Wr w g (w1.setCell ⟨w.heap.size + 1, 3, none⟩ (.int .i64 v1))) := Lib.hid (Wr.put HW1.out (by dsimp only; omega) _)
      have hrV : IsRing wb (w1.setCell ⟨w.heap.size + 1, 3, none⟩ (.int .i64 v1)) g (B + 2 * 3 + 1) := IsRing.put (hr1.mono (by omega)) ⟨by dsimp only; omega, hb1⟩ _
      clear HD1 HR1 HW1 hr1 c_D f_D l_D hz1 hg1
      revert HD2 HR2 HW2 hrV
      generalize World.setCell _ _ _ = V1
      intro HD2 HR2 HW2 hrV
      have hgv := hrV.lt
      refine (Next_c wb g _ _ _ hrV (by omega) (by omega) (by omega)).mono ?_; rintro e w2 ⟨v2, rfl, va2, vb2, hw2, hr2⟩; obtain ⟨hc2, hf2, hz2⟩ := Wr.cells hw2; (try simp only [szA] at hz2); have hg2 := hr2.lt
      have HD3 := Lib.hid (HD2.out.wr hw2 hb1)
      have HR3 := Lib.hid (HR2.out.wr hw2 hb0)
      have HW3 := Lib.hid (HW2.out.trans hw2)
      clear hc2 hf2 hw2 HD2 HR2 HW2 hrV
      have c_D := HD3.out.cell
      have f_D := HD3.out.frozen
      have l_D := HD3.out.lt
      by_cases hv : v2 < 2
      · go_wp2_with fail
        have HD4 : Hid (Blk (w2.setCell ⟨w.heap.size + 1, 3, none⟩ (.int .i64 (-v2))) (w.heap.size + 1) 115 #[.int .i64 x0, .int .i64 x1, .int .i64 x2, .int .i64 (-v2)]) := Lib.hid (HD3.out.set_ 3 _)
        have HR4 : Hid (Blk (w2.setCell ⟨w.heap.size + 1, 3, none⟩ (.int .i64 (-v2))) w.heap.size 115 #[.int .i64 0, .int .i64 0, .int .i64 0, .int .i64 0]) := Lib.hid (HR3.out.far (by dsimp only; omega) _)
        have HW4 : Hid (Wr w g (w2.setCell ⟨w.heap.size + 1, 3, none⟩ (.int .i64 (-v2)))) := Lib.hid (Wr.put HW3.out (by dsimp only; omega) _)
        have hr4 : IsRing wb (w2.setCell ⟨w.heap.size + 1, 3, none⟩ (.int .i64 (-v2))) g (B + 2 * ((3 : Nat) + 1 : Nat)) := IsRing.put (hr2.mono (by omega)) ⟨by dsimp only; omega, hb1⟩ _
        go_roundw
        case rel => exact ⟨3 + 1, _, _, _, _, by omega, by go_num, HD4, HR4, HW4, hr4⟩
        case measure => simp [intOf]
      · go_wp2_with fail
        go_roundw
        case rel => exact ⟨3 + 1, _, _, _, _, by omega, by go_num, HD3, HR3, HW3, hr2.mono (by omega)⟩
        case measure => simp [intOf]
    
    · have c_D := HD.out.cell
      have l_D := HD.out.lt
      have c_R := HR.out.cell
      have f_R := HR.out.frozen
      have l_R := HR.out.lt
      (try dsimp only); repeat' (first | go_values | go_skip | go_guarded | go_step | go_upon | go_in | go_at_K)
      refine name_w _ ?_
      intro W9 hW9
      have R9 : Blk W9 w.heap.size 115 #[.int .i64 x0, .int .i64 x1, .int .i64 x2, .int .i64 x3] := by rw [hW9]; exact ((((HR.out.set_ 0 _).set_ 1 _).set_ 2 _).set_ 3 _)
      have K9 : Wr w g W9 := by
        rw [hW9]
        iterate 4 refine Wr.put ?_ (by dsimp only; omega) _
        exact HW.out
      have r9 : IsRing wb W9 g (B + 8) := by
        rw [hW9]
        iterate 4 refine IsRing.put ?_ ⟨by dsimp only; omega, hb0⟩ _
        exact hrr.mono (by omega)
      clear hW9 c_D l_D c_R f_R l_R HD HR HW hrr
      have c_R9 := R9.cell; have f_R9 := R9.frozen; have l_R9 := R9.lt
      (try simp only [Exit.inBlock, Exit.then]); apply bodyPost_ret; (focus (simp only [results, Tryz.results86]; go_simp; try rfl)); rfl
      exact ⟨_, _, _, _, rfl, K9, r9⟩
set_option maxRecDepth 4000 in
set_option maxHeartbeats 4000000 in
theorem StateIn_c (wb : World) (g : Nat) (B : Int) (b : Bx) (w : World) (hr : IsRing wb w g B) (hB : B ≤ 800000000) (hv : (-33554432 ≤ b.x.lo ∧ b.x.lo ≤ b.x.hi ∧ b.x.hi ≤ 33554432) ∧ (-33554432 ≤ b.y.lo ∧ b.y.lo ≤ b.y.hi ∧ b.y.hi ≤ 33554432) ∧ (-1048576 ≤ b.u.lo ∧ b.u.lo ≤ b.u.hi ∧ b.u.hi ≤ 1048576) ∧ -1048576 ≤ b.v.lo ∧ b.v.lo ≤ b.v.hi ∧ b.v.hi ≤ 1048576) :
    Calls Tryz.prog 84 #[.pointer (some ⟨g, 0, none⟩), bxV b] w fun e w' => ∃ x y u v, e = .returned (.agg #[.int .i64 x, .int .i64 y, .int .i64 u, .int .i64 v]) ∧ ((b.x.lo ≤ x ∧ x ≤ b.x.hi) ∧ (b.y.lo ≤ y ∧ y ≤ b.y.hi) ∧ (b.u.lo ≤ u ∧ u ≤ b.u.hi) ∧ b.v.lo ≤ v ∧ v ≤ b.v.hi) ∧ Wr w g w' ∧ IsRing wb w' g (B + 8) := by
  have hg := hr.lt
  have hge := hr.ge
  have hsz := hr.ext.size
  have hb0 : w.heap.size ≠ g := by omega
  have hb1 : w.heap.size + 1 ≠ g := by omega
  obtain ⟨⟨xl, xh⟩, ⟨yl, yh⟩, ⟨ul, uh⟩, vl, vh⟩ := b
  dsimp only at hv ⊢
  obtain ⟨⟨p1, p2, p3⟩, ⟨p4, p5, p6⟩, ⟨p7, p8, p9⟩, p10, p11, p12⟩ := hv
  go_enter Tryz.func84, Tryz.ntmps84
  go_wp2_with fail
  refine (func4_c wb g B _ (by (repeat' (first | assumption | apply IsRing.alloc | apply IsRing.drew | refine IsRing.put ?_ (by dsimp only; omega) _))) hB).mono ?_
  rintro e w1 ⟨n0, n1, n2, n3, rfl, hw1, hr1⟩
  have X1 : Blk w1 w.heap.size 38 #[.int .i64 xl, .int .i64 xh, .int .i64 yl, .int .i64 yh, .int .i64 ul, .int .i64 uh, .int .i64 vl, .int .i64 vh] := Blk.wr ((Blk.newAt rfl).alloc _) hw1 hb0
  have R1 : Blk w1 (w.heap.size + 1) 30 #[.int .i64 0, .int .i64 0, .int .i64 0, .int .i64 0] := Blk.wr (Blk.newAt (by simp)) hw1 hb1
  have K1 : Wr w g w1 := by (repeat' (first | exact Wr.refl _ _ | assumption | apply Wr.alloc | apply Wr.drew | refine Wr.put ?_ (by dsimp only; omega) _ | refine Wr.trans ?_ (by assumption)))
  have hg1 := hr1.lt
  clear hw1
  go_wp2_with fail
  refine name_w _ ?_
  intro V1 hV1
  obtain ⟨z1, hz1⟩ : ∃ z, z = w1.heap.size := ⟨_, rfl⟩
  have X2 : Blk V1 w.heap.size 38 #[.int .i64 xl, .int .i64 xh, .int .i64 yl, .int .i64 yh, .int .i64 ul, .int .i64 uh, .int .i64 vl, .int .i64 vh] := by rw [hV1]; exact X1.alloc _
  have R2 : Blk V1 (w.heap.size + 1) 30 #[.int .i64 0, .int .i64 0, .int .i64 0, .int .i64 0] := by rw [hV1]; exact R1.alloc _
  have N2 : Blk V1 z1 115 #[.int .i64 n0, .int .i64 n1, .int .i64 n2, .int .i64 n3] := by rw [hV1]; exact Blk.newAt hz1
  have K2 : Wr w g V1 := by rw [hV1]; exact K1.alloc _
  have r2 : IsRing wb V1 g (B + 8) := by rw [hV1]; exact hr1.alloc _
  have l1 := R1.lt
  have o1 : w.heap.size + 1 < z1 := by omega
  rw [← hz1]
  clear hV1 X1 R1 K1 hr1 hz1 l1
  have c_X2 := X2.cell; have f_X2 := X2.frozen; have l_X2 := X2.lt; have c_R2 := R2.cell; have f_R2 := R2.frozen; have l_R2 := R2.lt; have c_N2 := N2.cell; have f_N2 := N2.frozen; have l_N2 := N2.lt
  refine wp_region_forced 21 (Ext _) (Stable.ext _) (Ext.drew (Ext.refl _)) (by kernel_rfl) (by kernel_rfl) ?_
  simp only [List.take_succ_cons, List.take_zero, List.drop_succ_cons, List.drop_zero]
  repeat' (first | (refine bl_off (by rfl) ?_; simp only [putX]) | (apply bl_op; rfl; (intro w1 h1; obtain ⟨hc, hf, hz⟩ := bcell h1; go_simp; (try go_bits); (first | exact ⟨rfl, Ext.refl _⟩ | (apply gives_call; go_at_call 87; exact InSpan_c _ _ _ _ (by omega) (by omega)) | (go_invoke; go_simp; apply gives_call; go_at_call 87; exact InSpan_c _ _ _ _ (by omega) (by omega)))); simp only [putX]) | (refine bl_split rfl rfl (fun hx => ?_) (fun hx => ?_) <;> simp only [hx]))
  refine bl_nil ?_
  intro V2 hV2
  have R3 := R2.ext hV2
  have K3 := Wr.stable _ _ _ _ K2 hV2
  have r3 := r2.keep hV2
  clear c_X2 f_X2 l_X2 c_R2 f_R2 l_R2 c_N2 f_N2 l_N2
  clear X2 R2 N2 K2 r2
  have c_R3 := R3.cell; have f_R3 := R3.frozen; have l_R3 := R3.lt
  have i1 := inSpan_in n0 p2
  have i2 := inSpan_in n1 p5
  have i3 := inSpan_in n2 p8
  have i4 := inSpan_in n3 p11
  generalize inSpanM xl xh n0 = X at *
  generalize inSpanM yl yh n1 = Y at *
  generalize inSpanM ul uh n2 = U at *
  generalize inSpanM vl vh n3 = V at *
  (try dsimp only); repeat' (first | go_values | go_skip | go_guarded | go_step | go_upon | go_in | go_at_K)
  refine name_w _ ?_
  intro W9 hW9
  have R9 : Blk W9 (w.heap.size + 1) 30 #[.int .i64 X, .int .i64 Y, .int .i64 U, .int .i64 V] := by rw [hW9]; exact ((((R3.set_ 0 _).set_ 1 _).set_ 2 _).set_ 3 _)
  have K9 : Wr w g W9 := by
    rw [hW9]
    iterate 4 refine Wr.put ?_ (by dsimp only; omega) _
    exact K3
  have r9 : IsRing wb W9 g (B + 8) := by
    rw [hW9]
    iterate 4 refine IsRing.put ?_ ⟨by dsimp only; omega, hb1⟩ _
    exact r3
  clear c_R3 f_R3 l_R3
  clear hW9 R3 K3 r3
  have c_R9 := R9.cell; have f_R9 := R9.frozen; have l_R9 := R9.lt
  (try simp only [Exit.inBlock, Exit.then]); apply bodyPost_ret; (focus (simp only [results, Tryz.results84]; go_simp; try rfl)); rfl
  exact ⟨_, _, _, _, rfl, ⟨i1, i2, i3, i4⟩, K9, r9⟩
end Go.Proofs.YtfniicgoeljmdaaGreat
