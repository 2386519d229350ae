/- Possible successors made of numbers. No condition. -/
import Derived.Test.YtfniicgoeljmdaaGreatMadeFour
import Derived.Test.YtfniicgoeljmdaaGreatRefOver
import Derived.Test.YtfniicgoeljmdaaGreatSplit
namespace Go.Proofs.YtfniicgoeljmdaaGreat
open Go.RowKit

theorem over_bd {l : List Body} {home : Int} {d : Drf} {tick : Int} {a : Ar} (h : wdErr l home d = 0) : SmA 3000000000000000 (overM l home d tick a).a := by
  unfold overM
  split
  · exact (overA_sm h).mono (by omega)
  · unfold SmA Sm; dsimp only; omega
set_option maxRecDepth 4000 in
set_option maxHeartbeats 4000000 in
theorem SuccessorOf_c (wb : World) (g : Nat) (B : Int) (A : Option Addr) (n c : Nat) (home : Int) (l : List Body) (d : Drf) (tick x y u v : Int) (w : World) (hr : IsRing wb w g B) (hB : B ≤ 800000000) (hl : Bodies w A n l) (hd : wdErr l home d = 0)
    (hb : (-1000000000000000000 ≤ x ∧ x ≤ 1000000000000000000) ∧ (-1000000000000000000 ≤ y ∧ y ≤ 1000000000000000000) ∧ (-1000000000000000000 ≤ u ∧ u ≤ 1000000000000000000) ∧ -1000000000000000000 ≤ v ∧ v ≤ 1000000000000000000) :
    Calls Tryz.prog 29 #[.pointer (some ⟨g, 0, none⟩), .agg #[.slice A n c, .int .i64 home], .agg #[.int .i64 d.light.lo, .int .i64 d.light.hi, .int .i64 d.heat.lo, .int .i64 d.heat.hi, .int .i64 d.gas], .int .i64 tick, .agg #[.int .i64 x, .int .i64 y, .int .i64 u, .int .i64 v]] w fun e w' =>
      ∃ x' y' u' v', e = .returned (.agg #[.int .i64 x', .int .i64 y', .int .i64 u', .int .i64 v']) ∧ (((overM l home d tick ⟨⟨x, x⟩, ⟨y, y⟩⟩).a.x.lo ≤ u' - u ∧ u' - u ≤ (overM l home d tick ⟨⟨x, x⟩, ⟨y, y⟩⟩).a.x.hi) ∧ ((overM l home d tick ⟨⟨x, x⟩, ⟨y, y⟩⟩).a.y.lo ≤ v' - v ∧ v' - v ≤ (overM l home d tick ⟨⟨x, x⟩, ⟨y, y⟩⟩).a.y.hi) ∧ x' = x + u' ∧ y' = y + v') ∧ Wr w g w' ∧ IsRing wb w' g (B + 8) := by
  have hg := hr.lt
  have hge := hr.ge
  have hsz := hr.ext.size
  have HP := Lib.hid fun W (hW : Ext w W) => gPullAt_c A n c home l d tick x y W (Bodies.ext hW hl)
  have ho := over_bd (tick := tick) (a := ⟨⟨x, x⟩, ⟨y, y⟩⟩) hd
  generalize overM l home d tick ⟨⟨x, x⟩, ⟨y, y⟩⟩ = R at *
  obtain ⟨⟨⟨al, ah⟩, bl, bh⟩, E⟩ := R
  obtain ⟨⟨ll, lh⟩, ⟨el, eh⟩, gs⟩ := d
  unfold SmA Sm at ho
  dsimp only at ho HP ⊢
  obtain ⟨⟨o1, o2, o3⟩, o4, o5, o6⟩ := ho
  obtain ⟨⟨x1, x2⟩, ⟨y1, y2⟩, ⟨u1, u2⟩, v1, v2⟩ := hb
  have hb3 : w.heap.size + 1 + 1 + 1 ≠ g := by omega
  clear hl hd
  go_enter Tryz.func29, Tryz.ntmps29
  go_wp2_with fail
  refine (HP.out _ ext_by).mono ?_
  rintro e w1 ⟨rfl, h1⟩
  have E1 : Ext w w1 := ext_by
  have S1 : Blk w1 (w.heap.size + 1 + 1) 30 #[.int .i64 x, .int .i64 y, .int .i64 u, .int .i64 v] := ((Blk.newAt (by simp)).alloc _).ext h1
  have R1 : Blk w1 (w.heap.size + 1 + 1 + 1) 30 #[.int .i64 0, .int .i64 0, .int .i64 0, .int .i64 0] := (Blk.newAt (by simp)).ext h1
  clear h1 HP
  have l1 := R1.lt
  go_wp2_with fail
  obtain ⟨V1, hV1⟩ : ∃ W, W = w1.alloc (.cells #[.int .i64 al, .int .i64 ah, .int .i64 bl, .int .i64 bh] 112) := ⟨_, rfl⟩
  rw [← hV1]
  obtain ⟨z1, hz1⟩ : ∃ z, z = w1.heap.size := ⟨_, rfl⟩
  have A2 : Blk V1 z1 112 #[.int .i64 al, .int .i64 ah, .int .i64 bl, .int .i64 bh] := by rw [hV1]; exact Blk.newAt hz1
  have S2 : Blk V1 (w.heap.size + 1 + 1) 30 #[.int .i64 x, .int .i64 y, .int .i64 u, .int .i64 v] := by rw [hV1]; exact S1.alloc _
  have R2 : Blk V1 (w.heap.size + 1 + 1 + 1) 30 #[.int .i64 0, .int .i64 0, .int .i64 0, .int .i64 0] := by rw [hV1]; exact R1.alloc _
  have E2 : Ext w V1 := by rw [hV1]; exact ext_by
  have zz1 : w.heap.size + 1 + 1 + 1 < z1 := by omega
  have zg1 : z1 ≠ g := by omega
  have sg : w.heap.size + 1 + 1 ≠ g := by omega
  rw [← hz1]
  clear hV1 hz1 S1 R1 E1 l1
  refine (func4_c wb g B V1 (hr.keep E2) hB).mono ?_
  rintro e w2 ⟨n0, n1, n2, n3, rfl, hw2, hr2⟩
  have A3 := A2.wr hw2 zg1
  have S3 := S2.wr hw2 sg
  have R3 := R2.wr hw2 hb3
  have K3 := (Wr.of g E2).trans hw2
  have zz2 : z1 < w2.heap.size := by have := A3.lt; omega
  clear A2 S2 R2 E2 hw2 hr
  go_wp2_with fail
  refine name_w _ ?_
  intro V3 hV3
  obtain ⟨z3, hz3⟩ : ∃ z, z = w2.heap.size := ⟨_, rfl⟩
  have N4 : Blk V3 z3 115 #[.int .i64 n0, .int .i64 n1, .int .i64 n2, .int .i64 n3] := by rw [hV3]; exact Blk.newAt hz3
  have A4 : Blk V3 z1 112 #[.int .i64 al, .int .i64 ah, .int .i64 bl, .int .i64 bh] := by rw [hV3]; exact A3.alloc _
  have S4 : Blk V3 (w.heap.size + 1 + 1) 30 #[.int .i64 x, .int .i64 y, .int .i64 u, .int .i64 v] := by rw [hV3]; exact S3.alloc _
  have R4 : Blk V3 (w.heap.size + 1 + 1 + 1) 30 #[.int .i64 0, .int .i64 0, .int .i64 0, .int .i64 0] := by rw [hV3]; exact R3.alloc _
  have K4 : Wr w g V3 := by rw [hV3]; exact K3.alloc _
  have r4 : IsRing wb V3 g (B + 8) := by rw [hV3]; exact hr2.alloc _
  rw [← hz3]
  clear hV3 hz3 A3 S3 R3 K3 hr2 zz2
  have i1 := inSpan_in n0 o2
  have i2 := inSpan_in n1 o5
  obtain ⟨i11, i12⟩ := i1
  obtain ⟨i21, i22⟩ := i2
  have c_N4 := N4.cell; have f_N4 := N4.frozen; have l_N4 := N4.lt; have c_A4 := A4.cell; have f_A4 := A4.frozen; have l_A4 := A4.lt; have c_S4 := S4.cell; have f_S4 := S4.frozen; have l_S4 := S4.lt
  refine wp_region_text (by kernel_rfl) (by kernel_rfl) ?_
  (repeat' (first | (refine bl_off (by rfl) ?_; simp only [putX]) | (apply bl_op; rfl; (intro w1 h1; obtain ⟨hc, hf, hz⟩ := bcell h1; go_simp; (try go_bits); (first | exact ⟨rfl, Ext.refl _⟩ | (apply gives_call; go_at_call 87; exact InSpan_c _ _ _ _ (by omega) (by omega)) | (go_invoke; go_simp; apply gives_call; go_at_call 87; exact InSpan_c _ _ _ _ (by omega) (by omega)))); simp only [putX]) | (refine bl_split rfl rfl (fun hx => ?_) (fun hx => ?_) <;> simp only [hx])))
  refine bl_nil ?_
  intro w5 h5
  have S5 := S4.ext h5
  have R5 := R4.ext h5
  have K5 := Wr.stable _ _ _ _ K4 h5
  have r5 := r4.keep h5
  clear c_N4 f_N4 l_N4 c_A4 f_A4 l_A4 c_S4 f_S4 l_S4
  clear N4 A4 S4 R4 K4 r4 h5
  obtain ⟨U, hU⟩ : ∃ q, q = u + inSpanM al ah n0 := ⟨_, rfl⟩
  obtain ⟨V, hV⟩ : ∃ q, q = v + inSpanM bl bh n1 := ⟨_, rfl⟩
  rw [← hU, ← hV]
  generalize inSpanM al ah n0 = p1 at *
  generalize inSpanM bl bh n1 = p2 at *
  have bU : -2000000000000000000 ≤ U ∧ U ≤ 2000000000000000000 := by omega
  have bV : -2000000000000000000 ≤ V ∧ V ≤ 2000000000000000000 := by omega
  obtain ⟨bU1, bU2⟩ := bU
  obtain ⟨bV1, bV2⟩ := bV
  have HU := Lib.hid hU
  have HV := Lib.hid hV
  clear hU hV
  have c_S5 := S5.cell; have f_S5 := S5.frozen; have l_S5 := S5.lt; have c_R5 := R5.cell; have f_R5 := R5.frozen; have l_R5 := R5.lt
  (try dsimp only); repeat' (first | go_values | go_skip | go_guarded | go_step | go_upon | go_in | go_at_K)
  refine name_w _ ?_
  intro W9 hW9
  have R9 : Blk W9 (w.heap.size + 1 + 1 + 1) 30 #[.int .i64 (x + U), .int .i64 (y + V), .int .i64 U, .int .i64 V] := by rw [hW9]; exact ((((R5.set_ 0 _).set_ 1 _).set_ 2 _).set_ 3 _)
  have K9 : Wr w g W9 := by
    rw [hW9]
    iterate 4 refine Wr.put ?_ (by dsimp only; omega) _
    exact K5
  have r9 : IsRing wb W9 g (B + 8) := by
    rw [hW9]
    iterate 4 refine IsRing.put ?_ ⟨by dsimp only; omega, hb3⟩ _
    exact r5
  clear c_S5 f_S5 l_S5 c_R5 f_R5 l_R5
  clear hW9 S5 R5 K5 r5
  have c_R9 := R9.cell; have f_R9 := R9.frozen; have l_R9 := R9.lt
  (try simp only [Exit.inBlock, Exit.then]); apply bodyPost_ret; (focus (simp only [results, Tryz.results29]; go_simp; try rfl)); rfl
  exact ⟨_, _, _, _, rfl, ⟨by have := HU.out; omega, by have := HV.out; omega, rfl, rfl⟩, K9, r9⟩
end Go.Proofs.YtfniicgoeljmdaaGreat
