/- OrbitSteps, walked: it returns true. No condition. OrbitSteps, lifted to what the statement says of a run. No condition. -/
import Derived.Test.YtfniicgoeljmdaaGreatRefProp
import Derived.Test.YtfniicgoeljmdaaGreatRefStepM
import Derived.Test.YtfniicgoeljmdaaGreatAwakeFour
import Derived.Test.YtfniicgoeljmdaaGreatOwnBoxes
import Derived.Test.YtfniicgoeljmdaaGreatOpen3
namespace Go.Proofs.YtfniicgoeljmdaaGreat
open Go.RowKit Go.ChangeShapes Go.WideShapes Go.ChangeAt

set_option maxRecDepth 20000 in
set_option maxHeartbeats 4000000 in
theorem OrbitSteps_c (A : Option Addr) (n c : Nat) (l : List Body) (home : Int) (d : Drf) (tick : Int) (b : Bx) (B : Option Addr) (m e : Nat) (L : List Bx) (ticks : Int) (w : World) (hl : Bodies w A n l) (hL : Bxs w B m L) (_ : m ≤ e) :
    Calls Tryz.prog 4 #[.agg #[.slice A n c, .int .i64 home], .agg #[.int .i64 d.light.lo, .int .i64 d.light.hi, .int .i64 d.heat.lo, .int .i64 d.heat.hi, .int .i64 d.gas], .int .i64 tick, .agg #[.int .i64 b.x.lo, .int .i64 b.x.hi, .int .i64 b.y.lo, .int .i64 b.y.hi, .int .i64 b.u.lo, .int .i64 b.u.hi, .int .i64 b.v.lo, .int .i64 b.v.hi], .slice B m e, .int .i64 ticks] w fun e w' => e = .returned (.bool true) ∧ Ext w w' := by
  have hm := hL.le
  have HA := Lib.hid fun W => awake4_c W
  have HB := Lib.hid fun W (hW : Ext w W) => BigWorld_c A n c home l W (Bodies.ext hW hl)
  have HLn := Lib.hid hL.len
  have HL := Lib.hid fun W (hW : Ext w W) => Bxs.ext hW hL
  have H1 := Lib.hid fun W (hW : Ext w W) => oStep_c A n c home tick W l d b (Bodies.ext hW hl)
  have G1 := Lib.hid fun W (hW : Ext w W) => rStep_c A n c home tick W l d b (Bodies.ext hW hl)
  have H2 := Lib.hid fun A' c' W (hW : Ext w W) (h : Bxs W A' m L) => oPropagate_c A n c home l d tick A' m c' L ticks W (Bodies.ext hW hl) h
  have G2 := Lib.hid fun W (hW : Ext w W) => rPropagate_c A n c home l d tick B m e L ticks W (Bodies.ext hW hl) (Bxs.ext hW hL)
  have HS := Lib.hid fun A' n' c' B' m' d' l' W => SameBoxes_c A' n' c' B' m' d' l' W
  generalize bigWld l = G at *
  by_cases hbig : G = true ∨ 12 < m ∨ (20 < ticks ∧ ticks ≤ 400)
  · rcases (show G = true ∨ (G = false ∧ 12 < m) ∨ (G = false ∧ m ≤ 12 ∧ 20 < ticks ∧ ticks ≤ 400) by cases G <;> simp at hbig ⊢ <;> omega) with rfl | ⟨rfl, h1⟩ | ⟨rfl, h1, h2, h3⟩
    all_goals clear hbig H1 G1 H2 G2 HS hl hL
    all_goals go_enter Tryz.func4, Tryz.ntmps4
    all_goals go_wp2_with fail
    all_goals refine (HB.out _ ext_by).mono ?_
    all_goals rintro e w1 ⟨rfl, h1⟩
    all_goals obtain ⟨hc_w1, hf_w1, hz_w1⟩ := bcell h1; (try simp only [szA] at hz_w1); (try have := wz0 w w1); (try have := wz1 w w1); (try have := wz2 w w1); (try have := wz3 w w1); (try have := wz4 w w1)
    all_goals go_wp2_with fail
    all_goals refine (HA.out _).mono ?_
    all_goals rintro e w2 ⟨rfl, h2⟩
    all_goals obtain ⟨hc_w2, hf_w2, hz_w2⟩ := bcell h2; (try simp only [szA] at hz_w2); (try have := wz0 w w2); (try have := wz1 w w2); (try have := wz2 w w2); (try have := wz3 w w2); (try have := wz4 w w2)
    all_goals go_wp2_with fail
    all_goals go_ret
    all_goals exact ⟨rfl, ext_by⟩
  · obtain ⟨rfl, h1, h3⟩ : G = false ∧ m ≤ 12 ∧ (ticks ≤ 20 ∨ 400 < ticks) := by cases G <;> simp at hbig ⊢ <;> omega
    have HO := Lib.hid fun W (hW : Ext w W) => OwnBoxes_c B m e L W (Bxs.ext hW hL) (by omega)
    generalize stepM l home d tick b = R at *
    generalize propErr l home d tick L ticks = e2 at *
    generalize propL l home d tick L ticks = L2 at *
    clear hbig hl hL
    obtain ⟨⟨⟨pl, ph⟩, ⟨ql, qh⟩, ⟨rl, rh⟩, sl, sh⟩, e1⟩ := R
    obtain ⟨⟨xl, xh⟩, ⟨yl, yh⟩, ⟨ul, uh⟩, vl, vh⟩ := b
    obtain ⟨⟨ll, lh⟩, ⟨hl', hh⟩, g⟩ := d
    dsimp only [bxRV] at H1 G1 H2 G2 ⊢
    rcases (show ticks ≤ 20 ∨ (20 < ticks ∧ 400 < ticks) by omega) with h4 | ⟨h4, h5⟩
    all_goals clear h3
    all_goals go_enter Tryz.func4, Tryz.ntmps4
    all_goals go_wp2_with fail
    all_goals refine (HB.out _ ext_by).mono ?_
    all_goals rintro e V1 ⟨rfl, hV1⟩
    all_goals have B6 : Blk V1 w.heap.size 24 #[.slice A n c, .int .i64 home] := (((Blk.newAt rfl).alloc _).alloc _).ext hV1
    all_goals have B7 : Blk V1 (w.heap.size + 1) 28 #[.int .i64 ll, .int .i64 lh, .int .i64 hl', .int .i64 hh, .int .i64 g] := ((Blk.newAt (by simp)).alloc _).ext hV1
    all_goals have B9 : Blk V1 (w.heap.size + 1 + 1) 38 #[.int .i64 xl, .int .i64 xh, .int .i64 yl, .int .i64 yh, .int .i64 ul, .int .i64 uh, .int .i64 vl, .int .i64 vh] := (Blk.newAt (by simp)).ext hV1
    all_goals have E : Ext w V1 := ext_by
    all_goals clear hV1 HB
    all_goals have c_B6 := B6.cell; have f_B6 := B6.frozen; have l_B6 := B6.lt; have c_B7 := B7.cell; have f_B7 := B7.frozen; have l_B7 := B7.lt; have c_B9 := B9.cell; have f_B9 := B9.frozen; have l_B9 := B9.lt
    all_goals go_wp2_with fail
    all_goals refine (HO.out _ E).mono ?_
    all_goals rintro e V2 ⟨v2, rfl, ho2, hV2⟩
    all_goals obtain ⟨A', c', rfl, hs2, _⟩ := ho2.cap
    all_goals rw [← HLn.out] at hs2 ⊢
    all_goals clear c_B6 f_B6 l_B6 c_B7 f_B7 l_B7 c_B9 f_B9 l_B9
    all_goals replace B6 := B6.ext hV2
    all_goals replace B7 := B7.ext hV2
    all_goals replace B9 := B9.ext hV2
    all_goals replace E := E.trans hV2
    all_goals have HOW := Lib.hid fun W (hW : Ext V2 W) => Bxs.ext hW hs2
    all_goals clear hV2 ho2 hs2 HO
    all_goals have c_B6 := B6.cell; have f_B6 := B6.frozen; have l_B6 := B6.lt; have c_B7 := B7.cell; have f_B7 := B7.frozen; have l_B7 := B7.lt; have c_B9 := B9.cell; have f_B9 := B9.frozen; have l_B9 := B9.lt
    all_goals go_wp2_with fail
    all_goals refine (H1.out _ E).mono ?_
    all_goals rintro e V3 ⟨rfl, hV3⟩
    all_goals clear c_B6 f_B6 l_B6 c_B7 f_B7 l_B7 c_B9 f_B9 l_B9
    all_goals replace B6 := B6.ext hV3
    all_goals replace B7 := B7.ext hV3
    all_goals replace B9 := B9.ext hV3
    all_goals replace E := E.trans hV3
    all_goals have HOW3 := Lib.hid fun W (hW : Ext V3 W) => HOW.out W (hV3.trans hW)
    all_goals clear hV3 HOW H1
    all_goals have c_B6 := B6.cell; have f_B6 := B6.frozen; have l_B6 := B6.lt; have c_B7 := B7.cell; have f_B7 := B7.frozen; have l_B7 := B7.lt; have c_B9 := B9.cell; have f_B9 := B9.frozen; have l_B9 := B9.lt
    all_goals go_wp2_with fail
    all_goals refine (G1.out _ ext_by).mono ?_
    all_goals rintro e V4 ⟨rfl, hV4⟩
    all_goals obtain ⟨q1, hq1⟩ : ∃ q, q = V3.heap.size := ⟨_, rfl⟩
    all_goals have F14 : Blk V4 q1 38 #[.int .i64 pl, .int .i64 ph, .int .i64 ql, .int .i64 qh, .int .i64 rl, .int .i64 rh, .int .i64 sl, .int .i64 sh] := (Blk.newAt hq1).ext hV4
    all_goals have h34 : Ext V3 V4 := Ext.trans ext_by hV4
    all_goals rw [← hq1]
    all_goals clear c_B6 f_B6 l_B6 c_B7 f_B7 l_B7 c_B9 f_B9 l_B9
    all_goals replace B6 := B6.ext h34
    all_goals replace B7 := B7.ext h34
    all_goals clear B9
    all_goals replace E := E.trans h34
    all_goals have HOW4 := Lib.hid fun W (hW : Ext V4 W) => HOW3.out W (h34.trans hW)
    all_goals clear hV4 h34 hq1 HOW3 G1
    all_goals have c_B6 := B6.cell; have f_B6 := B6.frozen; have l_B6 := B6.lt; have c_B7 := B7.cell; have f_B7 := B7.frozen; have l_B7 := B7.lt
    all_goals go_wp2_with fail
    all_goals refine (H2.out A' c' _ ext_by (HOW4.out _ ext_by)).mono ?_
    all_goals rintro e V5 ⟨v5, rfl, ho5, hV5⟩
    all_goals obtain ⟨A5, c5, rfl, hs5, _⟩ := ho5.cap
    all_goals obtain ⟨q2, hq2⟩ : ∃ q, q = V4.heap.size := ⟨_, rfl⟩
    all_goals have F16 : Blk V5 q2 38 #[.int .i64 pl, .int .i64 ph, .int .i64 ql, .int .i64 qh, .int .i64 rl, .int .i64 rh, .int .i64 sl, .int .i64 sh] := (Blk.newAt hq2).ext hV5
    all_goals have h45 : Ext V4 V5 := Ext.trans ext_by hV5
    all_goals rw [← hq2]
    all_goals clear c_B6 f_B6 l_B6 c_B7 f_B7 l_B7
    all_goals replace B6 := B6.ext h45
    all_goals replace B7 := B7.ext h45
    all_goals replace F14 := F14.ext h45
    all_goals replace E := E.trans h45
    all_goals have HOW5 := Lib.hid fun W (hW : Ext V5 W) => HOW4.out W (h45.trans hW)
    all_goals have HX5 := Lib.hid fun W (hW : Ext V5 W) => Bxs.ext hW hs5
    all_goals clear hV5 h45 hq2 HOW4 ho5 hs5 H2
    all_goals have c_B6 := B6.cell; have f_B6 := B6.frozen; have l_B6 := B6.lt; have c_B7 := B7.cell; have f_B7 := B7.frozen; have l_B7 := B7.lt
    all_goals go_wp2_with fail
    all_goals refine (G2.out _ E).mono ?_
    all_goals rintro e V6 ⟨v6, rfl, ho6, hV6⟩
    all_goals obtain ⟨A6, c6, rfl, hs6, _⟩ := ho6.cap
    all_goals clear c_B6 f_B6 l_B6 c_B7 f_B7 l_B7
    all_goals replace F14 := F14.ext hV6
    all_goals replace F16 := F16.ext hV6
    all_goals replace E := E.trans hV6
    all_goals have Q2 := Lib.hid fun W (hW : Ext V6 W) => HS.out _ _ c5 _ _ c6 _ W (HX5.out W (hV6.trans hW)) (Bxs.ext hW hs6)
    all_goals have Q3 := Lib.hid fun W (hW : Ext V6 W) => HS.out _ _ c' _ _ e _ W (HOW5.out W (hV6.trans hW)) (HL.out W (E.trans hW))
    all_goals clear hV6 ho6 hs6 HOW5 HX5 B6 B7 G2 HS HL
    all_goals have c_F14 := F14.cell; have f_F14 := F14.frozen; have l_F14 := F14.lt; have c_F16 := F16.cell; have f_F16 := F16.frozen; have l_F16 := F16.lt
    all_goals go_wp2_with fail
    all_goals refine (Q2.out _ ext_by).mono ?_
    all_goals rintro e w7 ⟨rfl, h7⟩
    all_goals obtain ⟨hc_w7, hf_w7, hz_w7⟩ := bcell h7; (try simp only [szA] at hz_w7); (try have := wz0 w w7); (try have := wz1 w w7); (try have := wz2 w w7); (try have := wz3 w w7); (try have := wz4 w w7)
    all_goals go_wp2_with fail
    all_goals refine (Q3.out _ ext_by).mono ?_
    all_goals rintro e w8 ⟨rfl, h8⟩
    all_goals obtain ⟨hc_w8, hf_w8, hz_w8⟩ := bcell h8; (try simp only [szA] at hz_w8); (try have := wz0 w w8); (try have := wz1 w w8); (try have := wz2 w w8); (try have := wz3 w w8); (try have := wz4 w w8)
    all_goals go_wp2_with fail
    all_goals refine (HA.out _).mono ?_
    all_goals rintro e w9 ⟨rfl, h9⟩
    all_goals obtain ⟨hc_w9, hf_w9, hz_w9⟩ := bcell h9; (try simp only [szA] at hz_w9); (try have := wz0 w w9); (try have := wz1 w w9); (try have := wz2 w w9); (try have := wz3 w w9); (try have := wz4 w w9)
    all_goals go_wp2_with fail
    all_goals go_ret
    all_goals exact ⟨rfl, ext_by⟩
end Go.Proofs.YtfniicgoeljmdaaGreat

namespace Go.Proofs.YtfniicgoeljmdaaGreat
open Go.RowKit Go.ChangeShapes Go.WideShapes Go.ChangeAt

set_option maxRecDepth 100000 in
set_option maxHeartbeats 1000000 in
theorem steps_lifted (os : Os) (started : os.Started) (H : Type) (enc : TypeId × Value → H) :
    ReturnsInHanded {} Tryz.checked os 4 .any (Rows.orbitStepsSpec.pre6 enc Tryz.prog Tryz.f4 Rows.orbitStepsRow.domain false) (Rows.orbitStepsSpec.post enc Tryz.prog Tryz.f4 false true false false) := by
  refine returnsInHanded_of_change (C := Tryz.checked) own started (by kernel_rfl) Tryz.func4
    (ChangeSpec.witness6 (enc := enc) (C := Tryz.checked) false ⟨#[], #[.agg #[.slice none 0 0, .int .i64 0], .agg #[.int .i64 0, .int .i64 0, .int .i64 0, .int .i64 0, .int .i64 0], .int .i64 0, .agg #[.int .i64 0, .int .i64 0, .int .i64 0, .int .i64 0, .int .i64 0, .int .i64 0, .int .i64 0, .int .i64 0], .slice none 0 0, .int .i64 0], []⟩ 8 (by kernel_rfl) (by kernel_rfl) (by kernel_rfl) (by kernel_rfl)) ?_
  intro W base args ds gs before hval0 hW _ _
  have hval : ∀ (j : Nat) t v, Tryz.f4.params[j]? = some t → args[j]? = some v → Value.okWide Tryz.prog W .any base t v := hval0
  have hW' := hW
  obtain ⟨p, q, hA0, hV, rfl, hfz, hnd⟩ := hW
  have hA : DataW.TrodAll enc Tryz.prog W 0 (fun _ => true) true Tryz.f4.params.toList args.toList ds p := hA0
  rw [Tryz.params4] at hA hval
  obtain ⟨v0, vs0, d0, ds0, p0, q0, hargs, rfl, rfl, h0, r0⟩ := trodAll_cons hA
  obtain ⟨v1, vs1, d1, ds1, p1, q1, rfl, rfl, rfl, h1, r1⟩ := trodAll_cons r0
  obtain ⟨v2, vs2, d2, ds2, p2, q2, rfl, rfl, rfl, h2, r2⟩ := trodAll_cons r1
  obtain ⟨v3, vs3, d3, ds3, p3, q3, rfl, rfl, rfl, h3, r3⟩ := trodAll_cons r2
  obtain ⟨v4, vs4, d4, ds4, p4, q4, rfl, rfl, rfl, h4, r4⟩ := trodAll_cons r3
  obtain ⟨v5, vs5, d5, ds5, p5, q5, rfl, rfl, rfl, h5, r5⟩ := trodAll_cons r4
  obtain ⟨rfl, rfl, rfl⟩ := trodAll_nil r5
  obtain ⟨rfl, rfl⟩ := trodVars_none hV
  obtain rfl : args = #[v0, v1, v2, v3, v4, v5] := by cases args; simp_all
  obtain ⟨cs0, rfl, _⟩ := okWide_struct Tryz.underlying24 (hval 0 _ v0 rfl rfl)
  obtain ⟨fuel0, h0⟩ := h0
  obtain ⟨A_0, n_0, c_0, l_0, home_0, e0, hl0⟩ := open_world h0
  obtain ⟨cs0⟩ := cs0
  obtain rfl : cs0 = _ := e0
  obtain ⟨cs1, rfl, _⟩ := okWide_struct Tryz.underlying28 (hval 1 _ v1 rfl rfl)
  obtain ⟨fuel1, h1⟩ := h1
  obtain ⟨x1, e1⟩ := open_drift h1
  obtain ⟨cs1⟩ := cs1
  obtain rfl : cs1 = _ := e1
  obtain ⟨m2, rfl⟩ := okWide_int Tryz.underlying2 (hval 2 _ v2 rfl rfl)
  obtain ⟨cs3, rfl, _⟩ := okWide_struct Tryz.underlying38 (hval 3 _ v3 rfl rfl)
  obtain ⟨fuel3, h3⟩ := h3
  obtain ⟨x3, e3⟩ := open_box h3
  obtain ⟨cs3⟩ := cs3
  obtain rfl : cs3 = _ := e3
  obtain ⟨A4, len4, cap4, rfl⟩ := okWide_slice Tryz.underlying39 (hval 4 _ v4 rfl rfl)
  obtain ⟨fuel4, h4⟩ := h4
  obtain ⟨A_4, n_4, c_4, l_4, e4, hl4, hc4⟩ := open_boxes h4
  injection e4 with e4 _; injection e4 with e4a e4b e4c; subst e4a e4b e4c
  obtain ⟨m5, rfl⟩ := okWide_int Tryz.underlying3 (hval 5 _ v5 rfl rfl)
  refine (OrbitSteps_c A_0 n_0 c_0 l_0 home_0 x1 _ x3 A4 len4 cap4 l_4 _ W hl0    hl4 hc4 ).mono fun e W' ⟨he, hb⟩ => ?_
  subst he
  exact ⟨_, rfl, law_post (by kernel_rfl) rfl rfl hW' rfl hb⟩

end Go.Proofs.YtfniicgoeljmdaaGreat
