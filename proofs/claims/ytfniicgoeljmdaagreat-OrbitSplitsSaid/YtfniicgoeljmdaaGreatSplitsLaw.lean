/- OrbitSplits, walked: it returns true. No condition. -/
import Derived.Test.YtfniicgoeljmdaaGreatRefCells
import Derived.Test.YtfniicgoeljmdaaGreatOpen3
import Derived.Test.YtfniicgoeljmdaaGreatCopyN
namespace Go.Proofs.YtfniicgoeljmdaaGreat
open Go.RowKit Go.ChangeShapes Go.WideShapes Go.ChangeAt

theorem splitV_ex (b : Bx) : ∃ L R k, splitV b = .tuple #[bxV L, bxV R, .bool k] := by
  unfold splitV
  split
  · exact ⟨_, _, _, rfl⟩
  · exact ⟨_, _, _, rfl⟩
set_option maxRecDepth 20000 in
set_option maxHeartbeats 4000000 in
theorem OrbitSplits_c (b : Bx) (n : Int) (w : World) :
    Calls Tryz.prog 7 #[.agg #[.int .i64 b.x.lo, .int .i64 b.x.hi, .int .i64 b.y.lo, .int .i64 b.y.hi, .int .i64 b.u.lo, .int .i64 b.u.hi, .int .i64 b.v.lo, .int .i64 b.v.hi], .int .i64 n] w fun e w' => e = .returned (.bool true) ∧ Ext w w' := by
  have HA := Lib.hid fun W => awake4_c W
  by_cases hbig : 100 < n ∧ n < 512
  · obtain ⟨h1, h2⟩ := hbig
    go_enter Tryz.func7, Tryz.ntmps7
    go_wp2_with fail
    refine (HA.out _).mono ?_
    rintro e w1 ⟨rfl, h1⟩
    obtain ⟨hc_w1, hf_w1, hz_w1⟩ := bcell h1; (repeat (first | rw [World.size_alloc] at hz_w1 | rw [World.size_drew] at hz_w1 | rw [World.size_setCell] at hz_w1)); (try (have : w.heap.size < w1.heap.size := (by omega))); (try (have : w.heap.size + 1 < w1.heap.size := (by omega))); (try (have : w.heap.size + 1 + 1 < w1.heap.size := (by omega))); (try (have : w.heap.size + 1 + 1 + 1 < w1.heap.size := (by omega))); (try (have : w.heap.size + 1 + 1 + 1 + 1 < w1.heap.size := (by omega)))
    go_wp2_with fail
    go_ret
    exact ⟨rfl, by (repeat' (first | exact Ext.refl _ | assumption | apply Ext.alloc | apply Ext.drew | refine Ext.set ?_ (by dsimp only; omega) _ | refine Ext.trans ?_ (by assumption)))⟩
  have HS := Lib.hid fun W => oSplit_c b W
  have GS := Lib.hid fun W => rSplit_c b W
  have HC := Lib.hid fun W => oCells_c b n W
  have GC := Lib.hid fun W => rCells_c b n W
  have HE := Lib.hid fun A n c B m d l W => SameBoxes_c A n c B m d l W
  obtain ⟨L, R, k, hs⟩ := splitV_ex b
  rw [hs] at HS GS
  clear hs
  generalize cellsErr b n = E at *
  generalize cellsL b n = T at *
  obtain ⟨⟨xl, xh⟩, ⟨yl, yh⟩, ⟨ul, uh⟩, vl, vh⟩ := b
  obtain ⟨⟨lxl, lxh⟩, ⟨lyl, lyh⟩, ⟨lul, luh⟩, lvl, lvh⟩ := L
  obtain ⟨⟨rxl, rxh⟩, ⟨ryl, ryh⟩, ⟨rul, ruh⟩, rvl, rvh⟩ := R
  dsimp only [bxV] at *
  rcases (show n ≤ 100 ∨ (100 < n ∧ 512 ≤ n) by omega) with h1 | ⟨h1, h2⟩
  all_goals clear hbig
  all_goals go_enter Tryz.func7, Tryz.ntmps7
  all_goals go_wp2_with fail
  all_goals (refine (HS.out _).mono ?_)
  all_goals rintro e V1 ⟨rfl, hV1⟩
  all_goals obtain ⟨g2, h2'⟩ : ∃ b, b = w.heap.size := ⟨_, rfl⟩
  all_goals have B2 : Blk V1 g2 38 #[.int .i64 xl, .int .i64 xh, .int .i64 yl, .int .i64 yh, .int .i64 ul, .int .i64 uh, .int .i64 vl, .int .i64 vh] := by rw [h2']; exact (Blk.new w _ _).ext hV1
  all_goals have E0 : Ext w V1 := by (repeat' (first | exact Ext.refl _ | assumption | apply Ext.alloc | apply Ext.drew | refine Ext.set ?_ (by dsimp only; omega) _ | refine Ext.trans ?_ (by assumption)))
  all_goals rw [← h2']
  all_goals clear h2' hV1
  all_goals have c_B2 := B2.cell; have f_B2 := B2.frozen; have l_B2 := B2.lt
  all_goals go_wp2_with fail
  all_goals (refine (GS.out _).mono ?_)
  all_goals rintro e V2 ⟨rfl, hV2⟩
  all_goals obtain ⟨g5, h5⟩ : ∃ b, b = V1.heap.size := ⟨_, rfl⟩
  all_goals have B5 : Blk V2 g5 38 #[.int .i64 lxl, .int .i64 lxh, .int .i64 lyl, .int .i64 lyh, .int .i64 lul, .int .i64 luh, .int .i64 lvl, .int .i64 lvh] := by rw [h5]; exact ((Blk.new V1 _ _).alloc _).ext hV2
  all_goals have B6 : Blk V2 (g5 + 1) 38 #[.int .i64 rxl, .int .i64 rxh, .int .i64 ryl, .int .i64 ryh, .int .i64 rul, .int .i64 ruh, .int .i64 rvl, .int .i64 rvh] := by rw [h5]; exact (Blk.newAt (by simp)).ext hV2
  all_goals clear c_B2 f_B2 l_B2
  all_goals replace B2 := ((B2.alloc _).alloc _).ext hV2
  all_goals replace E0 : Ext w V2 := Ext.trans (by (repeat' (first | exact Ext.refl _ | assumption | apply Ext.alloc | apply Ext.drew | refine Ext.set ?_ (by dsimp only; omega) _ | refine Ext.trans ?_ (by assumption)))) hV2
  all_goals rw [← h5]
  all_goals clear hV2 h5
  all_goals have c_B2 := B2.cell; have f_B2 := B2.frozen; have l_B2 := B2.lt; have c_B5 := B5.cell; have f_B5 := B5.frozen; have l_B5 := B5.lt; have c_B6 := B6.cell; have f_B6 := B6.frozen; have l_B6 := B6.lt
  all_goals go_wp2_with fail
  all_goals (refine (HC.out _).mono ?_)
  all_goals rintro e V3 ⟨A, c, rfl, hA, _, hV3⟩
  all_goals obtain ⟨g8, h8⟩ : ∃ b, b = V2.heap.size := ⟨_, rfl⟩
  all_goals have B8 : Blk V3 g8 38 #[.int .i64 lxl, .int .i64 lxh, .int .i64 lyl, .int .i64 lyh, .int .i64 lul, .int .i64 luh, .int .i64 lvl, .int .i64 lvh] := by rw [h8]; exact ((Blk.new V2 _ _).alloc _).ext hV3
  all_goals have B9 : Blk V3 (g8 + 1) 38 #[.int .i64 rxl, .int .i64 rxh, .int .i64 ryl, .int .i64 ryh, .int .i64 rul, .int .i64 ruh, .int .i64 rvl, .int .i64 rvh] := by rw [h8]; exact (Blk.newAt (by simp)).ext hV3
  all_goals clear c_B2 f_B2 l_B2 c_B5 f_B5 l_B5 c_B6 f_B6 l_B6
  all_goals replace B2 := ((B2.alloc _).alloc _).ext hV3
  all_goals replace B5 := ((B5.alloc _).alloc _).ext hV3
  all_goals replace B6 := ((B6.alloc _).alloc _).ext hV3
  all_goals replace E0 : Ext w V3 := Ext.trans (by (repeat' (first | exact Ext.refl _ | assumption | apply Ext.alloc | apply Ext.drew | refine Ext.set ?_ (by dsimp only; omega) _ | refine Ext.trans ?_ (by assumption)))) hV3
  all_goals rw [← h8]
  all_goals clear hV3 h8
  all_goals have c_B2 := B2.cell; have f_B2 := B2.frozen; have l_B2 := B2.lt; have c_B5 := B5.cell; have f_B5 := B5.frozen; have l_B5 := B5.lt; have c_B6 := B6.cell; have f_B6 := B6.frozen; have l_B6 := B6.lt; have c_B8 := B8.cell; have f_B8 := B8.frozen; have l_B8 := B8.lt; have c_B9 := B9.cell; have f_B9 := B9.frozen; have l_B9 := B9.lt
  all_goals go_wp2_with fail
  all_goals (refine (GC.out _).mono ?_)
  all_goals rintro e V4 ⟨B, d, rfl, hB, _, hV4⟩
  all_goals clear c_B2 f_B2 l_B2 c_B5 f_B5 l_B5 c_B6 f_B6 l_B6 c_B8 f_B8 l_B8 c_B9 f_B9 l_B9
  all_goals replace B5 := B5.ext hV4
  all_goals replace B6 := B6.ext hV4
  all_goals replace B8 := B8.ext hV4
  all_goals replace B9 := B9.ext hV4
  all_goals replace E0 : Ext w V4 := Ext.trans (by (repeat' (first | exact Ext.refl _ | assumption | apply Ext.alloc | apply Ext.drew | refine Ext.set ?_ (by dsimp only; omega) _ | refine Ext.trans ?_ (by assumption)))) hV4
  all_goals have HQ := Lib.hid fun W (hW : Ext V4 W) => HE.out A T.length c B T.length d T W (Bxs.ext (hV4.trans hW) hA) (Bxs.ext hW hB)
  all_goals clear hV4 HE HS GS HC GC B2 hA hB
  all_goals have c_B5 := B5.cell; have f_B5 := B5.frozen; have l_B5 := B5.lt; have c_B6 := B6.cell; have f_B6 := B6.frozen; have l_B6 := B6.lt; have c_B8 := B8.cell; have f_B8 := B8.frozen; have l_B8 := B8.lt; have c_B9 := B9.cell; have f_B9 := B9.frozen; have l_B9 := B9.lt
  all_goals go_wp2_with fail
  all_goals (refine (HQ.out _ (by (repeat' (first | exact Ext.refl _ | assumption | apply Ext.alloc | apply Ext.drew | refine Ext.set ?_ (by dsimp only; omega) _ | refine Ext.trans ?_ (by assumption))))).mono ?_)
  all_goals rintro e V5 ⟨rfl, hV5⟩
  all_goals clear c_B5 f_B5 l_B5 c_B6 f_B6 l_B6 c_B8 f_B8 l_B8 c_B9 f_B9 l_B9
  all_goals clear B5 B6 B8 B9
  all_goals go_wp2_with fail
  all_goals refine (HA.out _).mono ?_
  all_goals rintro e w6 ⟨rfl, h6⟩
  all_goals obtain ⟨hc_w6, hf_w6, hz_w6⟩ := bcell h6; (repeat (first | rw [World.size_alloc] at hz_w6 | rw [World.size_drew] at hz_w6 | rw [World.size_setCell] at hz_w6)); (try (have : w.heap.size < w6.heap.size := (by omega))); (try (have : w.heap.size + 1 < w6.heap.size := (by omega))); (try (have : w.heap.size + 1 + 1 < w6.heap.size := (by omega))); (try (have : w.heap.size + 1 + 1 + 1 < w6.heap.size := (by omega))); (try (have : w.heap.size + 1 + 1 + 1 + 1 < w6.heap.size := (by omega)))
  all_goals go_wp2_with fail
  all_goals go_ret
  all_goals exact ⟨rfl, by (repeat' (first | exact Ext.refl _ | assumption | apply Ext.alloc | apply Ext.drew | refine Ext.set ?_ (by dsimp only; omega) _ | refine Ext.trans ?_ (by assumption)))⟩
end Go.Proofs.YtfniicgoeljmdaaGreat
