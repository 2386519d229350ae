/- The parts of a box: the reference's Split. No condition. -/
import Derived.Test.YtfniicgoeljmdaaGreatRefSplit
namespace Go.Proofs.YtfniicgoeljmdaaGreat
open Go.RowKit

set_option maxRecDepth 20000 in
set_option maxHeartbeats 4000000 in
theorem rSplit_no (b : Bx) (E p q : Int) (w : World) (hE : E ≠ 0 ∨ q = 0) (hC : ∀ W, Calls Tryz.prog 38 #[bxV b] W fun e w' => e = .returned (.int .i64 E) ∧ Ext W w')
    (hW : ∀ W, Calls Tryz.prog 100 #[bxV b] W fun e w' => e = .returned (.tuple #[.int .i64 p, .int .i64 q]) ∧ Ext W w') :
    Calls Tryz.prog 45 #[bxV b] w fun e w' => e = .returned (.tuple #[bxV zeroB, bxV zeroB, .bool false]) ∧ Ext w w' := by
  have HC := Lib.hid hC
  have HW := Lib.hid hW
  clear hC hW
  obtain ⟨⟨xl, xh⟩, ⟨yl, yh⟩, ⟨ul, uh⟩, vl, vh⟩ := b
  dsimp only [bxV] at HC HW ⊢
  have hc : (E != 0) = true ∨ (E = 0 ∧ q = 0) := by
    by_cases h : E = 0
    · right; exact ⟨h, by rcases hE with h1 | h1; exact absurd h h1; exact h1⟩
    · left; simpa using h
  clear hE
  rcases hc with hE | ⟨rfl, rfl⟩
  all_goals
    go_enter Tryz.func45, Tryz.ntmps45
    go_wp2_with fail
    refine (HW.out _).mono ?_
    rintro e w1 ⟨rfl, h1⟩
    have B1 : Blk w1 w.heap.size 38 #[.int .i64 xl, .int .i64 xh, .int .i64 yl, .int .i64 yh, .int .i64 ul, .int .i64 uh, .int .i64 vl, .int .i64 vh] := (((Blk.new w _ _).alloc _).alloc _).ext h1
    have G2 : Blk w1 (w.heap.size + 1) 38 #[.int .i64 0, .int .i64 0, .int .i64 0, .int .i64 0, .int .i64 0, .int .i64 0, .int .i64 0, .int .i64 0] := ((Blk.newAt (by simp)).alloc _).ext h1
    have G3 : Blk w1 (w.heap.size + 1 + 1) 38 #[.int .i64 0, .int .i64 0, .int .i64 0, .int .i64 0, .int .i64 0, .int .i64 0, .int .i64 0, .int .i64 0] := (Blk.newAt (by simp)).ext h1
    have GE : Ext w w1 := by (repeat' (first | exact Ext.refl _ | assumption | apply Ext.alloc | apply Ext.drew | refine Ext.set ?_ (by dsimp only; omega) _ | refine Ext.trans ?_ (by assumption)))
    clear h1
    have c_B1 := B1.cell; have f_B1 := B1.frozen; have l_B1 := B1.lt
    go_wp2_with fail
    refine (HC.out _).mono ?_
    rintro e w2 ⟨rfl, h2⟩
    replace G2 := G2.ext h2
    replace G3 := G3.ext h2
    replace GE := GE.trans h2
    clear c_B1 f_B1 l_B1
    clear h2 B1
    have c_G2 := G2.cell; have f_G2 := G2.frozen; have l_G2 := G2.lt; have c_G3 := G3.cell; have f_G3 := G3.frozen; have l_G3 := G3.lt
    (try dsimp only); repeat' (first | go_values | go_skip | go_guarded | go_step | go_upon | go_in | go_at_K)
    refine name_world _ ?_
    intro W9 hW9
    have Q2 : Blk W9 (w.heap.size + 1) 38 #[.int .i64 0, .int .i64 0, .int .i64 0, .int .i64 0, .int .i64 0, .int .i64 0, .int .i64 0, .int .i64 0] := by rw [hW9]; exact blk_far2 (blk_far2 (blk_far2 (blk_far2 (blk_set2 (blk_set2 (blk_set2 (blk_set2 G2 rfl) rfl) rfl) rfl) (by omega)) (by omega)) (by omega)) (by omega)
    have Q3 : Blk W9 (w.heap.size + 1 + 1) 38 #[.int .i64 0, .int .i64 0, .int .i64 0, .int .i64 0, .int .i64 0, .int .i64 0, .int .i64 0, .int .i64 0] := by rw [hW9]; exact blk_set2 (blk_set2 (blk_set2 (blk_set2 (blk_far2 (blk_far2 (blk_far2 (blk_far2 G3 (by omega)) (by omega)) (by omega)) (by omega)) rfl) rfl) rfl) rfl
    have QE : Ext w W9 := by rw [hW9]; exact ext_set2 (ext_set2 (ext_set2 (ext_set2 (ext_set2 (ext_set2 (ext_set2 (ext_set2 GE (by omega)) (by omega)) (by omega)) (by omega)) (by omega)) (by omega)) (by omega)) (by omega)
    clear hW9
    have c_Q2 := Q2.cell; have f_Q2 := Q2.frozen; have l_Q2 := Q2.lt; have c_Q3 := Q3.cell; have f_Q3 := Q3.frozen; have l_Q3 := Q3.lt
    (try simp only [Exit.inBlock, Exit.then]); apply bodyPost_ret; (focus (simp only [results, Tryz.results45]; go_simp; try rfl)); rfl
    exact ⟨rfl, QE⟩
set_option maxRecDepth 20000 in
set_option maxHeartbeats 4000000 in
theorem rSplit_wrong (b : Bx) (E : Int) (w : World) (hE : E ≠ 0) (hC : ∀ W, Calls Tryz.prog 38 #[bxV b] W fun e w' => e = .returned (.int .i64 E) ∧ Ext W w')
    (hW : ∀ W, Calls Tryz.prog 100 #[bxV b] W fun e w' => (∃ p q : Int, e = .returned (.tuple #[.int .i64 p, .int .i64 q])) ∧ Ext W w') :
    Calls Tryz.prog 45 #[bxV b] w fun e w' => e = .returned (.tuple #[bxV zeroB, bxV zeroB, .bool false]) ∧ Ext w w' := by
  have HC := Lib.hid hC
  have HW := Lib.hid hW
  clear hC hW
  obtain ⟨⟨xl, xh⟩, ⟨yl, yh⟩, ⟨ul, uh⟩, vl, vh⟩ := b
  dsimp only [bxV] at HC HW ⊢
  have hc : (E != 0) = true := by simpa using hE
  clear hE
  all_goals
    go_enter Tryz.func45, Tryz.ntmps45
    go_wp2_with fail
    refine (HW.out _).mono ?_
    rintro e w1 ⟨⟨p, q, rfl⟩, h1⟩
    have B1 : Blk w1 w.heap.size 38 #[.int .i64 xl, .int .i64 xh, .int .i64 yl, .int .i64 yh, .int .i64 ul, .int .i64 uh, .int .i64 vl, .int .i64 vh] := (((Blk.new w _ _).alloc _).alloc _).ext h1
    have G2 : Blk w1 (w.heap.size + 1) 38 #[.int .i64 0, .int .i64 0, .int .i64 0, .int .i64 0, .int .i64 0, .int .i64 0, .int .i64 0, .int .i64 0] := ((Blk.newAt (by simp)).alloc _).ext h1
    have G3 : Blk w1 (w.heap.size + 1 + 1) 38 #[.int .i64 0, .int .i64 0, .int .i64 0, .int .i64 0, .int .i64 0, .int .i64 0, .int .i64 0, .int .i64 0] := (Blk.newAt (by simp)).ext h1
    have GE : Ext w w1 := by (repeat' (first | exact Ext.refl _ | assumption | apply Ext.alloc | apply Ext.drew | refine Ext.set ?_ (by dsimp only; omega) _ | refine Ext.trans ?_ (by assumption)))
    clear h1
    have c_B1 := B1.cell; have f_B1 := B1.frozen; have l_B1 := B1.lt
    go_wp2_with fail
    refine (HC.out _).mono ?_
    rintro e w2 ⟨rfl, h2⟩
    replace G2 := G2.ext h2
    replace G3 := G3.ext h2
    replace GE := GE.trans h2
    clear c_B1 f_B1 l_B1
    clear h2 B1
    have c_G2 := G2.cell; have f_G2 := G2.frozen; have l_G2 := G2.lt; have c_G3 := G3.cell; have f_G3 := G3.frozen; have l_G3 := G3.lt
    (try dsimp only); repeat' (first | go_values | go_skip | go_guarded | go_step | go_upon | go_in | go_at_K)
    refine name_world _ ?_
    intro W9 hW9
    have Q2 : Blk W9 (w.heap.size + 1) 38 #[.int .i64 0, .int .i64 0, .int .i64 0, .int .i64 0, .int .i64 0, .int .i64 0, .int .i64 0, .int .i64 0] := by rw [hW9]; exact blk_far2 (blk_far2 (blk_far2 (blk_far2 (blk_set2 (blk_set2 (blk_set2 (blk_set2 G2 rfl) rfl) rfl) rfl) (by omega)) (by omega)) (by omega)) (by omega)
    have Q3 : Blk W9 (w.heap.size + 1 + 1) 38 #[.int .i64 0, .int .i64 0, .int .i64 0, .int .i64 0, .int .i64 0, .int .i64 0, .int .i64 0, .int .i64 0] := by rw [hW9]; exact blk_set2 (blk_set2 (blk_set2 (blk_set2 (blk_far2 (blk_far2 (blk_far2 (blk_far2 G3 (by omega)) (by omega)) (by omega)) (by omega)) rfl) rfl) rfl) rfl
    have QE : Ext w W9 := by rw [hW9]; exact ext_set2 (ext_set2 (ext_set2 (ext_set2 (ext_set2 (ext_set2 (ext_set2 (ext_set2 GE (by omega)) (by omega)) (by omega)) (by omega)) (by omega)) (by omega)) (by omega)) (by omega)
    clear hW9
    have c_Q2 := Q2.cell; have f_Q2 := Q2.frozen; have l_Q2 := Q2.lt; have c_Q3 := Q3.cell; have f_Q3 := Q3.frozen; have l_Q3 := Q3.lt
    (try simp only [Exit.inBlock, Exit.then]); apply bodyPost_ret; (focus (simp only [results, Tryz.results45]; go_simp; try rfl)); rfl
    exact ⟨rfl, QE⟩
set_option maxRecDepth 20000 in
set_option maxHeartbeats 8000000 in
theorem rSplit_0 (xl xh yl yh ul uh vl vh N pl ph ql qh : Int) (w : World) (hq : N ≠ 0) (hC : ∀ W, Calls Tryz.prog 38 #[.agg #[.int .i64 xl, .int .i64 xh, .int .i64 yl, .int .i64 yh, .int .i64 ul, .int .i64 uh, .int .i64 vl, .int .i64 vh]] W fun e w' => e = .returned (.int .i64 0) ∧ Ext W w')
    (hW : ∀ W, Calls Tryz.prog 100 #[.agg #[.int .i64 xl, .int .i64 xh, .int .i64 yl, .int .i64 yh, .int .i64 ul, .int .i64 uh, .int .i64 vl, .int .i64 vh]] W fun e w' => e = .returned (.tuple #[.int .i64 0, .int .i64 N]) ∧ Ext W w') (hK : ∀ W, Calls Tryz.prog 101 #[.agg #[.int .i64 xl, .int .i64 xh]] W fun e w' => e = .returned (.tuple #[.agg #[.int .i64 pl, .int .i64 ph], .agg #[.int .i64 ql, .int .i64 qh]]) ∧ Ext W w') :
    Calls Tryz.prog 45 #[.agg #[.int .i64 xl, .int .i64 xh, .int .i64 yl, .int .i64 yh, .int .i64 ul, .int .i64 uh, .int .i64 vl, .int .i64 vh]] w fun e w' => e = .returned (.tuple #[.agg #[.int .i64 pl, .int .i64 ph, .int .i64 yl, .int .i64 yh, .int .i64 ul, .int .i64 uh, .int .i64 vl, .int .i64 vh], .agg #[.int .i64 ql, .int .i64 qh, .int .i64 yl, .int .i64 yh, .int .i64 ul, .int .i64 uh, .int .i64 vl, .int .i64 vh], .bool true]) ∧ Ext w w' := by
  have HC := Lib.hid hC
  have HW := Lib.hid hW
  have HK := Lib.hid hK
  have hq0 : (N == 0) = false := by simpa using hq
  clear hC hW hK hq
  go_enter Tryz.func45, Tryz.ntmps45
  go_wp2_with fail
  refine (HW.out _).mono ?_
  rintro e w1 ⟨rfl, h1⟩
  have B1 : Blk w1 w.heap.size 38 #[.int .i64 xl, .int .i64 xh, .int .i64 yl, .int .i64 yh, .int .i64 ul, .int .i64 uh, .int .i64 vl, .int .i64 vh] := (((Blk.new w _ _).alloc _).alloc _).ext h1
  have G2 : Blk w1 (w.heap.size + 1) 38 #[.int .i64 0, .int .i64 0, .int .i64 0, .int .i64 0, .int .i64 0, .int .i64 0, .int .i64 0, .int .i64 0] := ((Blk.newAt (by simp)).alloc _).ext h1
  have G3 : Blk w1 (w.heap.size + 1 + 1) 38 #[.int .i64 0, .int .i64 0, .int .i64 0, .int .i64 0, .int .i64 0, .int .i64 0, .int .i64 0, .int .i64 0] := (Blk.newAt (by simp)).ext h1
  have E : Ext w w1 := by (repeat' (first | exact Ext.refl _ | assumption | apply Ext.alloc | apply Ext.drew | refine Ext.set ?_ (by dsimp only; omega) _ | refine Ext.trans ?_ (by assumption)))
  clear h1
  have c_B1 := B1.cell; have f_B1 := B1.frozen; have l_B1 := B1.lt; have c_G2 := G2.cell; have f_G2 := G2.frozen; have l_G2 := G2.lt; have c_G3 := G3.cell; have f_G3 := G3.frozen; have l_G3 := G3.lt
  go_wp2_with fail
  refine (HC.out _).mono ?_
  rintro e V2 ⟨rfl, hV2⟩
  clear c_B1 f_B1 l_B1
  replace B1 := B1.ext hV2
  clear c_G2 f_G2 l_G2
  replace G2 := G2.ext hV2
  clear c_G3 f_G3 l_G3
  replace G3 := G3.ext hV2
  replace E : Ext w V2 := Ext.trans (by (repeat' (first | exact Ext.refl _ | assumption | apply Ext.alloc | apply Ext.drew | refine Ext.set ?_ (by dsimp only; omega) _ | refine Ext.trans ?_ (by assumption)))) hV2
  clear hV2
  have c_B1 := B1.cell; have f_B1 := B1.frozen; have l_B1 := B1.lt; have c_G2 := G2.cell; have f_G2 := G2.frozen; have l_G2 := G2.lt; have c_G3 := G3.cell; have f_G3 := G3.frozen; have l_G3 := G3.lt
  go_wp2_with fail
  have l3 := G3.lt
  refine wp_region_gen [0, 1] [2, 3] [4, 5] (Ext _) (Ext _) (Stable.ext _) (fun _ h => h) (Ext.drew (Ext.refl _)) (by kernel_rfl) (by kernel_rfl) ?_; simp only [pick, List.drop_succ_cons, List.drop_zero]; (repeat' (first | (refine bl_off (by rfl) ?_; simp only [Act.put, List.setIfInBounds_toArray, List.set_cons_zero, List.set_cons_succ]) | (apply bl_op; rfl; (intro w1 h1; obtain ⟨hc, hf, hz⟩ := bcell h1; go_simp; (try go_bits); (first | exact ⟨rfl, Ext.refl _⟩ | (apply gives_call; fail) | (go_invoke; go_simp; apply gives_call; fail))); simp only [Act.put, List.setIfInBounds_toArray, List.set_cons_zero, List.set_cons_succ]) | (refine bl_split rfl rfl (fun hx => ?_) (fun hx => ?_) <;> simp only [hx]))); refine bl_nil ?_; refine ag_two (e1 := 38) (e2 := 38) (zs1 := #[.int .i64 0, .int .i64 0, .int .i64 0, .int .i64 0, .int .i64 0, .int .i64 0, .int .i64 0, .int .i64 0]) (zs2 := #[.int .i64 0, .int .i64 0, .int .i64 0, .int .i64 0, .int .i64 0, .int .i64 0, .int .i64 0, .int .i64 0]) (Stable.ext _) (fun _ h => h) (by decide) rfl rfl (fun u v => rfl) (fun v w => ⟨by simp only [opAt]; go_simp, by simp only [opAt]; go_simp⟩) (fun v w => ⟨by simp only [opAt]; go_simp, by simp only [opAt]; go_simp⟩) (fun g7 g8 hb_g7 hb_g8 hne_g7 => ?_); (try simp only [opAt]); (try simp only [Act.put, List.setIfInBounds_toArray]); refine tg_skip (fun w => Ext _ w ∧ Blk w g7 38 #[.int .i64 xl, .int .i64 xh, .int .i64 yl, .int .i64 yh, .int .i64 ul, .int .i64 uh, .int .i64 vl, .int .i64 vh] ∧ Blk w g8 38 #[.int .i64 0, .int .i64 0, .int .i64 0, .int .i64 0, .int .i64 0, .int .i64 0, .int .i64 0, .int .i64 0]) rfl rfl ((Stable.ext _).and ((Stable.blk _ _ _).and (Stable.blk _ _ _))) (fun _ h => h.1) (fun wx hx => ?_) ?_; (focus (obtain ⟨hx, hB1, hB2⟩ := hx; have hcB := hB1.cell; have hfB := hB1.frozen; have hlB := hB1.lt; refine ⟨_, (by go_simp; rfl), ?_⟩; have q0 : Blk (wx.setCell ⟨g7, 0, none⟩ (.int .i64 xl)) g7 38 #[.int .i64 xl, .int .i64 0, .int .i64 0, .int .i64 0, .int .i64 0, .int .i64 0, .int .i64 0, .int .i64 0] := hB1.set_ 0 _; have p0 : Ext _ (wx.setCell ⟨g7, 0, none⟩ (.int .i64 xl)) := Ext.set hx (by dsimp only; omega) _; have o0 := Blk.far (p := ⟨g7, 0, none⟩) hB2 (by dsimp only; omega) (.int .i64 xl); have q1 : Blk ((wx.setCell ⟨g7, 0, none⟩ (.int .i64 xl)).setCell ⟨g7, 1, none⟩ (.int .i64 xh)) g7 38 #[.int .i64 xl, .int .i64 xh, .int .i64 0, .int .i64 0, .int .i64 0, .int .i64 0, .int .i64 0, .int .i64 0] := q0.set_ 1 _; have p1 : Ext _ ((wx.setCell ⟨g7, 0, none⟩ (.int .i64 xl)).setCell ⟨g7, 1, none⟩ (.int .i64 xh)) := Ext.set p0 (by dsimp only; omega) _; have o1 := Blk.far (p := ⟨g7, 1, none⟩) o0 (by dsimp only; omega) (.int .i64 xh); have q2 : Blk (((wx.setCell ⟨g7, 0, none⟩ (.int .i64 xl)).setCell ⟨g7, 1, none⟩ (.int .i64 xh)).setCell ⟨g7, 2, none⟩ (.int .i64 yl)) g7 38 #[.int .i64 xl, .int .i64 xh, .int .i64 yl, .int .i64 0, .int .i64 0, .int .i64 0, .int .i64 0, .int .i64 0] := q1.set_ 2 _; have p2 : Ext _ (((wx.setCell ⟨g7, 0, none⟩ (.int .i64 xl)).setCell ⟨g7, 1, none⟩ (.int .i64 xh)).setCell ⟨g7, 2, none⟩ (.int .i64 yl)) := Ext.set p1 (by dsimp only; omega) _; have o2 := Blk.far (p := ⟨g7, 2, none⟩) o1 (by dsimp only; omega) (.int .i64 yl); have q3 : Blk ((((wx.setCell ⟨g7, 0, none⟩ (.int .i64 xl)).setCell ⟨g7, 1, none⟩ (.int .i64 xh)).setCell ⟨g7, 2, none⟩ (.int .i64 yl)).setCell ⟨g7, 3, none⟩ (.int .i64 yh)) g7 38 #[.int .i64 xl, .int .i64 xh, .int .i64 yl, .int .i64 yh, .int .i64 0, .int .i64 0, .int .i64 0, .int .i64 0] := q2.set_ 3 _; have p3 : Ext _ ((((wx.setCell ⟨g7, 0, none⟩ (.int .i64 xl)).setCell ⟨g7, 1, none⟩ (.int .i64 xh)).setCell ⟨g7, 2, none⟩ (.int .i64 yl)).setCell ⟨g7, 3, none⟩ (.int .i64 yh)) := Ext.set p2 (by dsimp only; omega) _; have o3 := Blk.far (p := ⟨g7, 3, none⟩) o2 (by dsimp only; omega) (.int .i64 yh); have q4 : Blk (((((wx.setCell ⟨g7, 0, none⟩ (.int .i64 xl)).setCell ⟨g7, 1, none⟩ (.int .i64 xh)).setCell ⟨g7, 2, none⟩ (.int .i64 yl)).setCell ⟨g7, 3, none⟩ (.int .i64 yh)).setCell ⟨g7, 4, none⟩ (.int .i64 ul)) g7 38 #[.int .i64 xl, .int .i64 xh, .int .i64 yl, .int .i64 yh, .int .i64 ul, .int .i64 0, .int .i64 0, .int .i64 0] := q3.set_ 4 _; have p4 : Ext _ (((((wx.setCell ⟨g7, 0, none⟩ (.int .i64 xl)).setCell ⟨g7, 1, none⟩ (.int .i64 xh)).setCell ⟨g7, 2, none⟩ (.int .i64 yl)).setCell ⟨g7, 3, none⟩ (.int .i64 yh)).setCell ⟨g7, 4, none⟩ (.int .i64 ul)) := Ext.set p3 (by dsimp only; omega) _; have o4 := Blk.far (p := ⟨g7, 4, none⟩) o3 (by dsimp only; omega) (.int .i64 ul); have q5 : Blk ((((((wx.setCell ⟨g7, 0, none⟩ (.int .i64 xl)).setCell ⟨g7, 1, none⟩ (.int .i64 xh)).setCell ⟨g7, 2, none⟩ (.int .i64 yl)).setCell ⟨g7, 3, none⟩ (.int .i64 yh)).setCell ⟨g7, 4, none⟩ (.int .i64 ul)).setCell ⟨g7, 5, none⟩ (.int .i64 uh)) g7 38 #[.int .i64 xl, .int .i64 xh, .int .i64 yl, .int .i64 yh, .int .i64 ul, .int .i64 uh, .int .i64 0, .int .i64 0] := q4.set_ 5 _; have p5 : Ext _ ((((((wx.setCell ⟨g7, 0, none⟩ (.int .i64 xl)).setCell ⟨g7, 1, none⟩ (.int .i64 xh)).setCell ⟨g7, 2, none⟩ (.int .i64 yl)).setCell ⟨g7, 3, none⟩ (.int .i64 yh)).setCell ⟨g7, 4, none⟩ (.int .i64 ul)).setCell ⟨g7, 5, none⟩ (.int .i64 uh)) := Ext.set p4 (by dsimp only; omega) _; have o5 := Blk.far (p := ⟨g7, 5, none⟩) o4 (by dsimp only; omega) (.int .i64 uh); have q6 : Blk (((((((wx.setCell ⟨g7, 0, none⟩ (.int .i64 xl)).setCell ⟨g7, 1, none⟩ (.int .i64 xh)).setCell ⟨g7, 2, none⟩ (.int .i64 yl)).setCell ⟨g7, 3, none⟩ (.int .i64 yh)).setCell ⟨g7, 4, none⟩ (.int .i64 ul)).setCell ⟨g7, 5, none⟩ (.int .i64 uh)).setCell ⟨g7, 6, none⟩ (.int .i64 vl)) g7 38 #[.int .i64 xl, .int .i64 xh, .int .i64 yl, .int .i64 yh, .int .i64 ul, .int .i64 uh, .int .i64 vl, .int .i64 0] := q5.set_ 6 _; have p6 : Ext _ (((((((wx.setCell ⟨g7, 0, none⟩ (.int .i64 xl)).setCell ⟨g7, 1, none⟩ (.int .i64 xh)).setCell ⟨g7, 2, none⟩ (.int .i64 yl)).setCell ⟨g7, 3, none⟩ (.int .i64 yh)).setCell ⟨g7, 4, none⟩ (.int .i64 ul)).setCell ⟨g7, 5, none⟩ (.int .i64 uh)).setCell ⟨g7, 6, none⟩ (.int .i64 vl)) := Ext.set p5 (by dsimp only; omega) _; have o6 := Blk.far (p := ⟨g7, 6, none⟩) o5 (by dsimp only; omega) (.int .i64 vl); have q7 : Blk ((((((((wx.setCell ⟨g7, 0, none⟩ (.int .i64 xl)).setCell ⟨g7, 1, none⟩ (.int .i64 xh)).setCell ⟨g7, 2, none⟩ (.int .i64 yl)).setCell ⟨g7, 3, none⟩ (.int .i64 yh)).setCell ⟨g7, 4, none⟩ (.int .i64 ul)).setCell ⟨g7, 5, none⟩ (.int .i64 uh)).setCell ⟨g7, 6, none⟩ (.int .i64 vl)).setCell ⟨g7, 7, none⟩ (.int .i64 vh)) g7 38 #[.int .i64 xl, .int .i64 xh, .int .i64 yl, .int .i64 yh, .int .i64 ul, .int .i64 uh, .int .i64 vl, .int .i64 vh] := q6.set_ 7 _; have p7 : Ext _ ((((((((wx.setCell ⟨g7, 0, none⟩ (.int .i64 xl)).setCell ⟨g7, 1, none⟩ (.int .i64 xh)).setCell ⟨g7, 2, none⟩ (.int .i64 yl)).setCell ⟨g7, 3, none⟩ (.int .i64 yh)).setCell ⟨g7, 4, none⟩ (.int .i64 ul)).setCell ⟨g7, 5, none⟩ (.int .i64 uh)).setCell ⟨g7, 6, none⟩ (.int .i64 vl)).setCell ⟨g7, 7, none⟩ (.int .i64 vh)) := Ext.set p6 (by dsimp only; omega) _; have o7 := Blk.far (p := ⟨g7, 7, none⟩) o6 (by dsimp only; omega) (.int .i64 vh); exact ⟨p7, q7, o7⟩)); refine tg_skip (fun w => Ext _ w ∧ Blk w g7 38 #[.int .i64 xl, .int .i64 xh, .int .i64 yl, .int .i64 yh, .int .i64 ul, .int .i64 uh, .int .i64 vl, .int .i64 vh] ∧ Blk w g8 38 #[.int .i64 xl, .int .i64 xh, .int .i64 yl, .int .i64 yh, .int .i64 ul, .int .i64 uh, .int .i64 vl, .int .i64 vh]) rfl rfl ((Stable.ext _).and ((Stable.blk _ _ _).and (Stable.blk _ _ _))) (fun _ h => h.1) (fun wx hx => ?_) ?_; (focus (obtain ⟨hx, hB1, hB2⟩ := hx; have hcB := hB2.cell; have hfB := hB2.frozen; have hlB := hB2.lt; refine ⟨_, (by go_simp; rfl), ?_⟩; have q0 : Blk (wx.setCell ⟨g8, 0, none⟩ (.int .i64 xl)) g8 38 #[.int .i64 xl, .int .i64 0, .int .i64 0, .int .i64 0, .int .i64 0, .int .i64 0, .int .i64 0, .int .i64 0] := hB2.set_ 0 _; have p0 : Ext _ (wx.setCell ⟨g8, 0, none⟩ (.int .i64 xl)) := Ext.set hx (by dsimp only; omega) _; have o0 := Blk.far (p := ⟨g8, 0, none⟩) hB1 (by dsimp only; omega) (.int .i64 xl); have q1 : Blk ((wx.setCell ⟨g8, 0, none⟩ (.int .i64 xl)).setCell ⟨g8, 1, none⟩ (.int .i64 xh)) g8 38 #[.int .i64 xl, .int .i64 xh, .int .i64 0, .int .i64 0, .int .i64 0, .int .i64 0, .int .i64 0, .int .i64 0] := q0.set_ 1 _; have p1 : Ext _ ((wx.setCell ⟨g8, 0, none⟩ (.int .i64 xl)).setCell ⟨g8, 1, none⟩ (.int .i64 xh)) := Ext.set p0 (by dsimp only; omega) _; have o1 := Blk.far (p := ⟨g8, 1, none⟩) o0 (by dsimp only; omega) (.int .i64 xh); have q2 : Blk (((wx.setCell ⟨g8, 0, none⟩ (.int .i64 xl)).setCell ⟨g8, 1, none⟩ (.int .i64 xh)).setCell ⟨g8, 2, none⟩ (.int .i64 yl)) g8 38 #[.int .i64 xl, .int .i64 xh, .int .i64 yl, .int .i64 0, .int .i64 0, .int .i64 0, .int .i64 0, .int .i64 0] := q1.set_ 2 _; have p2 : Ext _ (((wx.setCell ⟨g8, 0, none⟩ (.int .i64 xl)).setCell ⟨g8, 1, none⟩ (.int .i64 xh)).setCell ⟨g8, 2, none⟩ (.int .i64 yl)) := Ext.set p1 (by dsimp only; omega) _; have o2 := Blk.far (p := ⟨g8, 2, none⟩) o1 (by dsimp only; omega) (.int .i64 yl); have q3 : Blk ((((wx.setCell ⟨g8, 0, none⟩ (.int .i64 xl)).setCell ⟨g8, 1, none⟩ (.int .i64 xh)).setCell ⟨g8, 2, none⟩ (.int .i64 yl)).setCell ⟨g8, 3, none⟩ (.int .i64 yh)) g8 38 #[.int .i64 xl, .int .i64 xh, .int .i64 yl, .int .i64 yh, .int .i64 0, .int .i64 0, .int .i64 0, .int .i64 0] := q2.set_ 3 _; have p3 : Ext _ ((((wx.setCell ⟨g8, 0, none⟩ (.int .i64 xl)).setCell ⟨g8, 1, none⟩ (.int .i64 xh)).setCell ⟨g8, 2, none⟩ (.int .i64 yl)).setCell ⟨g8, 3, none⟩ (.int .i64 yh)) := Ext.set p2 (by dsimp only; omega) _; have o3 := Blk.far (p := ⟨g8, 3, none⟩) o2 (by dsimp only; omega) (.int .i64 yh); have q4 : Blk (((((wx.setCell ⟨g8, 0, none⟩ (.int .i64 xl)).setCell ⟨g8, 1, none⟩ (.int .i64 xh)).setCell ⟨g8, 2, none⟩ (.int .i64 yl)).setCell ⟨g8, 3, none⟩ (.int .i64 yh)).setCell ⟨g8, 4, none⟩ (.int .i64 ul)) g8 38 #[.int .i64 xl, .int .i64 xh, .int .i64 yl, .int .i64 yh, .int .i64 ul, .int .i64 0, .int .i64 0, .int .i64 0] := q3.set_ 4 _; have p4 : Ext _ (((((wx.setCell ⟨g8, 0, none⟩ (.int .i64 xl)).setCell ⟨g8, 1, none⟩ (.int .i64 xh)).setCell ⟨g8, 2, none⟩ (.int .i64 yl)).setCell ⟨g8, 3, none⟩ (.int .i64 yh)).setCell ⟨g8, 4, none⟩ (.int .i64 ul)) := Ext.set p3 (by dsimp only; omega) _; have o4 := Blk.far (p := ⟨g8, 4, none⟩) o3 (by dsimp only; omega) (.int .i64 ul); have q5 : Blk ((((((wx.setCell ⟨g8, 0, none⟩ (.int .i64 xl)).setCell ⟨g8, 1, none⟩ (.int .i64 xh)).setCell ⟨g8, 2, none⟩ (.int .i64 yl)).setCell ⟨g8, 3, none⟩ (.int .i64 yh)).setCell ⟨g8, 4, none⟩ (.int .i64 ul)).setCell ⟨g8, 5, none⟩ (.int .i64 uh)) g8 38 #[.int .i64 xl, .int .i64 xh, .int .i64 yl, .int .i64 yh, .int .i64 ul, .int .i64 uh, .int .i64 0, .int .i64 0] := q4.set_ 5 _; have p5 : Ext _ ((((((wx.setCell ⟨g8, 0, none⟩ (.int .i64 xl)).setCell ⟨g8, 1, none⟩ (.int .i64 xh)).setCell ⟨g8, 2, none⟩ (.int .i64 yl)).setCell ⟨g8, 3, none⟩ (.int .i64 yh)).setCell ⟨g8, 4, none⟩ (.int .i64 ul)).setCell ⟨g8, 5, none⟩ (.int .i64 uh)) := Ext.set p4 (by dsimp only; omega) _; have o5 := Blk.far (p := ⟨g8, 5, none⟩) o4 (by dsimp only; omega) (.int .i64 uh); have q6 : Blk (((((((wx.setCell ⟨g8, 0, none⟩ (.int .i64 xl)).setCell ⟨g8, 1, none⟩ (.int .i64 xh)).setCell ⟨g8, 2, none⟩ (.int .i64 yl)).setCell ⟨g8, 3, none⟩ (.int .i64 yh)).setCell ⟨g8, 4, none⟩ (.int .i64 ul)).setCell ⟨g8, 5, none⟩ (.int .i64 uh)).setCell ⟨g8, 6, none⟩ (.int .i64 vl)) g8 38 #[.int .i64 xl, .int .i64 xh, .int .i64 yl, .int .i64 yh, .int .i64 ul, .int .i64 uh, .int .i64 vl, .int .i64 0] := q5.set_ 6 _; have p6 : Ext _ (((((((wx.setCell ⟨g8, 0, none⟩ (.int .i64 xl)).setCell ⟨g8, 1, none⟩ (.int .i64 xh)).setCell ⟨g8, 2, none⟩ (.int .i64 yl)).setCell ⟨g8, 3, none⟩ (.int .i64 yh)).setCell ⟨g8, 4, none⟩ (.int .i64 ul)).setCell ⟨g8, 5, none⟩ (.int .i64 uh)).setCell ⟨g8, 6, none⟩ (.int .i64 vl)) := Ext.set p5 (by dsimp only; omega) _; have o6 := Blk.far (p := ⟨g8, 6, none⟩) o5 (by dsimp only; omega) (.int .i64 vl); have q7 : Blk ((((((((wx.setCell ⟨g8, 0, none⟩ (.int .i64 xl)).setCell ⟨g8, 1, none⟩ (.int .i64 xh)).setCell ⟨g8, 2, none⟩ (.int .i64 yl)).setCell ⟨g8, 3, none⟩ (.int .i64 yh)).setCell ⟨g8, 4, none⟩ (.int .i64 ul)).setCell ⟨g8, 5, none⟩ (.int .i64 uh)).setCell ⟨g8, 6, none⟩ (.int .i64 vl)).setCell ⟨g8, 7, none⟩ (.int .i64 vh)) g8 38 #[.int .i64 xl, .int .i64 xh, .int .i64 yl, .int .i64 yh, .int .i64 ul, .int .i64 uh, .int .i64 vl, .int .i64 vh] := q6.set_ 7 _; have p7 : Ext _ ((((((((wx.setCell ⟨g8, 0, none⟩ (.int .i64 xl)).setCell ⟨g8, 1, none⟩ (.int .i64 xh)).setCell ⟨g8, 2, none⟩ (.int .i64 yl)).setCell ⟨g8, 3, none⟩ (.int .i64 yh)).setCell ⟨g8, 4, none⟩ (.int .i64 ul)).setCell ⟨g8, 5, none⟩ (.int .i64 uh)).setCell ⟨g8, 6, none⟩ (.int .i64 vl)).setCell ⟨g8, 7, none⟩ (.int .i64 vh)) := Ext.set p6 (by dsimp only; omega) _; have o7 := Blk.far (p := ⟨g8, 7, none⟩) o6 (by dsimp only; omega) (.int .i64 vh); exact ⟨p7, o7, q7⟩)); refine tg_nil ?_; rintro W3 ⟨hE_W3, hB_g7, hB_g8⟩
  clear c_B1 f_B1 l_B1 c_G2 f_G2 l_G2 c_G3 f_G3 l_G3
  replace B1 := B1.ext hE_W3
  replace G2 := G2.ext hE_W3
  replace G3 := G3.ext hE_W3
  replace E := E.trans hE_W3
  simp only [Array.getD_eq_getD_getElem?, List.getElem?_toArray, List.getElem?_cons_succ, List.getElem?_cons_zero, Option.getD_some, List.setIfInBounds_toArray, List.set_cons_zero, List.set_cons_succ]
  have o1 : w.heap.size + 1 + 1 < g7 := by omega
  have o2 : w.heap.size + 1 + 1 < g8 := by omega
  clear hE_W3
  have c_B1 := B1.cell; have f_B1 := B1.frozen; have l_B1 := B1.lt
  go_wp2_with fail
  refine (HK.out _).mono ?_
  rintro e W4 ⟨rfl, h4⟩
  have A7 := hB_g7.ext h4
  have A8 := hB_g8.ext h4
  replace G2 := G2.ext h4
  replace G3 := G3.ext h4
  replace E := E.trans h4
  clear c_B1 f_B1 l_B1
  clear h4 B1 hB_g7 hB_g8
  have c_A7 := A7.cell; have f_A7 := A7.frozen; have l_A7 := A7.lt; have c_A8 := A8.cell; have f_A8 := A8.frozen; have l_A8 := A8.lt
  go_wp2_with fail
  refine name_world _ ?_
  intro W5 hW5
  have B7 : Blk W5 g7 38 #[.int .i64 pl, .int .i64 ph, .int .i64 yl, .int .i64 yh, .int .i64 ul, .int .i64 uh, .int .i64 vl, .int .i64 vh] := by rw [hW5]; exact blk_far2 (blk_set2 A7 rfl) (by omega)
  have B8 : Blk W5 g8 38 #[.int .i64 ql, .int .i64 qh, .int .i64 yl, .int .i64 yh, .int .i64 ul, .int .i64 uh, .int .i64 vl, .int .i64 vh] := by rw [hW5]; exact blk_set2 (blk_far2 A8 (by omega)) rfl
  replace G2 : Blk W5 (w.heap.size + 1) 38 #[.int .i64 0, .int .i64 0, .int .i64 0, .int .i64 0, .int .i64 0, .int .i64 0, .int .i64 0, .int .i64 0] := by rw [hW5]; exact blk_far2 (blk_far2 G2 (by omega)) (by omega)
  replace G3 : Blk W5 (w.heap.size + 1 + 1) 38 #[.int .i64 0, .int .i64 0, .int .i64 0, .int .i64 0, .int .i64 0, .int .i64 0, .int .i64 0, .int .i64 0] := by rw [hW5]; exact blk_far2 (blk_far2 G3 (by omega)) (by omega)
  replace E : Ext w W5 := by rw [hW5]; exact ext_set2 (ext_set2 E (by omega)) (by omega)
  clear c_A7 f_A7 l_A7 c_A8 f_A8 l_A8
  clear hW5 A7 A8
  have c_B7 := B7.cell; have f_B7 := B7.frozen; have l_B7 := B7.lt; have c_B8 := B8.cell; have f_B8 := B8.frozen; have l_B8 := B8.lt
  refine wp_region_tail 2 (fun v => Blk v g7 38 #[.int .i64 pl, .int .i64 ph, .int .i64 yl, .int .i64 yh, .int .i64 ul, .int .i64 uh, .int .i64 vl, .int .i64 vh] ∧ Blk v g8 38 #[.int .i64 ql, .int .i64 qh, .int .i64 yl, .int .i64 yh, .int .i64 ul, .int .i64 uh, .int .i64 vl, .int .i64 vh]) (fun v => (Blk v g7 38 #[.int .i64 pl, .int .i64 ph, .int .i64 yl, .int .i64 yh, .int .i64 ul, .int .i64 uh, .int .i64 vl, .int .i64 vh] ∧ Blk v g8 38 #[.int .i64 ql, .int .i64 qh, .int .i64 yl, .int .i64 yh, .int .i64 ul, .int .i64 uh, .int .i64 vl, .int .i64 vh]) ∧ Blk v (w.heap.size + 1) 38 #[.int .i64 0, .int .i64 0, .int .i64 0, .int .i64 0, .int .i64 0, .int .i64 0, .int .i64 0, .int .i64 0] ∧ Blk v (w.heap.size + 1 + 1) 38 #[.int .i64 0, .int .i64 0, .int .i64 0, .int .i64 0, .int .i64 0, .int .i64 0, .int .i64 0, .int .i64 0] ∧ Ext w v)
    (st5 _ _ _ _ _ _ _ _ _ _ _ _ _) (fun _ h => h.1) ⟨⟨B7.ext (Ext.drew (Ext.refl _)), B8.ext (Ext.drew (Ext.refl _))⟩, G2.ext (Ext.drew (Ext.refl _)), G3.ext (Ext.drew (Ext.refl _)), E.drew⟩ (by kernel_rfl) (by kernel_rfl) ?_
  clear c_B7 f_B7 l_B7 c_B8 f_B8 l_B8
  simp only [List.take_succ_cons, List.take_zero, List.drop_succ_cons, List.drop_zero]
  (repeat' (first | (refine bl_off (by rfl) ?_; simp only [Act.put, List.setIfInBounds_toArray, List.set_cons_zero, List.set_cons_succ]) | (apply bl_op; rfl; (intro w1 h1; obtain ⟨hA, hB⟩ := h1; have cA := hA.cell; have cB := hB.cell; have lA := hA.lt; have lB := hB.lt; go_simp; (try go_bits); (first | exact ⟨rfl, Ext.refl _⟩)); simp only [Act.put, List.setIfInBounds_toArray, List.set_cons_zero, List.set_cons_succ]) | (refine bl_split rfl rfl (fun hx => ?_) (fun hx => ?_) <;> simp only [hx])))
  refine bl_nil ?_
  refine tw_st (F' := fun v => (Blk v g7 38 #[.int .i64 pl, .int .i64 ph, .int .i64 yl, .int .i64 yh, .int .i64 ul, .int .i64 uh, .int .i64 vl, .int .i64 vh] ∧ Blk v g8 38 #[.int .i64 ql, .int .i64 qh, .int .i64 yl, .int .i64 yh, .int .i64 ul, .int .i64 uh, .int .i64 vl, .int .i64 vh]) ∧ Blk v (w.heap.size + 1) 38 #[.int .i64 pl, .int .i64 ph, .int .i64 yl, .int .i64 yh, .int .i64 ul, .int .i64 uh, .int .i64 vl, .int .i64 vh] ∧ Blk v (w.heap.size + 1 + 1) 38 #[.int .i64 0, .int .i64 0, .int .i64 0, .int .i64 0, .int .i64 0, .int .i64 0, .int .i64 0, .int .i64 0] ∧ Ext w v) rfl rfl (st5 _ _ _ _ _ _ _ _ _ _ _ _ _) (fun _ h => h.1) (fun w1 h1 => ?_) ?_
  · obtain ⟨⟨hA, hB⟩, h2, h3, hE⟩ := h1
    have c2 := h2.cell
    have f2 := h2.frozen
    have l2 := h2.lt
    refine ⟨_, (by go_simp; rfl), ?_⟩
    exact ⟨⟨blk_far2 (blk_far2 (blk_far2 (blk_far2 hA (by omega)) (by omega)) (by omega)) (by omega), blk_far2 (blk_far2 (blk_far2 (blk_far2 hB (by omega)) (by omega)) (by omega)) (by omega)⟩, blk_set2 (blk_set2 (blk_set2 (blk_set2 h2 rfl) rfl) rfl) rfl, blk_far2 (blk_far2 (blk_far2 (blk_far2 h3 (by omega)) (by omega)) (by omega)) (by omega), ext_set2 (ext_set2 (ext_set2 (ext_set2 hE (by omega)) (by omega)) (by omega)) (by omega)⟩
  refine tw_st (F' := fun v => (Blk v g7 38 #[.int .i64 pl, .int .i64 ph, .int .i64 yl, .int .i64 yh, .int .i64 ul, .int .i64 uh, .int .i64 vl, .int .i64 vh] ∧ Blk v g8 38 #[.int .i64 ql, .int .i64 qh, .int .i64 yl, .int .i64 yh, .int .i64 ul, .int .i64 uh, .int .i64 vl, .int .i64 vh]) ∧ Blk v (w.heap.size + 1) 38 #[.int .i64 pl, .int .i64 ph, .int .i64 yl, .int .i64 yh, .int .i64 ul, .int .i64 uh, .int .i64 vl, .int .i64 vh] ∧ Blk v (w.heap.size + 1 + 1) 38 #[.int .i64 ql, .int .i64 qh, .int .i64 yl, .int .i64 yh, .int .i64 ul, .int .i64 uh, .int .i64 vl, .int .i64 vh] ∧ Ext w v) rfl rfl (st5 _ _ _ _ _ _ _ _ _ _ _ _ _) (fun _ h => h.1) (fun w1 h1 => ?_) ?_
  · obtain ⟨⟨hA, hB⟩, h2, h3, hE⟩ := h1
    have c3 := h3.cell
    have f3 := h3.frozen
    have l3 := h3.lt
    refine ⟨_, (by go_simp; rfl), ?_⟩
    exact ⟨⟨blk_far2 (blk_far2 (blk_far2 (blk_far2 hA (by omega)) (by omega)) (by omega)) (by omega), blk_far2 (blk_far2 (blk_far2 (blk_far2 hB (by omega)) (by omega)) (by omega)) (by omega)⟩, blk_far2 (blk_far2 (blk_far2 (blk_far2 h2 (by omega)) (by omega)) (by omega)) (by omega), blk_set2 (blk_set2 (blk_set2 (blk_set2 h3 rfl) rfl) rfl) rfl, ext_set2 (ext_set2 (ext_set2 (ext_set2 hE (by omega)) (by omega)) (by omega)) (by omega)⟩
  refine ⟨rfl, fun w1 h1 => ⟨.bool true, w1, _, .inl (by go_simp), st5 _ _ _ _ _ _ _ _ _ _ _ _ _, fun _ h => h.1, h1, ?_⟩⟩
  refine tw_nil ?_
  rintro W9 ⟨_, Q2, Q3, QE⟩
  have c_Q2 := Q2.cell; have f_Q2 := Q2.frozen; have l_Q2 := Q2.lt; have c_Q3 := Q3.cell; have f_Q3 := Q3.frozen; have l_Q3 := Q3.lt
  go_wp2_with fail
  (try simp only [Exit.inBlock, Exit.then]); apply bodyPost_ret; (focus (simp only [results, Tryz.results45]; go_simp; try rfl)); rfl
  exact ⟨rfl, QE⟩
set_option maxRecDepth 20000 in
set_option maxHeartbeats 8000000 in
theorem rSplit_1 (xl xh yl yh ul uh vl vh N pl ph ql qh : Int) (w : World) (hq : N ≠ 0) (hC : ∀ W, Calls Tryz.prog 38 #[.agg #[.int .i64 xl, .int .i64 xh, .int .i64 yl, .int .i64 yh, .int .i64 ul, .int .i64 uh, .int .i64 vl, .int .i64 vh]] W fun e w' => e = .returned (.int .i64 0) ∧ Ext W w')
    (hW : ∀ W, Calls Tryz.prog 100 #[.agg #[.int .i64 xl, .int .i64 xh, .int .i64 yl, .int .i64 yh, .int .i64 ul, .int .i64 uh, .int .i64 vl, .int .i64 vh]] W fun e w' => e = .returned (.tuple #[.int .i64 1, .int .i64 N]) ∧ Ext W w') (hK : ∀ W, Calls Tryz.prog 101 #[.agg #[.int .i64 yl, .int .i64 yh]] W fun e w' => e = .returned (.tuple #[.agg #[.int .i64 pl, .int .i64 ph], .agg #[.int .i64 ql, .int .i64 qh]]) ∧ Ext W w') :
    Calls Tryz.prog 45 #[.agg #[.int .i64 xl, .int .i64 xh, .int .i64 yl, .int .i64 yh, .int .i64 ul, .int .i64 uh, .int .i64 vl, .int .i64 vh]] w fun e w' => e = .returned (.tuple #[.agg #[.int .i64 xl, .int .i64 xh, .int .i64 pl, .int .i64 ph, .int .i64 ul, .int .i64 uh, .int .i64 vl, .int .i64 vh], .agg #[.int .i64 xl, .int .i64 xh, .int .i64 ql, .int .i64 qh, .int .i64 ul, .int .i64 uh, .int .i64 vl, .int .i64 vh], .bool true]) ∧ Ext w w' := by
  have HC := Lib.hid hC
  have HW := Lib.hid hW
  have HK := Lib.hid hK
  have hq0 : (N == 0) = false := by simpa using hq
  clear hC hW hK hq
  go_enter Tryz.func45, Tryz.ntmps45
  go_wp2_with fail
  refine (HW.out _).mono ?_
  rintro e w1 ⟨rfl, h1⟩
  have B1 : Blk w1 w.heap.size 38 #[.int .i64 xl, .int .i64 xh, .int .i64 yl, .int .i64 yh, .int .i64 ul, .int .i64 uh, .int .i64 vl, .int .i64 vh] := (((Blk.new w _ _).alloc _).alloc _).ext h1
  have G2 : Blk w1 (w.heap.size + 1) 38 #[.int .i64 0, .int .i64 0, .int .i64 0, .int .i64 0, .int .i64 0, .int .i64 0, .int .i64 0, .int .i64 0] := ((Blk.newAt (by simp)).alloc _).ext h1
  have G3 : Blk w1 (w.heap.size + 1 + 1) 38 #[.int .i64 0, .int .i64 0, .int .i64 0, .int .i64 0, .int .i64 0, .int .i64 0, .int .i64 0, .int .i64 0] := (Blk.newAt (by simp)).ext h1
  have E : Ext w w1 := by (repeat' (first | exact Ext.refl _ | assumption | apply Ext.alloc | apply Ext.drew | refine Ext.set ?_ (by dsimp only; omega) _ | refine Ext.trans ?_ (by assumption)))
  clear h1
  have c_B1 := B1.cell; have f_B1 := B1.frozen; have l_B1 := B1.lt; have c_G2 := G2.cell; have f_G2 := G2.frozen; have l_G2 := G2.lt; have c_G3 := G3.cell; have f_G3 := G3.frozen; have l_G3 := G3.lt
  go_wp2_with fail
  refine (HC.out _).mono ?_
  rintro e V2 ⟨rfl, hV2⟩
  clear c_B1 f_B1 l_B1
  replace B1 := B1.ext hV2
  clear c_G2 f_G2 l_G2
  replace G2 := G2.ext hV2
  clear c_G3 f_G3 l_G3
  replace G3 := G3.ext hV2
  replace E : Ext w V2 := Ext.trans (by (repeat' (first | exact Ext.refl _ | assumption | apply Ext.alloc | apply Ext.drew | refine Ext.set ?_ (by dsimp only; omega) _ | refine Ext.trans ?_ (by assumption)))) hV2
  clear hV2
  have c_B1 := B1.cell; have f_B1 := B1.frozen; have l_B1 := B1.lt; have c_G2 := G2.cell; have f_G2 := G2.frozen; have l_G2 := G2.lt; have c_G3 := G3.cell; have f_G3 := G3.frozen; have l_G3 := G3.lt
  go_wp2_with fail
  have l3 := G3.lt
  refine wp_region_gen [0, 1] [2, 3] [4, 5] (Ext _) (Ext _) (Stable.ext _) (fun _ h => h) (Ext.drew (Ext.refl _)) (by kernel_rfl) (by kernel_rfl) ?_; simp only [pick, List.drop_succ_cons, List.drop_zero]; (repeat' (first | (refine bl_off (by rfl) ?_; simp only [Act.put, List.setIfInBounds_toArray, List.set_cons_zero, List.set_cons_succ]) | (apply bl_op; rfl; (intro w1 h1; obtain ⟨hc, hf, hz⟩ := bcell h1; go_simp; (try go_bits); (first | exact ⟨rfl, Ext.refl _⟩ | (apply gives_call; fail) | (go_invoke; go_simp; apply gives_call; fail))); simp only [Act.put, List.setIfInBounds_toArray, List.set_cons_zero, List.set_cons_succ]) | (refine bl_split rfl rfl (fun hx => ?_) (fun hx => ?_) <;> simp only [hx]))); refine bl_nil ?_; refine ag_two (e1 := 38) (e2 := 38) (zs1 := #[.int .i64 0, .int .i64 0, .int .i64 0, .int .i64 0, .int .i64 0, .int .i64 0, .int .i64 0, .int .i64 0]) (zs2 := #[.int .i64 0, .int .i64 0, .int .i64 0, .int .i64 0, .int .i64 0, .int .i64 0, .int .i64 0, .int .i64 0]) (Stable.ext _) (fun _ h => h) (by decide) rfl rfl (fun u v => rfl) (fun v w => ⟨by simp only [opAt]; go_simp, by simp only [opAt]; go_simp⟩) (fun v w => ⟨by simp only [opAt]; go_simp, by simp only [opAt]; go_simp⟩) (fun g7 g8 hb_g7 hb_g8 hne_g7 => ?_); (try simp only [opAt]); (try simp only [Act.put, List.setIfInBounds_toArray]); refine tg_skip (fun w => Ext _ w ∧ Blk w g7 38 #[.int .i64 xl, .int .i64 xh, .int .i64 yl, .int .i64 yh, .int .i64 ul, .int .i64 uh, .int .i64 vl, .int .i64 vh] ∧ Blk w g8 38 #[.int .i64 0, .int .i64 0, .int .i64 0, .int .i64 0, .int .i64 0, .int .i64 0, .int .i64 0, .int .i64 0]) rfl rfl ((Stable.ext _).and ((Stable.blk _ _ _).and (Stable.blk _ _ _))) (fun _ h => h.1) (fun wx hx => ?_) ?_; (focus (obtain ⟨hx, hB1, hB2⟩ := hx; have hcB := hB1.cell; have hfB := hB1.frozen; have hlB := hB1.lt; refine ⟨_, (by go_simp; rfl), ?_⟩; have q0 : Blk (wx.setCell ⟨g7, 0, none⟩ (.int .i64 xl)) g7 38 #[.int .i64 xl, .int .i64 0, .int .i64 0, .int .i64 0, .int .i64 0, .int .i64 0, .int .i64 0, .int .i64 0] := hB1.set_ 0 _; have p0 : Ext _ (wx.setCell ⟨g7, 0, none⟩ (.int .i64 xl)) := Ext.set hx (by dsimp only; omega) _; have o0 := Blk.far (p := ⟨g7, 0, none⟩) hB2 (by dsimp only; omega) (.int .i64 xl); have q1 : Blk ((wx.setCell ⟨g7, 0, none⟩ (.int .i64 xl)).setCell ⟨g7, 1, none⟩ (.int .i64 xh)) g7 38 #[.int .i64 xl, .int .i64 xh, .int .i64 0, .int .i64 0, .int .i64 0, .int .i64 0, .int .i64 0, .int .i64 0] := q0.set_ 1 _; have p1 : Ext _ ((wx.setCell ⟨g7, 0, none⟩ (.int .i64 xl)).setCell ⟨g7, 1, none⟩ (.int .i64 xh)) := Ext.set p0 (by dsimp only; omega) _; have o1 := Blk.far (p := ⟨g7, 1, none⟩) o0 (by dsimp only; omega) (.int .i64 xh); have q2 : Blk (((wx.setCell ⟨g7, 0, none⟩ (.int .i64 xl)).setCell ⟨g7, 1, none⟩ (.int .i64 xh)).setCell ⟨g7, 2, none⟩ (.int .i64 yl)) g7 38 #[.int .i64 xl, .int .i64 xh, .int .i64 yl, .int .i64 0, .int .i64 0, .int .i64 0, .int .i64 0, .int .i64 0] := q1.set_ 2 _; have p2 : Ext _ (((wx.setCell ⟨g7, 0, none⟩ (.int .i64 xl)).setCell ⟨g7, 1, none⟩ (.int .i64 xh)).setCell ⟨g7, 2, none⟩ (.int .i64 yl)) := Ext.set p1 (by dsimp only; omega) _; have o2 := Blk.far (p := ⟨g7, 2, none⟩) o1 (by dsimp only; omega) (.int .i64 yl); have q3 : Blk ((((wx.setCell ⟨g7, 0, none⟩ (.int .i64 xl)).setCell ⟨g7, 1, none⟩ (.int .i64 xh)).setCell ⟨g7, 2, none⟩ (.int .i64 yl)).setCell ⟨g7, 3, none⟩ (.int .i64 yh)) g7 38 #[.int .i64 xl, .int .i64 xh, .int .i64 yl, .int .i64 yh, .int .i64 0, .int .i64 0, .int .i64 0, .int .i64 0] := q2.set_ 3 _; have p3 : Ext _ ((((wx.setCell ⟨g7, 0, none⟩ (.int .i64 xl)).setCell ⟨g7, 1, none⟩ (.int .i64 xh)).setCell ⟨g7, 2, none⟩ (.int .i64 yl)).setCell ⟨g7, 3, none⟩ (.int .i64 yh)) := Ext.set p2 (by dsimp only; omega) _; have o3 := Blk.far (p := ⟨g7, 3, none⟩) o2 (by dsimp only; omega) (.int .i64 yh); have q4 : Blk (((((wx.setCell ⟨g7, 0, none⟩ (.int .i64 xl)).setCell ⟨g7, 1, none⟩ (.int .i64 xh)).setCell ⟨g7, 2, none⟩ (.int .i64 yl)).setCell ⟨g7, 3, none⟩ (.int .i64 yh)).setCell ⟨g7, 4, none⟩ (.int .i64 ul)) g7 38 #[.int .i64 xl, .int .i64 xh, .int .i64 yl, .int .i64 yh, .int .i64 ul, .int .i64 0, .int .i64 0, .int .i64 0] := q3.set_ 4 _; have p4 : Ext _ (((((wx.setCell ⟨g7, 0, none⟩ (.int .i64 xl)).setCell ⟨g7, 1, none⟩ (.int .i64 xh)).setCell ⟨g7, 2, none⟩ (.int .i64 yl)).setCell ⟨g7, 3, none⟩ (.int .i64 yh)).setCell ⟨g7, 4, none⟩ (.int .i64 ul)) := Ext.set p3 (by dsimp only; omega) _; have o4 := Blk.far (p := ⟨g7, 4, none⟩) o3 (by dsimp only; omega) (.int .i64 ul); have q5 : Blk ((((((wx.setCell ⟨g7, 0, none⟩ (.int .i64 xl)).setCell ⟨g7, 1, none⟩ (.int .i64 xh)).setCell ⟨g7, 2, none⟩ (.int .i64 yl)).setCell ⟨g7, 3, none⟩ (.int .i64 yh)).setCell ⟨g7, 4, none⟩ (.int .i64 ul)).setCell ⟨g7, 5, none⟩ (.int .i64 uh)) g7 38 #[.int .i64 xl, .int .i64 xh, .int .i64 yl, .int .i64 yh, .int .i64 ul, .int .i64 uh, .int .i64 0, .int .i64 0] := q4.set_ 5 _; have p5 : Ext _ ((((((wx.setCell ⟨g7, 0, none⟩ (.int .i64 xl)).setCell ⟨g7, 1, none⟩ (.int .i64 xh)).setCell ⟨g7, 2, none⟩ (.int .i64 yl)).setCell ⟨g7, 3, none⟩ (.int .i64 yh)).setCell ⟨g7, 4, none⟩ (.int .i64 ul)).setCell ⟨g7, 5, none⟩ (.int .i64 uh)) := Ext.set p4 (by dsimp only; omega) _; have o5 := Blk.far (p := ⟨g7, 5, none⟩) o4 (by dsimp only; omega) (.int .i64 uh); have q6 : Blk (((((((wx.setCell ⟨g7, 0, none⟩ (.int .i64 xl)).setCell ⟨g7, 1, none⟩ (.int .i64 xh)).setCell ⟨g7, 2, none⟩ (.int .i64 yl)).setCell ⟨g7, 3, none⟩ (.int .i64 yh)).setCell ⟨g7, 4, none⟩ (.int .i64 ul)).setCell ⟨g7, 5, none⟩ (.int .i64 uh)).setCell ⟨g7, 6, none⟩ (.int .i64 vl)) g7 38 #[.int .i64 xl, .int .i64 xh, .int .i64 yl, .int .i64 yh, .int .i64 ul, .int .i64 uh, .int .i64 vl, .int .i64 0] := q5.set_ 6 _; have p6 : Ext _ (((((((wx.setCell ⟨g7, 0, none⟩ (.int .i64 xl)).setCell ⟨g7, 1, none⟩ (.int .i64 xh)).setCell ⟨g7, 2, none⟩ (.int .i64 yl)).setCell ⟨g7, 3, none⟩ (.int .i64 yh)).setCell ⟨g7, 4, none⟩ (.int .i64 ul)).setCell ⟨g7, 5, none⟩ (.int .i64 uh)).setCell ⟨g7, 6, none⟩ (.int .i64 vl)) := Ext.set p5 (by dsimp only; omega) _; have o6 := Blk.far (p := ⟨g7, 6, none⟩) o5 (by dsimp only; omega) (.int .i64 vl); have q7 : Blk ((((((((wx.setCell ⟨g7, 0, none⟩ (.int .i64 xl)).setCell ⟨g7, 1, none⟩ (.int .i64 xh)).setCell ⟨g7, 2, none⟩ (.int .i64 yl)).setCell ⟨g7, 3, none⟩ (.int .i64 yh)).setCell ⟨g7, 4, none⟩ (.int .i64 ul)).setCell ⟨g7, 5, none⟩ (.int .i64 uh)).setCell ⟨g7, 6, none⟩ (.int .i64 vl)).setCell ⟨g7, 7, none⟩ (.int .i64 vh)) g7 38 #[.int .i64 xl, .int .i64 xh, .int .i64 yl, .int .i64 yh, .int .i64 ul, .int .i64 uh, .int .i64 vl, .int .i64 vh] := q6.set_ 7 _; have p7 : Ext _ ((((((((wx.setCell ⟨g7, 0, none⟩ (.int .i64 xl)).setCell ⟨g7, 1, none⟩ (.int .i64 xh)).setCell ⟨g7, 2, none⟩ (.int .i64 yl)).setCell ⟨g7, 3, none⟩ (.int .i64 yh)).setCell ⟨g7, 4, none⟩ (.int .i64 ul)).setCell ⟨g7, 5, none⟩ (.int .i64 uh)).setCell ⟨g7, 6, none⟩ (.int .i64 vl)).setCell ⟨g7, 7, none⟩ (.int .i64 vh)) := Ext.set p6 (by dsimp only; omega) _; have o7 := Blk.far (p := ⟨g7, 7, none⟩) o6 (by dsimp only; omega) (.int .i64 vh); exact ⟨p7, q7, o7⟩)); refine tg_skip (fun w => Ext _ w ∧ Blk w g7 38 #[.int .i64 xl, .int .i64 xh, .int .i64 yl, .int .i64 yh, .int .i64 ul, .int .i64 uh, .int .i64 vl, .int .i64 vh] ∧ Blk w g8 38 #[.int .i64 xl, .int .i64 xh, .int .i64 yl, .int .i64 yh, .int .i64 ul, .int .i64 uh, .int .i64 vl, .int .i64 vh]) rfl rfl ((Stable.ext _).and ((Stable.blk _ _ _).and (Stable.blk _ _ _))) (fun _ h => h.1) (fun wx hx => ?_) ?_; (focus (obtain ⟨hx, hB1, hB2⟩ := hx; have hcB := hB2.cell; have hfB := hB2.frozen; have hlB := hB2.lt; refine ⟨_, (by go_simp; rfl), ?_⟩; have q0 : Blk (wx.setCell ⟨g8, 0, none⟩ (.int .i64 xl)) g8 38 #[.int .i64 xl, .int .i64 0, .int .i64 0, .int .i64 0, .int .i64 0, .int .i64 0, .int .i64 0, .int .i64 0] := hB2.set_ 0 _; have p0 : Ext _ (wx.setCell ⟨g8, 0, none⟩ (.int .i64 xl)) := Ext.set hx (by dsimp only; omega) _; have o0 := Blk.far (p := ⟨g8, 0, none⟩) hB1 (by dsimp only; omega) (.int .i64 xl); have q1 : Blk ((wx.setCell ⟨g8, 0, none⟩ (.int .i64 xl)).setCell ⟨g8, 1, none⟩ (.int .i64 xh)) g8 38 #[.int .i64 xl, .int .i64 xh, .int .i64 0, .int .i64 0, .int .i64 0, .int .i64 0, .int .i64 0, .int .i64 0] := q0.set_ 1 _; have p1 : Ext _ ((wx.setCell ⟨g8, 0, none⟩ (.int .i64 xl)).setCell ⟨g8, 1, none⟩ (.int .i64 xh)) := Ext.set p0 (by dsimp only; omega) _; have o1 := Blk.far (p := ⟨g8, 1, none⟩) o0 (by dsimp only; omega) (.int .i64 xh); have q2 : Blk (((wx.setCell ⟨g8, 0, none⟩ (.int .i64 xl)).setCell ⟨g8, 1, none⟩ (.int .i64 xh)).setCell ⟨g8, 2, none⟩ (.int .i64 yl)) g8 38 #[.int .i64 xl, .int .i64 xh, .int .i64 yl, .int .i64 0, .int .i64 0, .int .i64 0, .int .i64 0, .int .i64 0] := q1.set_ 2 _; have p2 : Ext _ (((wx.setCell ⟨g8, 0, none⟩ (.int .i64 xl)).setCell ⟨g8, 1, none⟩ (.int .i64 xh)).setCell ⟨g8, 2, none⟩ (.int .i64 yl)) := Ext.set p1 (by dsimp only; omega) _; have o2 := Blk.far (p := ⟨g8, 2, none⟩) o1 (by dsimp only; omega) (.int .i64 yl); have q3 : Blk ((((wx.setCell ⟨g8, 0, none⟩ (.int .i64 xl)).setCell ⟨g8, 1, none⟩ (.int .i64 xh)).setCell ⟨g8, 2, none⟩ (.int .i64 yl)).setCell ⟨g8, 3, none⟩ (.int .i64 yh)) g8 38 #[.int .i64 xl, .int .i64 xh, .int .i64 yl, .int .i64 yh, .int .i64 0, .int .i64 0, .int .i64 0, .int .i64 0] := q2.set_ 3 _; have p3 : Ext _ ((((wx.setCell ⟨g8, 0, none⟩ (.int .i64 xl)).setCell ⟨g8, 1, none⟩ (.int .i64 xh)).setCell ⟨g8, 2, none⟩ (.int .i64 yl)).setCell ⟨g8, 3, none⟩ (.int .i64 yh)) := Ext.set p2 (by dsimp only; omega) _; have o3 := Blk.far (p := ⟨g8, 3, none⟩) o2 (by dsimp only; omega) (.int .i64 yh); have q4 : Blk (((((wx.setCell ⟨g8, 0, none⟩ (.int .i64 xl)).setCell ⟨g8, 1, none⟩ (.int .i64 xh)).setCell ⟨g8, 2, none⟩ (.int .i64 yl)).setCell ⟨g8, 3, none⟩ (.int .i64 yh)).setCell ⟨g8, 4, none⟩ (.int .i64 ul)) g8 38 #[.int .i64 xl, .int .i64 xh, .int .i64 yl, .int .i64 yh, .int .i64 ul, .int .i64 0, .int .i64 0, .int .i64 0] := q3.set_ 4 _; have p4 : Ext _ (((((wx.setCell ⟨g8, 0, none⟩ (.int .i64 xl)).setCell ⟨g8, 1, none⟩ (.int .i64 xh)).setCell ⟨g8, 2, none⟩ (.int .i64 yl)).setCell ⟨g8, 3, none⟩ (.int .i64 yh)).setCell ⟨g8, 4, none⟩ (.int .i64 ul)) := Ext.set p3 (by dsimp only; omega) _; have o4 := Blk.far (p := ⟨g8, 4, none⟩) o3 (by dsimp only; omega) (.int .i64 ul); have q5 : Blk ((((((wx.setCell ⟨g8, 0, none⟩ (.int .i64 xl)).setCell ⟨g8, 1, none⟩ (.int .i64 xh)).setCell ⟨g8, 2, none⟩ (.int .i64 yl)).setCell ⟨g8, 3, none⟩ (.int .i64 yh)).setCell ⟨g8, 4, none⟩ (.int .i64 ul)).setCell ⟨g8, 5, none⟩ (.int .i64 uh)) g8 38 #[.int .i64 xl, .int .i64 xh, .int .i64 yl, .int .i64 yh, .int .i64 ul, .int .i64 uh, .int .i64 0, .int .i64 0] := q4.set_ 5 _; have p5 : Ext _ ((((((wx.setCell ⟨g8, 0, none⟩ (.int .i64 xl)).setCell ⟨g8, 1, none⟩ (.int .i64 xh)).setCell ⟨g8, 2, none⟩ (.int .i64 yl)).setCell ⟨g8, 3, none⟩ (.int .i64 yh)).setCell ⟨g8, 4, none⟩ (.int .i64 ul)).setCell ⟨g8, 5, none⟩ (.int .i64 uh)) := Ext.set p4 (by dsimp only; omega) _; have o5 := Blk.far (p := ⟨g8, 5, none⟩) o4 (by dsimp only; omega) (.int .i64 uh); have q6 : Blk (((((((wx.setCell ⟨g8, 0, none⟩ (.int .i64 xl)).setCell ⟨g8, 1, none⟩ (.int .i64 xh)).setCell ⟨g8, 2, none⟩ (.int .i64 yl)).setCell ⟨g8, 3, none⟩ (.int .i64 yh)).setCell ⟨g8, 4, none⟩ (.int .i64 ul)).setCell ⟨g8, 5, none⟩ (.int .i64 uh)).setCell ⟨g8, 6, none⟩ (.int .i64 vl)) g8 38 #[.int .i64 xl, .int .i64 xh, .int .i64 yl, .int .i64 yh, .int .i64 ul, .int .i64 uh, .int .i64 vl, .int .i64 0] := q5.set_ 6 _; have p6 : Ext _ (((((((wx.setCell ⟨g8, 0, none⟩ (.int .i64 xl)).setCell ⟨g8, 1, none⟩ (.int .i64 xh)).setCell ⟨g8, 2, none⟩ (.int .i64 yl)).setCell ⟨g8, 3, none⟩ (.int .i64 yh)).setCell ⟨g8, 4, none⟩ (.int .i64 ul)).setCell ⟨g8, 5, none⟩ (.int .i64 uh)).setCell ⟨g8, 6, none⟩ (.int .i64 vl)) := Ext.set p5 (by dsimp only; omega) _; have o6 := Blk.far (p := ⟨g8, 6, none⟩) o5 (by dsimp only; omega) (.int .i64 vl); have q7 : Blk ((((((((wx.setCell ⟨g8, 0, none⟩ (.int .i64 xl)).setCell ⟨g8, 1, none⟩ (.int .i64 xh)).setCell ⟨g8, 2, none⟩ (.int .i64 yl)).setCell ⟨g8, 3, none⟩ (.int .i64 yh)).setCell ⟨g8, 4, none⟩ (.int .i64 ul)).setCell ⟨g8, 5, none⟩ (.int .i64 uh)).setCell ⟨g8, 6, none⟩ (.int .i64 vl)).setCell ⟨g8, 7, none⟩ (.int .i64 vh)) g8 38 #[.int .i64 xl, .int .i64 xh, .int .i64 yl, .int .i64 yh, .int .i64 ul, .int .i64 uh, .int .i64 vl, .int .i64 vh] := q6.set_ 7 _; have p7 : Ext _ ((((((((wx.setCell ⟨g8, 0, none⟩ (.int .i64 xl)).setCell ⟨g8, 1, none⟩ (.int .i64 xh)).setCell ⟨g8, 2, none⟩ (.int .i64 yl)).setCell ⟨g8, 3, none⟩ (.int .i64 yh)).setCell ⟨g8, 4, none⟩ (.int .i64 ul)).setCell ⟨g8, 5, none⟩ (.int .i64 uh)).setCell ⟨g8, 6, none⟩ (.int .i64 vl)).setCell ⟨g8, 7, none⟩ (.int .i64 vh)) := Ext.set p6 (by dsimp only; omega) _; have o7 := Blk.far (p := ⟨g8, 7, none⟩) o6 (by dsimp only; omega) (.int .i64 vh); exact ⟨p7, o7, q7⟩)); refine tg_nil ?_; rintro W3 ⟨hE_W3, hB_g7, hB_g8⟩
  clear c_B1 f_B1 l_B1 c_G2 f_G2 l_G2 c_G3 f_G3 l_G3
  replace B1 := B1.ext hE_W3
  replace G2 := G2.ext hE_W3
  replace G3 := G3.ext hE_W3
  replace E := E.trans hE_W3
  simp only [Array.getD_eq_getD_getElem?, List.getElem?_toArray, List.getElem?_cons_succ, List.getElem?_cons_zero, Option.getD_some, List.setIfInBounds_toArray, List.set_cons_zero, List.set_cons_succ]
  have o1 : w.heap.size + 1 + 1 < g7 := by omega
  have o2 : w.heap.size + 1 + 1 < g8 := by omega
  clear hE_W3
  have c_B1 := B1.cell; have f_B1 := B1.frozen; have l_B1 := B1.lt
  go_wp2_with fail
  refine (HK.out _).mono ?_
  rintro e W4 ⟨rfl, h4⟩
  have A7 := hB_g7.ext h4
  have A8 := hB_g8.ext h4
  replace G2 := G2.ext h4
  replace G3 := G3.ext h4
  replace E := E.trans h4
  clear c_B1 f_B1 l_B1
  clear h4 B1 hB_g7 hB_g8
  have c_A7 := A7.cell; have f_A7 := A7.frozen; have l_A7 := A7.lt; have c_A8 := A8.cell; have f_A8 := A8.frozen; have l_A8 := A8.lt
  go_wp2_with fail
  refine name_world _ ?_
  intro W5 hW5
  have B7 : Blk W5 g7 38 #[.int .i64 xl, .int .i64 xh, .int .i64 pl, .int .i64 ph, .int .i64 ul, .int .i64 uh, .int .i64 vl, .int .i64 vh] := by rw [hW5]; exact blk_far2 (blk_set2 A7 rfl) (by omega)
  have B8 : Blk W5 g8 38 #[.int .i64 xl, .int .i64 xh, .int .i64 ql, .int .i64 qh, .int .i64 ul, .int .i64 uh, .int .i64 vl, .int .i64 vh] := by rw [hW5]; exact blk_set2 (blk_far2 A8 (by omega)) rfl
  replace G2 : Blk W5 (w.heap.size + 1) 38 #[.int .i64 0, .int .i64 0, .int .i64 0, .int .i64 0, .int .i64 0, .int .i64 0, .int .i64 0, .int .i64 0] := by rw [hW5]; exact blk_far2 (blk_far2 G2 (by omega)) (by omega)
  replace G3 : Blk W5 (w.heap.size + 1 + 1) 38 #[.int .i64 0, .int .i64 0, .int .i64 0, .int .i64 0, .int .i64 0, .int .i64 0, .int .i64 0, .int .i64 0] := by rw [hW5]; exact blk_far2 (blk_far2 G3 (by omega)) (by omega)
  replace E : Ext w W5 := by rw [hW5]; exact ext_set2 (ext_set2 E (by omega)) (by omega)
  clear c_A7 f_A7 l_A7 c_A8 f_A8 l_A8
  clear hW5 A7 A8
  have c_B7 := B7.cell; have f_B7 := B7.frozen; have l_B7 := B7.lt; have c_B8 := B8.cell; have f_B8 := B8.frozen; have l_B8 := B8.lt
  refine wp_region_tail 2 (fun v => Blk v g7 38 #[.int .i64 xl, .int .i64 xh, .int .i64 pl, .int .i64 ph, .int .i64 ul, .int .i64 uh, .int .i64 vl, .int .i64 vh] ∧ Blk v g8 38 #[.int .i64 xl, .int .i64 xh, .int .i64 ql, .int .i64 qh, .int .i64 ul, .int .i64 uh, .int .i64 vl, .int .i64 vh]) (fun v => (Blk v g7 38 #[.int .i64 xl, .int .i64 xh, .int .i64 pl, .int .i64 ph, .int .i64 ul, .int .i64 uh, .int .i64 vl, .int .i64 vh] ∧ Blk v g8 38 #[.int .i64 xl, .int .i64 xh, .int .i64 ql, .int .i64 qh, .int .i64 ul, .int .i64 uh, .int .i64 vl, .int .i64 vh]) ∧ Blk v (w.heap.size + 1) 38 #[.int .i64 0, .int .i64 0, .int .i64 0, .int .i64 0, .int .i64 0, .int .i64 0, .int .i64 0, .int .i64 0] ∧ Blk v (w.heap.size + 1 + 1) 38 #[.int .i64 0, .int .i64 0, .int .i64 0, .int .i64 0, .int .i64 0, .int .i64 0, .int .i64 0, .int .i64 0] ∧ Ext w v)
    (st5 _ _ _ _ _ _ _ _ _ _ _ _ _) (fun _ h => h.1) ⟨⟨B7.ext (Ext.drew (Ext.refl _)), B8.ext (Ext.drew (Ext.refl _))⟩, G2.ext (Ext.drew (Ext.refl _)), G3.ext (Ext.drew (Ext.refl _)), E.drew⟩ (by kernel_rfl) (by kernel_rfl) ?_
  clear c_B7 f_B7 l_B7 c_B8 f_B8 l_B8
  simp only [List.take_succ_cons, List.take_zero, List.drop_succ_cons, List.drop_zero]
  (repeat' (first | (refine bl_off (by rfl) ?_; simp only [Act.put, List.setIfInBounds_toArray, List.set_cons_zero, List.set_cons_succ]) | (apply bl_op; rfl; (intro w1 h1; obtain ⟨hA, hB⟩ := h1; have cA := hA.cell; have cB := hB.cell; have lA := hA.lt; have lB := hB.lt; go_simp; (try go_bits); (first | exact ⟨rfl, Ext.refl _⟩)); simp only [Act.put, List.setIfInBounds_toArray, List.set_cons_zero, List.set_cons_succ]) | (refine bl_split rfl rfl (fun hx => ?_) (fun hx => ?_) <;> simp only [hx])))
  refine bl_nil ?_
  refine tw_st (F' := fun v => (Blk v g7 38 #[.int .i64 xl, .int .i64 xh, .int .i64 pl, .int .i64 ph, .int .i64 ul, .int .i64 uh, .int .i64 vl, .int .i64 vh] ∧ Blk v g8 38 #[.int .i64 xl, .int .i64 xh, .int .i64 ql, .int .i64 qh, .int .i64 ul, .int .i64 uh, .int .i64 vl, .int .i64 vh]) ∧ Blk v (w.heap.size + 1) 38 #[.int .i64 xl, .int .i64 xh, .int .i64 pl, .int .i64 ph, .int .i64 ul, .int .i64 uh, .int .i64 vl, .int .i64 vh] ∧ Blk v (w.heap.size + 1 + 1) 38 #[.int .i64 0, .int .i64 0, .int .i64 0, .int .i64 0, .int .i64 0, .int .i64 0, .int .i64 0, .int .i64 0] ∧ Ext w v) rfl rfl (st5 _ _ _ _ _ _ _ _ _ _ _ _ _) (fun _ h => h.1) (fun w1 h1 => ?_) ?_
  · obtain ⟨⟨hA, hB⟩, h2, h3, hE⟩ := h1
    have c2 := h2.cell
    have f2 := h2.frozen
    have l2 := h2.lt
    refine ⟨_, (by go_simp; rfl), ?_⟩
    exact ⟨⟨blk_far2 (blk_far2 (blk_far2 (blk_far2 hA (by omega)) (by omega)) (by omega)) (by omega), blk_far2 (blk_far2 (blk_far2 (blk_far2 hB (by omega)) (by omega)) (by omega)) (by omega)⟩, blk_set2 (blk_set2 (blk_set2 (blk_set2 h2 rfl) rfl) rfl) rfl, blk_far2 (blk_far2 (blk_far2 (blk_far2 h3 (by omega)) (by omega)) (by omega)) (by omega), ext_set2 (ext_set2 (ext_set2 (ext_set2 hE (by omega)) (by omega)) (by omega)) (by omega)⟩
  refine tw_st (F' := fun v => (Blk v g7 38 #[.int .i64 xl, .int .i64 xh, .int .i64 pl, .int .i64 ph, .int .i64 ul, .int .i64 uh, .int .i64 vl, .int .i64 vh] ∧ Blk v g8 38 #[.int .i64 xl, .int .i64 xh, .int .i64 ql, .int .i64 qh, .int .i64 ul, .int .i64 uh, .int .i64 vl, .int .i64 vh]) ∧ Blk v (w.heap.size + 1) 38 #[.int .i64 xl, .int .i64 xh, .int .i64 pl, .int .i64 ph, .int .i64 ul, .int .i64 uh, .int .i64 vl, .int .i64 vh] ∧ Blk v (w.heap.size + 1 + 1) 38 #[.int .i64 xl, .int .i64 xh, .int .i64 ql, .int .i64 qh, .int .i64 ul, .int .i64 uh, .int .i64 vl, .int .i64 vh] ∧ Ext w v) rfl rfl (st5 _ _ _ _ _ _ _ _ _ _ _ _ _) (fun _ h => h.1) (fun w1 h1 => ?_) ?_
  · obtain ⟨⟨hA, hB⟩, h2, h3, hE⟩ := h1
    have c3 := h3.cell
    have f3 := h3.frozen
    have l3 := h3.lt
    refine ⟨_, (by go_simp; rfl), ?_⟩
    exact ⟨⟨blk_far2 (blk_far2 (blk_far2 (blk_far2 hA (by omega)) (by omega)) (by omega)) (by omega), blk_far2 (blk_far2 (blk_far2 (blk_far2 hB (by omega)) (by omega)) (by omega)) (by omega)⟩, blk_far2 (blk_far2 (blk_far2 (blk_far2 h2 (by omega)) (by omega)) (by omega)) (by omega), blk_set2 (blk_set2 (blk_set2 (blk_set2 h3 rfl) rfl) rfl) rfl, ext_set2 (ext_set2 (ext_set2 (ext_set2 hE (by omega)) (by omega)) (by omega)) (by omega)⟩
  refine ⟨rfl, fun w1 h1 => ⟨.bool true, w1, _, .inl (by go_simp), st5 _ _ _ _ _ _ _ _ _ _ _ _ _, fun _ h => h.1, h1, ?_⟩⟩
  refine tw_nil ?_
  rintro W9 ⟨_, Q2, Q3, QE⟩
  have c_Q2 := Q2.cell; have f_Q2 := Q2.frozen; have l_Q2 := Q2.lt; have c_Q3 := Q3.cell; have f_Q3 := Q3.frozen; have l_Q3 := Q3.lt
  go_wp2_with fail
  (try simp only [Exit.inBlock, Exit.then]); apply bodyPost_ret; (focus (simp only [results, Tryz.results45]; go_simp; try rfl)); rfl
  exact ⟨rfl, QE⟩
set_option maxRecDepth 20000 in
set_option maxHeartbeats 8000000 in
theorem rSplit_2 (xl xh yl yh ul uh vl vh N pl ph ql qh : Int) (w : World) (hq : N ≠ 0) (hC : ∀ W, Calls Tryz.prog 38 #[.agg #[.int .i64 xl, .int .i64 xh, .int .i64 yl, .int .i64 yh, .int .i64 ul, .int .i64 uh, .int .i64 vl, .int .i64 vh]] W fun e w' => e = .returned (.int .i64 0) ∧ Ext W w')
    (hW : ∀ W, Calls Tryz.prog 100 #[.agg #[.int .i64 xl, .int .i64 xh, .int .i64 yl, .int .i64 yh, .int .i64 ul, .int .i64 uh, .int .i64 vl, .int .i64 vh]] W fun e w' => e = .returned (.tuple #[.int .i64 2, .int .i64 N]) ∧ Ext W w') (hK : ∀ W, Calls Tryz.prog 101 #[.agg #[.int .i64 ul, .int .i64 uh]] W fun e w' => e = .returned (.tuple #[.agg #[.int .i64 pl, .int .i64 ph], .agg #[.int .i64 ql, .int .i64 qh]]) ∧ Ext W w') :
    Calls Tryz.prog 45 #[.agg #[.int .i64 xl, .int .i64 xh, .int .i64 yl, .int .i64 yh, .int .i64 ul, .int .i64 uh, .int .i64 vl, .int .i64 vh]] w fun e w' => e = .returned (.tuple #[.agg #[.int .i64 xl, .int .i64 xh, .int .i64 yl, .int .i64 yh, .int .i64 pl, .int .i64 ph, .int .i64 vl, .int .i64 vh], .agg #[.int .i64 xl, .int .i64 xh, .int .i64 yl, .int .i64 yh, .int .i64 ql, .int .i64 qh, .int .i64 vl, .int .i64 vh], .bool true]) ∧ Ext w w' := by
  have HC := Lib.hid hC
  have HW := Lib.hid hW
  have HK := Lib.hid hK
  have hq0 : (N == 0) = false := by simpa using hq
  clear hC hW hK hq
  go_enter Tryz.func45, Tryz.ntmps45
  go_wp2_with fail
  refine (HW.out _).mono ?_
  rintro e w1 ⟨rfl, h1⟩
  have B1 : Blk w1 w.heap.size 38 #[.int .i64 xl, .int .i64 xh, .int .i64 yl, .int .i64 yh, .int .i64 ul, .int .i64 uh, .int .i64 vl, .int .i64 vh] := (((Blk.new w _ _).alloc _).alloc _).ext h1
  have G2 : Blk w1 (w.heap.size + 1) 38 #[.int .i64 0, .int .i64 0, .int .i64 0, .int .i64 0, .int .i64 0, .int .i64 0, .int .i64 0, .int .i64 0] := ((Blk.newAt (by simp)).alloc _).ext h1
  have G3 : Blk w1 (w.heap.size + 1 + 1) 38 #[.int .i64 0, .int .i64 0, .int .i64 0, .int .i64 0, .int .i64 0, .int .i64 0, .int .i64 0, .int .i64 0] := (Blk.newAt (by simp)).ext h1
  have E : Ext w w1 := by (repeat' (first | exact Ext.refl _ | assumption | apply Ext.alloc | apply Ext.drew | refine Ext.set ?_ (by dsimp only; omega) _ | refine Ext.trans ?_ (by assumption)))
  clear h1
  have c_B1 := B1.cell; have f_B1 := B1.frozen; have l_B1 := B1.lt; have c_G2 := G2.cell; have f_G2 := G2.frozen; have l_G2 := G2.lt; have c_G3 := G3.cell; have f_G3 := G3.frozen; have l_G3 := G3.lt
  go_wp2_with fail
  refine (HC.out _).mono ?_
  rintro e V2 ⟨rfl, hV2⟩
  clear c_B1 f_B1 l_B1
  replace B1 := B1.ext hV2
  clear c_G2 f_G2 l_G2
  replace G2 := G2.ext hV2
  clear c_G3 f_G3 l_G3
  replace G3 := G3.ext hV2
  replace E : Ext w V2 := Ext.trans (by (repeat' (first | exact Ext.refl _ | assumption | apply Ext.alloc | apply Ext.drew | refine Ext.set ?_ (by dsimp only; omega) _ | refine Ext.trans ?_ (by assumption)))) hV2
  clear hV2
  have c_B1 := B1.cell; have f_B1 := B1.frozen; have l_B1 := B1.lt; have c_G2 := G2.cell; have f_G2 := G2.frozen; have l_G2 := G2.lt; have c_G3 := G3.cell; have f_G3 := G3.frozen; have l_G3 := G3.lt
  go_wp2_with fail
  have l3 := G3.lt
  refine wp_region_gen [0, 1] [2, 3] [4, 5] (Ext _) (Ext _) (Stable.ext _) (fun _ h => h) (Ext.drew (Ext.refl _)) (by kernel_rfl) (by kernel_rfl) ?_; simp only [pick, List.drop_succ_cons, List.drop_zero]; (repeat' (first | (refine bl_off (by rfl) ?_; simp only [Act.put, List.setIfInBounds_toArray, List.set_cons_zero, List.set_cons_succ]) | (apply bl_op; rfl; (intro w1 h1; obtain ⟨hc, hf, hz⟩ := bcell h1; go_simp; (try go_bits); (first | exact ⟨rfl, Ext.refl _⟩ | (apply gives_call; fail) | (go_invoke; go_simp; apply gives_call; fail))); simp only [Act.put, List.setIfInBounds_toArray, List.set_cons_zero, List.set_cons_succ]) | (refine bl_split rfl rfl (fun hx => ?_) (fun hx => ?_) <;> simp only [hx]))); refine bl_nil ?_; refine ag_two (e1 := 38) (e2 := 38) (zs1 := #[.int .i64 0, .int .i64 0, .int .i64 0, .int .i64 0, .int .i64 0, .int .i64 0, .int .i64 0, .int .i64 0]) (zs2 := #[.int .i64 0, .int .i64 0, .int .i64 0, .int .i64 0, .int .i64 0, .int .i64 0, .int .i64 0, .int .i64 0]) (Stable.ext _) (fun _ h => h) (by decide) rfl rfl (fun u v => rfl) (fun v w => ⟨by simp only [opAt]; go_simp, by simp only [opAt]; go_simp⟩) (fun v w => ⟨by simp only [opAt]; go_simp, by simp only [opAt]; go_simp⟩) (fun g7 g8 hb_g7 hb_g8 hne_g7 => ?_); (try simp only [opAt]); (try simp only [Act.put, List.setIfInBounds_toArray]); refine tg_skip (fun w => Ext _ w ∧ Blk w g7 38 #[.int .i64 xl, .int .i64 xh, .int .i64 yl, .int .i64 yh, .int .i64 ul, .int .i64 uh, .int .i64 vl, .int .i64 vh] ∧ Blk w g8 38 #[.int .i64 0, .int .i64 0, .int .i64 0, .int .i64 0, .int .i64 0, .int .i64 0, .int .i64 0, .int .i64 0]) rfl rfl ((Stable.ext _).and ((Stable.blk _ _ _).and (Stable.blk _ _ _))) (fun _ h => h.1) (fun wx hx => ?_) ?_; (focus (obtain ⟨hx, hB1, hB2⟩ := hx; have hcB := hB1.cell; have hfB := hB1.frozen; have hlB := hB1.lt; refine ⟨_, (by go_simp; rfl), ?_⟩; have q0 : Blk (wx.setCell ⟨g7, 0, none⟩ (.int .i64 xl)) g7 38 #[.int .i64 xl, .int .i64 0, .int .i64 0, .int .i64 0, .int .i64 0, .int .i64 0, .int .i64 0, .int .i64 0] := hB1.set_ 0 _; have p0 : Ext _ (wx.setCell ⟨g7, 0, none⟩ (.int .i64 xl)) := Ext.set hx (by dsimp only; omega) _; have o0 := Blk.far (p := ⟨g7, 0, none⟩) hB2 (by dsimp only; omega) (.int .i64 xl); have q1 : Blk ((wx.setCell ⟨g7, 0, none⟩ (.int .i64 xl)).setCell ⟨g7, 1, none⟩ (.int .i64 xh)) g7 38 #[.int .i64 xl, .int .i64 xh, .int .i64 0, .int .i64 0, .int .i64 0, .int .i64 0, .int .i64 0, .int .i64 0] := q0.set_ 1 _; have p1 : Ext _ ((wx.setCell ⟨g7, 0, none⟩ (.int .i64 xl)).setCell ⟨g7, 1, none⟩ (.int .i64 xh)) := Ext.set p0 (by dsimp only; omega) _; have o1 := Blk.far (p := ⟨g7, 1, none⟩) o0 (by dsimp only; omega) (.int .i64 xh); have q2 : Blk (((wx.setCell ⟨g7, 0, none⟩ (.int .i64 xl)).setCell ⟨g7, 1, none⟩ (.int .i64 xh)).setCell ⟨g7, 2, none⟩ (.int .i64 yl)) g7 38 #[.int .i64 xl, .int .i64 xh, .int .i64 yl, .int .i64 0, .int .i64 0, .int .i64 0, .int .i64 0, .int .i64 0] := q1.set_ 2 _; have p2 : Ext _ (((wx.setCell ⟨g7, 0, none⟩ (.int .i64 xl)).setCell ⟨g7, 1, none⟩ (.int .i64 xh)).setCell ⟨g7, 2, none⟩ (.int .i64 yl)) := Ext.set p1 (by dsimp only; omega) _; have o2 := Blk.far (p := ⟨g7, 2, none⟩) o1 (by dsimp only; omega) (.int .i64 yl); have q3 : Blk ((((wx.setCell ⟨g7, 0, none⟩ (.int .i64 xl)).setCell ⟨g7, 1, none⟩ (.int .i64 xh)).setCell ⟨g7, 2, none⟩ (.int .i64 yl)).setCell ⟨g7, 3, none⟩ (.int .i64 yh)) g7 38 #[.int .i64 xl, .int .i64 xh, .int .i64 yl, .int .i64 yh, .int .i64 0, .int .i64 0, .int .i64 0, .int .i64 0] := q2.set_ 3 _; have p3 : Ext _ ((((wx.setCell ⟨g7, 0, none⟩ (.int .i64 xl)).setCell ⟨g7, 1, none⟩ (.int .i64 xh)).setCell ⟨g7, 2, none⟩ (.int .i64 yl)).setCell ⟨g7, 3, none⟩ (.int .i64 yh)) := Ext.set p2 (by dsimp only; omega) _; have o3 := Blk.far (p := ⟨g7, 3, none⟩) o2 (by dsimp only; omega) (.int .i64 yh); have q4 : Blk (((((wx.setCell ⟨g7, 0, none⟩ (.int .i64 xl)).setCell ⟨g7, 1, none⟩ (.int .i64 xh)).setCell ⟨g7, 2, none⟩ (.int .i64 yl)).setCell ⟨g7, 3, none⟩ (.int .i64 yh)).setCell ⟨g7, 4, none⟩ (.int .i64 ul)) g7 38 #[.int .i64 xl, .int .i64 xh, .int .i64 yl, .int .i64 yh, .int .i64 ul, .int .i64 0, .int .i64 0, .int .i64 0] := q3.set_ 4 _; have p4 : Ext _ (((((wx.setCell ⟨g7, 0, none⟩ (.int .i64 xl)).setCell ⟨g7, 1, none⟩ (.int .i64 xh)).setCell ⟨g7, 2, none⟩ (.int .i64 yl)).setCell ⟨g7, 3, none⟩ (.int .i64 yh)).setCell ⟨g7, 4, none⟩ (.int .i64 ul)) := Ext.set p3 (by dsimp only; omega) _; have o4 := Blk.far (p := ⟨g7, 4, none⟩) o3 (by dsimp only; omega) (.int .i64 ul); have q5 : Blk ((((((wx.setCell ⟨g7, 0, none⟩ (.int .i64 xl)).setCell ⟨g7, 1, none⟩ (.int .i64 xh)).setCell ⟨g7, 2, none⟩ (.int .i64 yl)).setCell ⟨g7, 3, none⟩ (.int .i64 yh)).setCell ⟨g7, 4, none⟩ (.int .i64 ul)).setCell ⟨g7, 5, none⟩ (.int .i64 uh)) g7 38 #[.int .i64 xl, .int .i64 xh, .int .i64 yl, .int .i64 yh, .int .i64 ul, .int .i64 uh, .int .i64 0, .int .i64 0] := q4.set_ 5 _; have p5 : Ext _ ((((((wx.setCell ⟨g7, 0, none⟩ (.int .i64 xl)).setCell ⟨g7, 1, none⟩ (.int .i64 xh)).setCell ⟨g7, 2, none⟩ (.int .i64 yl)).setCell ⟨g7, 3, none⟩ (.int .i64 yh)).setCell ⟨g7, 4, none⟩ (.int .i64 ul)).setCell ⟨g7, 5, none⟩ (.int .i64 uh)) := Ext.set p4 (by dsimp only; omega) _; have o5 := Blk.far (p := ⟨g7, 5, none⟩) o4 (by dsimp only; omega) (.int .i64 uh); have q6 : Blk (((((((wx.setCell ⟨g7, 0, none⟩ (.int .i64 xl)).setCell ⟨g7, 1, none⟩ (.int .i64 xh)).setCell ⟨g7, 2, none⟩ (.int .i64 yl)).setCell ⟨g7, 3, none⟩ (.int .i64 yh)).setCell ⟨g7, 4, none⟩ (.int .i64 ul)).setCell ⟨g7, 5, none⟩ (.int .i64 uh)).setCell ⟨g7, 6, none⟩ (.int .i64 vl)) g7 38 #[.int .i64 xl, .int .i64 xh, .int .i64 yl, .int .i64 yh, .int .i64 ul, .int .i64 uh, .int .i64 vl, .int .i64 0] := q5.set_ 6 _; have p6 : Ext _ (((((((wx.setCell ⟨g7, 0, none⟩ (.int .i64 xl)).setCell ⟨g7, 1, none⟩ (.int .i64 xh)).setCell ⟨g7, 2, none⟩ (.int .i64 yl)).setCell ⟨g7, 3, none⟩ (.int .i64 yh)).setCell ⟨g7, 4, none⟩ (.int .i64 ul)).setCell ⟨g7, 5, none⟩ (.int .i64 uh)).setCell ⟨g7, 6, none⟩ (.int .i64 vl)) := Ext.set p5 (by dsimp only; omega) _; have o6 := Blk.far (p := ⟨g7, 6, none⟩) o5 (by dsimp only; omega) (.int .i64 vl); have q7 : Blk ((((((((wx.setCell ⟨g7, 0, none⟩ (.int .i64 xl)).setCell ⟨g7, 1, none⟩ (.int .i64 xh)).setCell ⟨g7, 2, none⟩ (.int .i64 yl)).setCell ⟨g7, 3, none⟩ (.int .i64 yh)).setCell ⟨g7, 4, none⟩ (.int .i64 ul)).setCell ⟨g7, 5, none⟩ (.int .i64 uh)).setCell ⟨g7, 6, none⟩ (.int .i64 vl)).setCell ⟨g7, 7, none⟩ (.int .i64 vh)) g7 38 #[.int .i64 xl, .int .i64 xh, .int .i64 yl, .int .i64 yh, .int .i64 ul, .int .i64 uh, .int .i64 vl, .int .i64 vh] := q6.set_ 7 _; have p7 : Ext _ ((((((((wx.setCell ⟨g7, 0, none⟩ (.int .i64 xl)).setCell ⟨g7, 1, none⟩ (.int .i64 xh)).setCell ⟨g7, 2, none⟩ (.int .i64 yl)).setCell ⟨g7, 3, none⟩ (.int .i64 yh)).setCell ⟨g7, 4, none⟩ (.int .i64 ul)).setCell ⟨g7, 5, none⟩ (.int .i64 uh)).setCell ⟨g7, 6, none⟩ (.int .i64 vl)).setCell ⟨g7, 7, none⟩ (.int .i64 vh)) := Ext.set p6 (by dsimp only; omega) _; have o7 := Blk.far (p := ⟨g7, 7, none⟩) o6 (by dsimp only; omega) (.int .i64 vh); exact ⟨p7, q7, o7⟩)); refine tg_skip (fun w => Ext _ w ∧ Blk w g7 38 #[.int .i64 xl, .int .i64 xh, .int .i64 yl, .int .i64 yh, .int .i64 ul, .int .i64 uh, .int .i64 vl, .int .i64 vh] ∧ Blk w g8 38 #[.int .i64 xl, .int .i64 xh, .int .i64 yl, .int .i64 yh, .int .i64 ul, .int .i64 uh, .int .i64 vl, .int .i64 vh]) rfl rfl ((Stable.ext _).and ((Stable.blk _ _ _).and (Stable.blk _ _ _))) (fun _ h => h.1) (fun wx hx => ?_) ?_; (focus (obtain ⟨hx, hB1, hB2⟩ := hx; have hcB := hB2.cell; have hfB := hB2.frozen; have hlB := hB2.lt; refine ⟨_, (by go_simp; rfl), ?_⟩; have q0 : Blk (wx.setCell ⟨g8, 0, none⟩ (.int .i64 xl)) g8 38 #[.int .i64 xl, .int .i64 0, .int .i64 0, .int .i64 0, .int .i64 0, .int .i64 0, .int .i64 0, .int .i64 0] := hB2.set_ 0 _; have p0 : Ext _ (wx.setCell ⟨g8, 0, none⟩ (.int .i64 xl)) := Ext.set hx (by dsimp only; omega) _; have o0 := Blk.far (p := ⟨g8, 0, none⟩) hB1 (by dsimp only; omega) (.int .i64 xl); have q1 : Blk ((wx.setCell ⟨g8, 0, none⟩ (.int .i64 xl)).setCell ⟨g8, 1, none⟩ (.int .i64 xh)) g8 38 #[.int .i64 xl, .int .i64 xh, .int .i64 0, .int .i64 0, .int .i64 0, .int .i64 0, .int .i64 0, .int .i64 0] := q0.set_ 1 _; have p1 : Ext _ ((wx.setCell ⟨g8, 0, none⟩ (.int .i64 xl)).setCell ⟨g8, 1, none⟩ (.int .i64 xh)) := Ext.set p0 (by dsimp only; omega) _; have o1 := Blk.far (p := ⟨g8, 1, none⟩) o0 (by dsimp only; omega) (.int .i64 xh); have q2 : Blk (((wx.setCell ⟨g8, 0, none⟩ (.int .i64 xl)).setCell ⟨g8, 1, none⟩ (.int .i64 xh)).setCell ⟨g8, 2, none⟩ (.int .i64 yl)) g8 38 #[.int .i64 xl, .int .i64 xh, .int .i64 yl, .int .i64 0, .int .i64 0, .int .i64 0, .int .i64 0, .int .i64 0] := q1.set_ 2 _; have p2 : Ext _ (((wx.setCell ⟨g8, 0, none⟩ (.int .i64 xl)).setCell ⟨g8, 1, none⟩ (.int .i64 xh)).setCell ⟨g8, 2, none⟩ (.int .i64 yl)) := Ext.set p1 (by dsimp only; omega) _; have o2 := Blk.far (p := ⟨g8, 2, none⟩) o1 (by dsimp only; omega) (.int .i64 yl); have q3 : Blk ((((wx.setCell ⟨g8, 0, none⟩ (.int .i64 xl)).setCell ⟨g8, 1, none⟩ (.int .i64 xh)).setCell ⟨g8, 2, none⟩ (.int .i64 yl)).setCell ⟨g8, 3, none⟩ (.int .i64 yh)) g8 38 #[.int .i64 xl, .int .i64 xh, .int .i64 yl, .int .i64 yh, .int .i64 0, .int .i64 0, .int .i64 0, .int .i64 0] := q2.set_ 3 _; have p3 : Ext _ ((((wx.setCell ⟨g8, 0, none⟩ (.int .i64 xl)).setCell ⟨g8, 1, none⟩ (.int .i64 xh)).setCell ⟨g8, 2, none⟩ (.int .i64 yl)).setCell ⟨g8, 3, none⟩ (.int .i64 yh)) := Ext.set p2 (by dsimp only; omega) _; have o3 := Blk.far (p := ⟨g8, 3, none⟩) o2 (by dsimp only; omega) (.int .i64 yh); have q4 : Blk (((((wx.setCell ⟨g8, 0, none⟩ (.int .i64 xl)).setCell ⟨g8, 1, none⟩ (.int .i64 xh)).setCell ⟨g8, 2, none⟩ (.int .i64 yl)).setCell ⟨g8, 3, none⟩ (.int .i64 yh)).setCell ⟨g8, 4, none⟩ (.int .i64 ul)) g8 38 #[.int .i64 xl, .int .i64 xh, .int .i64 yl, .int .i64 yh, .int .i64 ul, .int .i64 0, .int .i64 0, .int .i64 0] := q3.set_ 4 _; have p4 : Ext _ (((((wx.setCell ⟨g8, 0, none⟩ (.int .i64 xl)).setCell ⟨g8, 1, none⟩ (.int .i64 xh)).setCell ⟨g8, 2, none⟩ (.int .i64 yl)).setCell ⟨g8, 3, none⟩ (.int .i64 yh)).setCell ⟨g8, 4, none⟩ (.int .i64 ul)) := Ext.set p3 (by dsimp only; omega) _; have o4 := Blk.far (p := ⟨g8, 4, none⟩) o3 (by dsimp only; omega) (.int .i64 ul); have q5 : Blk ((((((wx.setCell ⟨g8, 0, none⟩ (.int .i64 xl)).setCell ⟨g8, 1, none⟩ (.int .i64 xh)).setCell ⟨g8, 2, none⟩ (.int .i64 yl)).setCell ⟨g8, 3, none⟩ (.int .i64 yh)).setCell ⟨g8, 4, none⟩ (.int .i64 ul)).setCell ⟨g8, 5, none⟩ (.int .i64 uh)) g8 38 #[.int .i64 xl, .int .i64 xh, .int .i64 yl, .int .i64 yh, .int .i64 ul, .int .i64 uh, .int .i64 0, .int .i64 0] := q4.set_ 5 _; have p5 : Ext _ ((((((wx.setCell ⟨g8, 0, none⟩ (.int .i64 xl)).setCell ⟨g8, 1, none⟩ (.int .i64 xh)).setCell ⟨g8, 2, none⟩ (.int .i64 yl)).setCell ⟨g8, 3, none⟩ (.int .i64 yh)).setCell ⟨g8, 4, none⟩ (.int .i64 ul)).setCell ⟨g8, 5, none⟩ (.int .i64 uh)) := Ext.set p4 (by dsimp only; omega) _; have o5 := Blk.far (p := ⟨g8, 5, none⟩) o4 (by dsimp only; omega) (.int .i64 uh); have q6 : Blk (((((((wx.setCell ⟨g8, 0, none⟩ (.int .i64 xl)).setCell ⟨g8, 1, none⟩ (.int .i64 xh)).setCell ⟨g8, 2, none⟩ (.int .i64 yl)).setCell ⟨g8, 3, none⟩ (.int .i64 yh)).setCell ⟨g8, 4, none⟩ (.int .i64 ul)).setCell ⟨g8, 5, none⟩ (.int .i64 uh)).setCell ⟨g8, 6, none⟩ (.int .i64 vl)) g8 38 #[.int .i64 xl, .int .i64 xh, .int .i64 yl, .int .i64 yh, .int .i64 ul, .int .i64 uh, .int .i64 vl, .int .i64 0] := q5.set_ 6 _; have p6 : Ext _ (((((((wx.setCell ⟨g8, 0, none⟩ (.int .i64 xl)).setCell ⟨g8, 1, none⟩ (.int .i64 xh)).setCell ⟨g8, 2, none⟩ (.int .i64 yl)).setCell ⟨g8, 3, none⟩ (.int .i64 yh)).setCell ⟨g8, 4, none⟩ (.int .i64 ul)).setCell ⟨g8, 5, none⟩ (.int .i64 uh)).setCell ⟨g8, 6, none⟩ (.int .i64 vl)) := Ext.set p5 (by dsimp only; omega) _; have o6 := Blk.far (p := ⟨g8, 6, none⟩) o5 (by dsimp only; omega) (.int .i64 vl); have q7 : Blk ((((((((wx.setCell ⟨g8, 0, none⟩ (.int .i64 xl)).setCell ⟨g8, 1, none⟩ (.int .i64 xh)).setCell ⟨g8, 2, none⟩ (.int .i64 yl)).setCell ⟨g8, 3, none⟩ (.int .i64 yh)).setCell ⟨g8, 4, none⟩ (.int .i64 ul)).setCell ⟨g8, 5, none⟩ (.int .i64 uh)).setCell ⟨g8, 6, none⟩ (.int .i64 vl)).setCell ⟨g8, 7, none⟩ (.int .i64 vh)) g8 38 #[.int .i64 xl, .int .i64 xh, .int .i64 yl, .int .i64 yh, .int .i64 ul, .int .i64 uh, .int .i64 vl, .int .i64 vh] := q6.set_ 7 _; have p7 : Ext _ ((((((((wx.setCell ⟨g8, 0, none⟩ (.int .i64 xl)).setCell ⟨g8, 1, none⟩ (.int .i64 xh)).setCell ⟨g8, 2, none⟩ (.int .i64 yl)).setCell ⟨g8, 3, none⟩ (.int .i64 yh)).setCell ⟨g8, 4, none⟩ (.int .i64 ul)).setCell ⟨g8, 5, none⟩ (.int .i64 uh)).setCell ⟨g8, 6, none⟩ (.int .i64 vl)).setCell ⟨g8, 7, none⟩ (.int .i64 vh)) := Ext.set p6 (by dsimp only; omega) _; have o7 := Blk.far (p := ⟨g8, 7, none⟩) o6 (by dsimp only; omega) (.int .i64 vh); exact ⟨p7, o7, q7⟩)); refine tg_nil ?_; rintro W3 ⟨hE_W3, hB_g7, hB_g8⟩
  clear c_B1 f_B1 l_B1 c_G2 f_G2 l_G2 c_G3 f_G3 l_G3
  replace B1 := B1.ext hE_W3
  replace G2 := G2.ext hE_W3
  replace G3 := G3.ext hE_W3
  replace E := E.trans hE_W3
  simp only [Array.getD_eq_getD_getElem?, List.getElem?_toArray, List.getElem?_cons_succ, List.getElem?_cons_zero, Option.getD_some, List.setIfInBounds_toArray, List.set_cons_zero, List.set_cons_succ]
  have o1 : w.heap.size + 1 + 1 < g7 := by omega
  have o2 : w.heap.size + 1 + 1 < g8 := by omega
  clear hE_W3
  have c_B1 := B1.cell; have f_B1 := B1.frozen; have l_B1 := B1.lt
  go_wp2_with fail
  refine (HK.out _).mono ?_
  rintro e W4 ⟨rfl, h4⟩
  have A7 := hB_g7.ext h4
  have A8 := hB_g8.ext h4
  replace G2 := G2.ext h4
  replace G3 := G3.ext h4
  replace E := E.trans h4
  clear c_B1 f_B1 l_B1
  clear h4 B1 hB_g7 hB_g8
  have c_A7 := A7.cell; have f_A7 := A7.frozen; have l_A7 := A7.lt; have c_A8 := A8.cell; have f_A8 := A8.frozen; have l_A8 := A8.lt
  go_wp2_with fail
  refine name_world _ ?_
  intro W5 hW5
  have B7 : Blk W5 g7 38 #[.int .i64 xl, .int .i64 xh, .int .i64 yl, .int .i64 yh, .int .i64 pl, .int .i64 ph, .int .i64 vl, .int .i64 vh] := by rw [hW5]; exact blk_far2 (blk_set2 A7 rfl) (by omega)
  have B8 : Blk W5 g8 38 #[.int .i64 xl, .int .i64 xh, .int .i64 yl, .int .i64 yh, .int .i64 ql, .int .i64 qh, .int .i64 vl, .int .i64 vh] := by rw [hW5]; exact blk_set2 (blk_far2 A8 (by omega)) rfl
  replace G2 : Blk W5 (w.heap.size + 1) 38 #[.int .i64 0, .int .i64 0, .int .i64 0, .int .i64 0, .int .i64 0, .int .i64 0, .int .i64 0, .int .i64 0] := by rw [hW5]; exact blk_far2 (blk_far2 G2 (by omega)) (by omega)
  replace G3 : Blk W5 (w.heap.size + 1 + 1) 38 #[.int .i64 0, .int .i64 0, .int .i64 0, .int .i64 0, .int .i64 0, .int .i64 0, .int .i64 0, .int .i64 0] := by rw [hW5]; exact blk_far2 (blk_far2 G3 (by omega)) (by omega)
  replace E : Ext w W5 := by rw [hW5]; exact ext_set2 (ext_set2 E (by omega)) (by omega)
  clear c_A7 f_A7 l_A7 c_A8 f_A8 l_A8
  clear hW5 A7 A8
  have c_B7 := B7.cell; have f_B7 := B7.frozen; have l_B7 := B7.lt; have c_B8 := B8.cell; have f_B8 := B8.frozen; have l_B8 := B8.lt
  refine wp_region_tail 2 (fun v => Blk v g7 38 #[.int .i64 xl, .int .i64 xh, .int .i64 yl, .int .i64 yh, .int .i64 pl, .int .i64 ph, .int .i64 vl, .int .i64 vh] ∧ Blk v g8 38 #[.int .i64 xl, .int .i64 xh, .int .i64 yl, .int .i64 yh, .int .i64 ql, .int .i64 qh, .int .i64 vl, .int .i64 vh]) (fun v => (Blk v g7 38 #[.int .i64 xl, .int .i64 xh, .int .i64 yl, .int .i64 yh, .int .i64 pl, .int .i64 ph, .int .i64 vl, .int .i64 vh] ∧ Blk v g8 38 #[.int .i64 xl, .int .i64 xh, .int .i64 yl, .int .i64 yh, .int .i64 ql, .int .i64 qh, .int .i64 vl, .int .i64 vh]) ∧ Blk v (w.heap.size + 1) 38 #[.int .i64 0, .int .i64 0, .int .i64 0, .int .i64 0, .int .i64 0, .int .i64 0, .int .i64 0, .int .i64 0] ∧ Blk v (w.heap.size + 1 + 1) 38 #[.int .i64 0, .int .i64 0, .int .i64 0, .int .i64 0, .int .i64 0, .int .i64 0, .int .i64 0, .int .i64 0] ∧ Ext w v)
    (st5 _ _ _ _ _ _ _ _ _ _ _ _ _) (fun _ h => h.1) ⟨⟨B7.ext (Ext.drew (Ext.refl _)), B8.ext (Ext.drew (Ext.refl _))⟩, G2.ext (Ext.drew (Ext.refl _)), G3.ext (Ext.drew (Ext.refl _)), E.drew⟩ (by kernel_rfl) (by kernel_rfl) ?_
  clear c_B7 f_B7 l_B7 c_B8 f_B8 l_B8
  simp only [List.take_succ_cons, List.take_zero, List.drop_succ_cons, List.drop_zero]
  (repeat' (first | (refine bl_off (by rfl) ?_; simp only [Act.put, List.setIfInBounds_toArray, List.set_cons_zero, List.set_cons_succ]) | (apply bl_op; rfl; (intro w1 h1; obtain ⟨hA, hB⟩ := h1; have cA := hA.cell; have cB := hB.cell; have lA := hA.lt; have lB := hB.lt; go_simp; (try go_bits); (first | exact ⟨rfl, Ext.refl _⟩)); simp only [Act.put, List.setIfInBounds_toArray, List.set_cons_zero, List.set_cons_succ]) | (refine bl_split rfl rfl (fun hx => ?_) (fun hx => ?_) <;> simp only [hx])))
  refine bl_nil ?_
  refine tw_st (F' := fun v => (Blk v g7 38 #[.int .i64 xl, .int .i64 xh, .int .i64 yl, .int .i64 yh, .int .i64 pl, .int .i64 ph, .int .i64 vl, .int .i64 vh] ∧ Blk v g8 38 #[.int .i64 xl, .int .i64 xh, .int .i64 yl, .int .i64 yh, .int .i64 ql, .int .i64 qh, .int .i64 vl, .int .i64 vh]) ∧ Blk v (w.heap.size + 1) 38 #[.int .i64 xl, .int .i64 xh, .int .i64 yl, .int .i64 yh, .int .i64 pl, .int .i64 ph, .int .i64 vl, .int .i64 vh] ∧ Blk v (w.heap.size + 1 + 1) 38 #[.int .i64 0, .int .i64 0, .int .i64 0, .int .i64 0, .int .i64 0, .int .i64 0, .int .i64 0, .int .i64 0] ∧ Ext w v) rfl rfl (st5 _ _ _ _ _ _ _ _ _ _ _ _ _) (fun _ h => h.1) (fun w1 h1 => ?_) ?_
  · obtain ⟨⟨hA, hB⟩, h2, h3, hE⟩ := h1
    have c2 := h2.cell
    have f2 := h2.frozen
    have l2 := h2.lt
    refine ⟨_, (by go_simp; rfl), ?_⟩
    exact ⟨⟨blk_far2 (blk_far2 (blk_far2 (blk_far2 hA (by omega)) (by omega)) (by omega)) (by omega), blk_far2 (blk_far2 (blk_far2 (blk_far2 hB (by omega)) (by omega)) (by omega)) (by omega)⟩, blk_set2 (blk_set2 (blk_set2 (blk_set2 h2 rfl) rfl) rfl) rfl, blk_far2 (blk_far2 (blk_far2 (blk_far2 h3 (by omega)) (by omega)) (by omega)) (by omega), ext_set2 (ext_set2 (ext_set2 (ext_set2 hE (by omega)) (by omega)) (by omega)) (by omega)⟩
  refine tw_st (F' := fun v => (Blk v g7 38 #[.int .i64 xl, .int .i64 xh, .int .i64 yl, .int .i64 yh, .int .i64 pl, .int .i64 ph, .int .i64 vl, .int .i64 vh] ∧ Blk v g8 38 #[.int .i64 xl, .int .i64 xh, .int .i64 yl, .int .i64 yh, .int .i64 ql, .int .i64 qh, .int .i64 vl, .int .i64 vh]) ∧ Blk v (w.heap.size + 1) 38 #[.int .i64 xl, .int .i64 xh, .int .i64 yl, .int .i64 yh, .int .i64 pl, .int .i64 ph, .int .i64 vl, .int .i64 vh] ∧ Blk v (w.heap.size + 1 + 1) 38 #[.int .i64 xl, .int .i64 xh, .int .i64 yl, .int .i64 yh, .int .i64 ql, .int .i64 qh, .int .i64 vl, .int .i64 vh] ∧ Ext w v) rfl rfl (st5 _ _ _ _ _ _ _ _ _ _ _ _ _) (fun _ h => h.1) (fun w1 h1 => ?_) ?_
  · obtain ⟨⟨hA, hB⟩, h2, h3, hE⟩ := h1
    have c3 := h3.cell
    have f3 := h3.frozen
    have l3 := h3.lt
    refine ⟨_, (by go_simp; rfl), ?_⟩
    exact ⟨⟨blk_far2 (blk_far2 (blk_far2 (blk_far2 hA (by omega)) (by omega)) (by omega)) (by omega), blk_far2 (blk_far2 (blk_far2 (blk_far2 hB (by omega)) (by omega)) (by omega)) (by omega)⟩, blk_far2 (blk_far2 (blk_far2 (blk_far2 h2 (by omega)) (by omega)) (by omega)) (by omega), blk_set2 (blk_set2 (blk_set2 (blk_set2 h3 rfl) rfl) rfl) rfl, ext_set2 (ext_set2 (ext_set2 (ext_set2 hE (by omega)) (by omega)) (by omega)) (by omega)⟩
  refine ⟨rfl, fun w1 h1 => ⟨.bool true, w1, _, .inl (by go_simp), st5 _ _ _ _ _ _ _ _ _ _ _ _ _, fun _ h => h.1, h1, ?_⟩⟩
  refine tw_nil ?_
  rintro W9 ⟨_, Q2, Q3, QE⟩
  have c_Q2 := Q2.cell; have f_Q2 := Q2.frozen; have l_Q2 := Q2.lt; have c_Q3 := Q3.cell; have f_Q3 := Q3.frozen; have l_Q3 := Q3.lt
  go_wp2_with fail
  (try simp only [Exit.inBlock, Exit.then]); apply bodyPost_ret; (focus (simp only [results, Tryz.results45]; go_simp; try rfl)); rfl
  exact ⟨rfl, QE⟩
set_option maxRecDepth 20000 in
set_option maxHeartbeats 8000000 in
theorem rSplit_3 (xl xh yl yh ul uh vl vh N pl ph ql qh : Int) (w : World) (hq : N ≠ 0) (hC : ∀ W, Calls Tryz.prog 38 #[.agg #[.int .i64 xl, .int .i64 xh, .int .i64 yl, .int .i64 yh, .int .i64 ul, .int .i64 uh, .int .i64 vl, .int .i64 vh]] W fun e w' => e = .returned (.int .i64 0) ∧ Ext W w')
    (hW : ∀ W, Calls Tryz.prog 100 #[.agg #[.int .i64 xl, .int .i64 xh, .int .i64 yl, .int .i64 yh, .int .i64 ul, .int .i64 uh, .int .i64 vl, .int .i64 vh]] W fun e w' => e = .returned (.tuple #[.int .i64 3, .int .i64 N]) ∧ Ext W w') (hK : ∀ W, Calls Tryz.prog 101 #[.agg #[.int .i64 vl, .int .i64 vh]] W fun e w' => e = .returned (.tuple #[.agg #[.int .i64 pl, .int .i64 ph], .agg #[.int .i64 ql, .int .i64 qh]]) ∧ Ext W w') :
    Calls Tryz.prog 45 #[.agg #[.int .i64 xl, .int .i64 xh, .int .i64 yl, .int .i64 yh, .int .i64 ul, .int .i64 uh, .int .i64 vl, .int .i64 vh]] w fun e w' => e = .returned (.tuple #[.agg #[.int .i64 xl, .int .i64 xh, .int .i64 yl, .int .i64 yh, .int .i64 ul, .int .i64 uh, .int .i64 pl, .int .i64 ph], .agg #[.int .i64 xl, .int .i64 xh, .int .i64 yl, .int .i64 yh, .int .i64 ul, .int .i64 uh, .int .i64 ql, .int .i64 qh], .bool true]) ∧ Ext w w' := by
  have HC := Lib.hid hC
  have HW := Lib.hid hW
  have HK := Lib.hid hK
  have hq0 : (N == 0) = false := by simpa using hq
  clear hC hW hK hq
  go_enter Tryz.func45, Tryz.ntmps45
  go_wp2_with fail
  refine (HW.out _).mono ?_
  rintro e w1 ⟨rfl, h1⟩
  have B1 : Blk w1 w.heap.size 38 #[.int .i64 xl, .int .i64 xh, .int .i64 yl, .int .i64 yh, .int .i64 ul, .int .i64 uh, .int .i64 vl, .int .i64 vh] := (((Blk.new w _ _).alloc _).alloc _).ext h1
  have G2 : Blk w1 (w.heap.size + 1) 38 #[.int .i64 0, .int .i64 0, .int .i64 0, .int .i64 0, .int .i64 0, .int .i64 0, .int .i64 0, .int .i64 0] := ((Blk.newAt (by simp)).alloc _).ext h1
  have G3 : Blk w1 (w.heap.size + 1 + 1) 38 #[.int .i64 0, .int .i64 0, .int .i64 0, .int .i64 0, .int .i64 0, .int .i64 0, .int .i64 0, .int .i64 0] := (Blk.newAt (by simp)).ext h1
  have E : Ext w w1 := by (repeat' (first | exact Ext.refl _ | assumption | apply Ext.alloc | apply Ext.drew | refine Ext.set ?_ (by dsimp only; omega) _ | refine Ext.trans ?_ (by assumption)))
  clear h1
  have c_B1 := B1.cell; have f_B1 := B1.frozen; have l_B1 := B1.lt; have c_G2 := G2.cell; have f_G2 := G2.frozen; have l_G2 := G2.lt; have c_G3 := G3.cell; have f_G3 := G3.frozen; have l_G3 := G3.lt
  go_wp2_with fail
  refine (HC.out _).mono ?_
  rintro e V2 ⟨rfl, hV2⟩
  clear c_B1 f_B1 l_B1
  replace B1 := B1.ext hV2
  clear c_G2 f_G2 l_G2
  replace G2 := G2.ext hV2
  clear c_G3 f_G3 l_G3
  replace G3 := G3.ext hV2
  replace E : Ext w V2 := Ext.trans (by (repeat' (first | exact Ext.refl _ | assumption | apply Ext.alloc | apply Ext.drew | refine Ext.set ?_ (by dsimp only; omega) _ | refine Ext.trans ?_ (by assumption)))) hV2
  clear hV2
  have c_B1 := B1.cell; have f_B1 := B1.frozen; have l_B1 := B1.lt; have c_G2 := G2.cell; have f_G2 := G2.frozen; have l_G2 := G2.lt; have c_G3 := G3.cell; have f_G3 := G3.frozen; have l_G3 := G3.lt
  go_wp2_with fail
  have l3 := G3.lt
  refine wp_region_gen [0, 1] [2, 3] [4, 5] (Ext _) (Ext _) (Stable.ext _) (fun _ h => h) (Ext.drew (Ext.refl _)) (by kernel_rfl) (by kernel_rfl) ?_; simp only [pick, List.drop_succ_cons, List.drop_zero]; (repeat' (first | (refine bl_off (by rfl) ?_; simp only [Act.put, List.setIfInBounds_toArray, List.set_cons_zero, List.set_cons_succ]) | (apply bl_op; rfl; (intro w1 h1; obtain ⟨hc, hf, hz⟩ := bcell h1; go_simp; (try go_bits); (first | exact ⟨rfl, Ext.refl _⟩ | (apply gives_call; fail) | (go_invoke; go_simp; apply gives_call; fail))); simp only [Act.put, List.setIfInBounds_toArray, List.set_cons_zero, List.set_cons_succ]) | (refine bl_split rfl rfl (fun hx => ?_) (fun hx => ?_) <;> simp only [hx]))); refine bl_nil ?_; refine ag_two (e1 := 38) (e2 := 38) (zs1 := #[.int .i64 0, .int .i64 0, .int .i64 0, .int .i64 0, .int .i64 0, .int .i64 0, .int .i64 0, .int .i64 0]) (zs2 := #[.int .i64 0, .int .i64 0, .int .i64 0, .int .i64 0, .int .i64 0, .int .i64 0, .int .i64 0, .int .i64 0]) (Stable.ext _) (fun _ h => h) (by decide) rfl rfl (fun u v => rfl) (fun v w => ⟨by simp only [opAt]; go_simp, by simp only [opAt]; go_simp⟩) (fun v w => ⟨by simp only [opAt]; go_simp, by simp only [opAt]; go_simp⟩) (fun g7 g8 hb_g7 hb_g8 hne_g7 => ?_); (try simp only [opAt]); (try simp only [Act.put, List.setIfInBounds_toArray]); refine tg_skip (fun w => Ext _ w ∧ Blk w g7 38 #[.int .i64 xl, .int .i64 xh, .int .i64 yl, .int .i64 yh, .int .i64 ul, .int .i64 uh, .int .i64 vl, .int .i64 vh] ∧ Blk w g8 38 #[.int .i64 0, .int .i64 0, .int .i64 0, .int .i64 0, .int .i64 0, .int .i64 0, .int .i64 0, .int .i64 0]) rfl rfl ((Stable.ext _).and ((Stable.blk _ _ _).and (Stable.blk _ _ _))) (fun _ h => h.1) (fun wx hx => ?_) ?_; (focus (obtain ⟨hx, hB1, hB2⟩ := hx; have hcB := hB1.cell; have hfB := hB1.frozen; have hlB := hB1.lt; refine ⟨_, (by go_simp; rfl), ?_⟩; have q0 : Blk (wx.setCell ⟨g7, 0, none⟩ (.int .i64 xl)) g7 38 #[.int .i64 xl, .int .i64 0, .int .i64 0, .int .i64 0, .int .i64 0, .int .i64 0, .int .i64 0, .int .i64 0] := hB1.set_ 0 _; have p0 : Ext _ (wx.setCell ⟨g7, 0, none⟩ (.int .i64 xl)) := Ext.set hx (by dsimp only; omega) _; have o0 := Blk.far (p := ⟨g7, 0, none⟩) hB2 (by dsimp only; omega) (.int .i64 xl); have q1 : Blk ((wx.setCell ⟨g7, 0, none⟩ (.int .i64 xl)).setCell ⟨g7, 1, none⟩ (.int .i64 xh)) g7 38 #[.int .i64 xl, .int .i64 xh, .int .i64 0, .int .i64 0, .int .i64 0, .int .i64 0, .int .i64 0, .int .i64 0] := q0.set_ 1 _; have p1 : Ext _ ((wx.setCell ⟨g7, 0, none⟩ (.int .i64 xl)).setCell ⟨g7, 1, none⟩ (.int .i64 xh)) := Ext.set p0 (by dsimp only; omega) _; have o1 := Blk.far (p := ⟨g7, 1, none⟩) o0 (by dsimp only; omega) (.int .i64 xh); have q2 : Blk (((wx.setCell ⟨g7, 0, none⟩ (.int .i64 xl)).setCell ⟨g7, 1, none⟩ (.int .i64 xh)).setCell ⟨g7, 2, none⟩ (.int .i64 yl)) g7 38 #[.int .i64 xl, .int .i64 xh, .int .i64 yl, .int .i64 0, .int .i64 0, .int .i64 0, .int .i64 0, .int .i64 0] := q1.set_ 2 _; have p2 : Ext _ (((wx.setCell ⟨g7, 0, none⟩ (.int .i64 xl)).setCell ⟨g7, 1, none⟩ (.int .i64 xh)).setCell ⟨g7, 2, none⟩ (.int .i64 yl)) := Ext.set p1 (by dsimp only; omega) _; have o2 := Blk.far (p := ⟨g7, 2, none⟩) o1 (by dsimp only; omega) (.int .i64 yl); have q3 : Blk ((((wx.setCell ⟨g7, 0, none⟩ (.int .i64 xl)).setCell ⟨g7, 1, none⟩ (.int .i64 xh)).setCell ⟨g7, 2, none⟩ (.int .i64 yl)).setCell ⟨g7, 3, none⟩ (.int .i64 yh)) g7 38 #[.int .i64 xl, .int .i64 xh, .int .i64 yl, .int .i64 yh, .int .i64 0, .int .i64 0, .int .i64 0, .int .i64 0] := q2.set_ 3 _; have p3 : Ext _ ((((wx.setCell ⟨g7, 0, none⟩ (.int .i64 xl)).setCell ⟨g7, 1, none⟩ (.int .i64 xh)).setCell ⟨g7, 2, none⟩ (.int .i64 yl)).setCell ⟨g7, 3, none⟩ (.int .i64 yh)) := Ext.set p2 (by dsimp only; omega) _; have o3 := Blk.far (p := ⟨g7, 3, none⟩) o2 (by dsimp only; omega) (.int .i64 yh); have q4 : Blk (((((wx.setCell ⟨g7, 0, none⟩ (.int .i64 xl)).setCell ⟨g7, 1, none⟩ (.int .i64 xh)).setCell ⟨g7, 2, none⟩ (.int .i64 yl)).setCell ⟨g7, 3, none⟩ (.int .i64 yh)).setCell ⟨g7, 4, none⟩ (.int .i64 ul)) g7 38 #[.int .i64 xl, .int .i64 xh, .int .i64 yl, .int .i64 yh, .int .i64 ul, .int .i64 0, .int .i64 0, .int .i64 0] := q3.set_ 4 _; have p4 : Ext _ (((((wx.setCell ⟨g7, 0, none⟩ (.int .i64 xl)).setCell ⟨g7, 1, none⟩ (.int .i64 xh)).setCell ⟨g7, 2, none⟩ (.int .i64 yl)).setCell ⟨g7, 3, none⟩ (.int .i64 yh)).setCell ⟨g7, 4, none⟩ (.int .i64 ul)) := Ext.set p3 (by dsimp only; omega) _; have o4 := Blk.far (p := ⟨g7, 4, none⟩) o3 (by dsimp only; omega) (.int .i64 ul); have q5 : Blk ((((((wx.setCell ⟨g7, 0, none⟩ (.int .i64 xl)).setCell ⟨g7, 1, none⟩ (.int .i64 xh)).setCell ⟨g7, 2, none⟩ (.int .i64 yl)).setCell ⟨g7, 3, none⟩ (.int .i64 yh)).setCell ⟨g7, 4, none⟩ (.int .i64 ul)).setCell ⟨g7, 5, none⟩ (.int .i64 uh)) g7 38 #[.int .i64 xl, .int .i64 xh, .int .i64 yl, .int .i64 yh, .int .i64 ul, .int .i64 uh, .int .i64 0, .int .i64 0] := q4.set_ 5 _; have p5 : Ext _ ((((((wx.setCell ⟨g7, 0, none⟩ (.int .i64 xl)).setCell ⟨g7, 1, none⟩ (.int .i64 xh)).setCell ⟨g7, 2, none⟩ (.int .i64 yl)).setCell ⟨g7, 3, none⟩ (.int .i64 yh)).setCell ⟨g7, 4, none⟩ (.int .i64 ul)).setCell ⟨g7, 5, none⟩ (.int .i64 uh)) := Ext.set p4 (by dsimp only; omega) _; have o5 := Blk.far (p := ⟨g7, 5, none⟩) o4 (by dsimp only; omega) (.int .i64 uh); have q6 : Blk (((((((wx.setCell ⟨g7, 0, none⟩ (.int .i64 xl)).setCell ⟨g7, 1, none⟩ (.int .i64 xh)).setCell ⟨g7, 2, none⟩ (.int .i64 yl)).setCell ⟨g7, 3, none⟩ (.int .i64 yh)).setCell ⟨g7, 4, none⟩ (.int .i64 ul)).setCell ⟨g7, 5, none⟩ (.int .i64 uh)).setCell ⟨g7, 6, none⟩ (.int .i64 vl)) g7 38 #[.int .i64 xl, .int .i64 xh, .int .i64 yl, .int .i64 yh, .int .i64 ul, .int .i64 uh, .int .i64 vl, .int .i64 0] := q5.set_ 6 _; have p6 : Ext _ (((((((wx.setCell ⟨g7, 0, none⟩ (.int .i64 xl)).setCell ⟨g7, 1, none⟩ (.int .i64 xh)).setCell ⟨g7, 2, none⟩ (.int .i64 yl)).setCell ⟨g7, 3, none⟩ (.int .i64 yh)).setCell ⟨g7, 4, none⟩ (.int .i64 ul)).setCell ⟨g7, 5, none⟩ (.int .i64 uh)).setCell ⟨g7, 6, none⟩ (.int .i64 vl)) := Ext.set p5 (by dsimp only; omega) _; have o6 := Blk.far (p := ⟨g7, 6, none⟩) o5 (by dsimp only; omega) (.int .i64 vl); have q7 : Blk ((((((((wx.setCell ⟨g7, 0, none⟩ (.int .i64 xl)).setCell ⟨g7, 1, none⟩ (.int .i64 xh)).setCell ⟨g7, 2, none⟩ (.int .i64 yl)).setCell ⟨g7, 3, none⟩ (.int .i64 yh)).setCell ⟨g7, 4, none⟩ (.int .i64 ul)).setCell ⟨g7, 5, none⟩ (.int .i64 uh)).setCell ⟨g7, 6, none⟩ (.int .i64 vl)).setCell ⟨g7, 7, none⟩ (.int .i64 vh)) g7 38 #[.int .i64 xl, .int .i64 xh, .int .i64 yl, .int .i64 yh, .int .i64 ul, .int .i64 uh, .int .i64 vl, .int .i64 vh] := q6.set_ 7 _; have p7 : Ext _ ((((((((wx.setCell ⟨g7, 0, none⟩ (.int .i64 xl)).setCell ⟨g7, 1, none⟩ (.int .i64 xh)).setCell ⟨g7, 2, none⟩ (.int .i64 yl)).setCell ⟨g7, 3, none⟩ (.int .i64 yh)).setCell ⟨g7, 4, none⟩ (.int .i64 ul)).setCell ⟨g7, 5, none⟩ (.int .i64 uh)).setCell ⟨g7, 6, none⟩ (.int .i64 vl)).setCell ⟨g7, 7, none⟩ (.int .i64 vh)) := Ext.set p6 (by dsimp only; omega) _; have o7 := Blk.far (p := ⟨g7, 7, none⟩) o6 (by dsimp only; omega) (.int .i64 vh); exact ⟨p7, q7, o7⟩)); refine tg_skip (fun w => Ext _ w ∧ Blk w g7 38 #[.int .i64 xl, .int .i64 xh, .int .i64 yl, .int .i64 yh, .int .i64 ul, .int .i64 uh, .int .i64 vl, .int .i64 vh] ∧ Blk w g8 38 #[.int .i64 xl, .int .i64 xh, .int .i64 yl, .int .i64 yh, .int .i64 ul, .int .i64 uh, .int .i64 vl, .int .i64 vh]) rfl rfl ((Stable.ext _).and ((Stable.blk _ _ _).and (Stable.blk _ _ _))) (fun _ h => h.1) (fun wx hx => ?_) ?_; (focus (obtain ⟨hx, hB1, hB2⟩ := hx; have hcB := hB2.cell; have hfB := hB2.frozen; have hlB := hB2.lt; refine ⟨_, (by go_simp; rfl), ?_⟩; have q0 : Blk (wx.setCell ⟨g8, 0, none⟩ (.int .i64 xl)) g8 38 #[.int .i64 xl, .int .i64 0, .int .i64 0, .int .i64 0, .int .i64 0, .int .i64 0, .int .i64 0, .int .i64 0] := hB2.set_ 0 _; have p0 : Ext _ (wx.setCell ⟨g8, 0, none⟩ (.int .i64 xl)) := Ext.set hx (by dsimp only; omega) _; have o0 := Blk.far (p := ⟨g8, 0, none⟩) hB1 (by dsimp only; omega) (.int .i64 xl); have q1 : Blk ((wx.setCell ⟨g8, 0, none⟩ (.int .i64 xl)).setCell ⟨g8, 1, none⟩ (.int .i64 xh)) g8 38 #[.int .i64 xl, .int .i64 xh, .int .i64 0, .int .i64 0, .int .i64 0, .int .i64 0, .int .i64 0, .int .i64 0] := q0.set_ 1 _; have p1 : Ext _ ((wx.setCell ⟨g8, 0, none⟩ (.int .i64 xl)).setCell ⟨g8, 1, none⟩ (.int .i64 xh)) := Ext.set p0 (by dsimp only; omega) _; have o1 := Blk.far (p := ⟨g8, 1, none⟩) o0 (by dsimp only; omega) (.int .i64 xh); have q2 : Blk (((wx.setCell ⟨g8, 0, none⟩ (.int .i64 xl)).setCell ⟨g8, 1, none⟩ (.int .i64 xh)).setCell ⟨g8, 2, none⟩ (.int .i64 yl)) g8 38 #[.int .i64 xl, .int .i64 xh, .int .i64 yl, .int .i64 0, .int .i64 0, .int .i64 0, .int .i64 0, .int .i64 0] := q1.set_ 2 _; have p2 : Ext _ (((wx.setCell ⟨g8, 0, none⟩ (.int .i64 xl)).setCell ⟨g8, 1, none⟩ (.int .i64 xh)).setCell ⟨g8, 2, none⟩ (.int .i64 yl)) := Ext.set p1 (by dsimp only; omega) _; have o2 := Blk.far (p := ⟨g8, 2, none⟩) o1 (by dsimp only; omega) (.int .i64 yl); have q3 : Blk ((((wx.setCell ⟨g8, 0, none⟩ (.int .i64 xl)).setCell ⟨g8, 1, none⟩ (.int .i64 xh)).setCell ⟨g8, 2, none⟩ (.int .i64 yl)).setCell ⟨g8, 3, none⟩ (.int .i64 yh)) g8 38 #[.int .i64 xl, .int .i64 xh, .int .i64 yl, .int .i64 yh, .int .i64 0, .int .i64 0, .int .i64 0, .int .i64 0] := q2.set_ 3 _; have p3 : Ext _ ((((wx.setCell ⟨g8, 0, none⟩ (.int .i64 xl)).setCell ⟨g8, 1, none⟩ (.int .i64 xh)).setCell ⟨g8, 2, none⟩ (.int .i64 yl)).setCell ⟨g8, 3, none⟩ (.int .i64 yh)) := Ext.set p2 (by dsimp only; omega) _; have o3 := Blk.far (p := ⟨g8, 3, none⟩) o2 (by dsimp only; omega) (.int .i64 yh); have q4 : Blk (((((wx.setCell ⟨g8, 0, none⟩ (.int .i64 xl)).setCell ⟨g8, 1, none⟩ (.int .i64 xh)).setCell ⟨g8, 2, none⟩ (.int .i64 yl)).setCell ⟨g8, 3, none⟩ (.int .i64 yh)).setCell ⟨g8, 4, none⟩ (.int .i64 ul)) g8 38 #[.int .i64 xl, .int .i64 xh, .int .i64 yl, .int .i64 yh, .int .i64 ul, .int .i64 0, .int .i64 0, .int .i64 0] := q3.set_ 4 _; have p4 : Ext _ (((((wx.setCell ⟨g8, 0, none⟩ (.int .i64 xl)).setCell ⟨g8, 1, none⟩ (.int .i64 xh)).setCell ⟨g8, 2, none⟩ (.int .i64 yl)).setCell ⟨g8, 3, none⟩ (.int .i64 yh)).setCell ⟨g8, 4, none⟩ (.int .i64 ul)) := Ext.set p3 (by dsimp only; omega) _; have o4 := Blk.far (p := ⟨g8, 4, none⟩) o3 (by dsimp only; omega) (.int .i64 ul); have q5 : Blk ((((((wx.setCell ⟨g8, 0, none⟩ (.int .i64 xl)).setCell ⟨g8, 1, none⟩ (.int .i64 xh)).setCell ⟨g8, 2, none⟩ (.int .i64 yl)).setCell ⟨g8, 3, none⟩ (.int .i64 yh)).setCell ⟨g8, 4, none⟩ (.int .i64 ul)).setCell ⟨g8, 5, none⟩ (.int .i64 uh)) g8 38 #[.int .i64 xl, .int .i64 xh, .int .i64 yl, .int .i64 yh, .int .i64 ul, .int .i64 uh, .int .i64 0, .int .i64 0] := q4.set_ 5 _; have p5 : Ext _ ((((((wx.setCell ⟨g8, 0, none⟩ (.int .i64 xl)).setCell ⟨g8, 1, none⟩ (.int .i64 xh)).setCell ⟨g8, 2, none⟩ (.int .i64 yl)).setCell ⟨g8, 3, none⟩ (.int .i64 yh)).setCell ⟨g8, 4, none⟩ (.int .i64 ul)).setCell ⟨g8, 5, none⟩ (.int .i64 uh)) := Ext.set p4 (by dsimp only; omega) _; have o5 := Blk.far (p := ⟨g8, 5, none⟩) o4 (by dsimp only; omega) (.int .i64 uh); have q6 : Blk (((((((wx.setCell ⟨g8, 0, none⟩ (.int .i64 xl)).setCell ⟨g8, 1, none⟩ (.int .i64 xh)).setCell ⟨g8, 2, none⟩ (.int .i64 yl)).setCell ⟨g8, 3, none⟩ (.int .i64 yh)).setCell ⟨g8, 4, none⟩ (.int .i64 ul)).setCell ⟨g8, 5, none⟩ (.int .i64 uh)).setCell ⟨g8, 6, none⟩ (.int .i64 vl)) g8 38 #[.int .i64 xl, .int .i64 xh, .int .i64 yl, .int .i64 yh, .int .i64 ul, .int .i64 uh, .int .i64 vl, .int .i64 0] := q5.set_ 6 _; have p6 : Ext _ (((((((wx.setCell ⟨g8, 0, none⟩ (.int .i64 xl)).setCell ⟨g8, 1, none⟩ (.int .i64 xh)).setCell ⟨g8, 2, none⟩ (.int .i64 yl)).setCell ⟨g8, 3, none⟩ (.int .i64 yh)).setCell ⟨g8, 4, none⟩ (.int .i64 ul)).setCell ⟨g8, 5, none⟩ (.int .i64 uh)).setCell ⟨g8, 6, none⟩ (.int .i64 vl)) := Ext.set p5 (by dsimp only; omega) _; have o6 := Blk.far (p := ⟨g8, 6, none⟩) o5 (by dsimp only; omega) (.int .i64 vl); have q7 : Blk ((((((((wx.setCell ⟨g8, 0, none⟩ (.int .i64 xl)).setCell ⟨g8, 1, none⟩ (.int .i64 xh)).setCell ⟨g8, 2, none⟩ (.int .i64 yl)).setCell ⟨g8, 3, none⟩ (.int .i64 yh)).setCell ⟨g8, 4, none⟩ (.int .i64 ul)).setCell ⟨g8, 5, none⟩ (.int .i64 uh)).setCell ⟨g8, 6, none⟩ (.int .i64 vl)).setCell ⟨g8, 7, none⟩ (.int .i64 vh)) g8 38 #[.int .i64 xl, .int .i64 xh, .int .i64 yl, .int .i64 yh, .int .i64 ul, .int .i64 uh, .int .i64 vl, .int .i64 vh] := q6.set_ 7 _; have p7 : Ext _ ((((((((wx.setCell ⟨g8, 0, none⟩ (.int .i64 xl)).setCell ⟨g8, 1, none⟩ (.int .i64 xh)).setCell ⟨g8, 2, none⟩ (.int .i64 yl)).setCell ⟨g8, 3, none⟩ (.int .i64 yh)).setCell ⟨g8, 4, none⟩ (.int .i64 ul)).setCell ⟨g8, 5, none⟩ (.int .i64 uh)).setCell ⟨g8, 6, none⟩ (.int .i64 vl)).setCell ⟨g8, 7, none⟩ (.int .i64 vh)) := Ext.set p6 (by dsimp only; omega) _; have o7 := Blk.far (p := ⟨g8, 7, none⟩) o6 (by dsimp only; omega) (.int .i64 vh); exact ⟨p7, o7, q7⟩)); refine tg_nil ?_; rintro W3 ⟨hE_W3, hB_g7, hB_g8⟩
  clear c_B1 f_B1 l_B1 c_G2 f_G2 l_G2 c_G3 f_G3 l_G3
  replace B1 := B1.ext hE_W3
  replace G2 := G2.ext hE_W3
  replace G3 := G3.ext hE_W3
  replace E := E.trans hE_W3
  simp only [Array.getD_eq_getD_getElem?, List.getElem?_toArray, List.getElem?_cons_succ, List.getElem?_cons_zero, Option.getD_some, List.setIfInBounds_toArray, List.set_cons_zero, List.set_cons_succ]
  have o1 : w.heap.size + 1 + 1 < g7 := by omega
  have o2 : w.heap.size + 1 + 1 < g8 := by omega
  clear hE_W3
  have c_B1 := B1.cell; have f_B1 := B1.frozen; have l_B1 := B1.lt
  go_wp2_with fail
  refine (HK.out _).mono ?_
  rintro e W4 ⟨rfl, h4⟩
  have A7 := hB_g7.ext h4
  have A8 := hB_g8.ext h4
  replace G2 := G2.ext h4
  replace G3 := G3.ext h4
  replace E := E.trans h4
  clear c_B1 f_B1 l_B1
  clear h4 B1 hB_g7 hB_g8
  have c_A7 := A7.cell; have f_A7 := A7.frozen; have l_A7 := A7.lt; have c_A8 := A8.cell; have f_A8 := A8.frozen; have l_A8 := A8.lt
  go_wp2_with fail
  refine name_world _ ?_
  intro W5 hW5
  have B7 : Blk W5 g7 38 #[.int .i64 xl, .int .i64 xh, .int .i64 yl, .int .i64 yh, .int .i64 ul, .int .i64 uh, .int .i64 pl, .int .i64 ph] := by rw [hW5]; exact blk_far2 (blk_set2 A7 rfl) (by omega)
  have B8 : Blk W5 g8 38 #[.int .i64 xl, .int .i64 xh, .int .i64 yl, .int .i64 yh, .int .i64 ul, .int .i64 uh, .int .i64 ql, .int .i64 qh] := by rw [hW5]; exact blk_set2 (blk_far2 A8 (by omega)) rfl
  replace G2 : Blk W5 (w.heap.size + 1) 38 #[.int .i64 0, .int .i64 0, .int .i64 0, .int .i64 0, .int .i64 0, .int .i64 0, .int .i64 0, .int .i64 0] := by rw [hW5]; exact blk_far2 (blk_far2 G2 (by omega)) (by omega)
  replace G3 : Blk W5 (w.heap.size + 1 + 1) 38 #[.int .i64 0, .int .i64 0, .int .i64 0, .int .i64 0, .int .i64 0, .int .i64 0, .int .i64 0, .int .i64 0] := by rw [hW5]; exact blk_far2 (blk_far2 G3 (by omega)) (by omega)
  replace E : Ext w W5 := by rw [hW5]; exact ext_set2 (ext_set2 E (by omega)) (by omega)
  clear c_A7 f_A7 l_A7 c_A8 f_A8 l_A8
  clear hW5 A7 A8
  have c_B7 := B7.cell; have f_B7 := B7.frozen; have l_B7 := B7.lt; have c_B8 := B8.cell; have f_B8 := B8.frozen; have l_B8 := B8.lt
  refine wp_region_tail 2 (fun v => Blk v g7 38 #[.int .i64 xl, .int .i64 xh, .int .i64 yl, .int .i64 yh, .int .i64 ul, .int .i64 uh, .int .i64 pl, .int .i64 ph] ∧ Blk v g8 38 #[.int .i64 xl, .int .i64 xh, .int .i64 yl, .int .i64 yh, .int .i64 ul, .int .i64 uh, .int .i64 ql, .int .i64 qh]) (fun v => (Blk v g7 38 #[.int .i64 xl, .int .i64 xh, .int .i64 yl, .int .i64 yh, .int .i64 ul, .int .i64 uh, .int .i64 pl, .int .i64 ph] ∧ Blk v g8 38 #[.int .i64 xl, .int .i64 xh, .int .i64 yl, .int .i64 yh, .int .i64 ul, .int .i64 uh, .int .i64 ql, .int .i64 qh]) ∧ Blk v (w.heap.size + 1) 38 #[.int .i64 0, .int .i64 0, .int .i64 0, .int .i64 0, .int .i64 0, .int .i64 0, .int .i64 0, .int .i64 0] ∧ Blk v (w.heap.size + 1 + 1) 38 #[.int .i64 0, .int .i64 0, .int .i64 0, .int .i64 0, .int .i64 0, .int .i64 0, .int .i64 0, .int .i64 0] ∧ Ext w v)
    (st5 _ _ _ _ _ _ _ _ _ _ _ _ _) (fun _ h => h.1) ⟨⟨B7.ext (Ext.drew (Ext.refl _)), B8.ext (Ext.drew (Ext.refl _))⟩, G2.ext (Ext.drew (Ext.refl _)), G3.ext (Ext.drew (Ext.refl _)), E.drew⟩ (by kernel_rfl) (by kernel_rfl) ?_
  clear c_B7 f_B7 l_B7 c_B8 f_B8 l_B8
  simp only [List.take_succ_cons, List.take_zero, List.drop_succ_cons, List.drop_zero]
  (repeat' (first | (refine bl_off (by rfl) ?_; simp only [Act.put, List.setIfInBounds_toArray, List.set_cons_zero, List.set_cons_succ]) | (apply bl_op; rfl; (intro w1 h1; obtain ⟨hA, hB⟩ := h1; have cA := hA.cell; have cB := hB.cell; have lA := hA.lt; have lB := hB.lt; go_simp; (try go_bits); (first | exact ⟨rfl, Ext.refl _⟩)); simp only [Act.put, List.setIfInBounds_toArray, List.set_cons_zero, List.set_cons_succ]) | (refine bl_split rfl rfl (fun hx => ?_) (fun hx => ?_) <;> simp only [hx])))
  refine bl_nil ?_
  refine tw_st (F' := fun v => (Blk v g7 38 #[.int .i64 xl, .int .i64 xh, .int .i64 yl, .int .i64 yh, .int .i64 ul, .int .i64 uh, .int .i64 pl, .int .i64 ph] ∧ Blk v g8 38 #[.int .i64 xl, .int .i64 xh, .int .i64 yl, .int .i64 yh, .int .i64 ul, .int .i64 uh, .int .i64 ql, .int .i64 qh]) ∧ Blk v (w.heap.size + 1) 38 #[.int .i64 xl, .int .i64 xh, .int .i64 yl, .int .i64 yh, .int .i64 ul, .int .i64 uh, .int .i64 pl, .int .i64 ph] ∧ Blk v (w.heap.size + 1 + 1) 38 #[.int .i64 0, .int .i64 0, .int .i64 0, .int .i64 0, .int .i64 0, .int .i64 0, .int .i64 0, .int .i64 0] ∧ Ext w v) rfl rfl (st5 _ _ _ _ _ _ _ _ _ _ _ _ _) (fun _ h => h.1) (fun w1 h1 => ?_) ?_
  · obtain ⟨⟨hA, hB⟩, h2, h3, hE⟩ := h1
    have c2 := h2.cell
    have f2 := h2.frozen
    have l2 := h2.lt
    refine ⟨_, (by go_simp; rfl), ?_⟩
    exact ⟨⟨blk_far2 (blk_far2 (blk_far2 (blk_far2 hA (by omega)) (by omega)) (by omega)) (by omega), blk_far2 (blk_far2 (blk_far2 (blk_far2 hB (by omega)) (by omega)) (by omega)) (by omega)⟩, blk_set2 (blk_set2 (blk_set2 (blk_set2 h2 rfl) rfl) rfl) rfl, blk_far2 (blk_far2 (blk_far2 (blk_far2 h3 (by omega)) (by omega)) (by omega)) (by omega), ext_set2 (ext_set2 (ext_set2 (ext_set2 hE (by omega)) (by omega)) (by omega)) (by omega)⟩
  refine tw_st (F' := fun v => (Blk v g7 38 #[.int .i64 xl, .int .i64 xh, .int .i64 yl, .int .i64 yh, .int .i64 ul, .int .i64 uh, .int .i64 pl, .int .i64 ph] ∧ Blk v g8 38 #[.int .i64 xl, .int .i64 xh, .int .i64 yl, .int .i64 yh, .int .i64 ul, .int .i64 uh, .int .i64 ql, .int .i64 qh]) ∧ Blk v (w.heap.size + 1) 38 #[.int .i64 xl, .int .i64 xh, .int .i64 yl, .int .i64 yh, .int .i64 ul, .int .i64 uh, .int .i64 pl, .int .i64 ph] ∧ Blk v (w.heap.size + 1 + 1) 38 #[.int .i64 xl, .int .i64 xh, .int .i64 yl, .int .i64 yh, .int .i64 ul, .int .i64 uh, .int .i64 ql, .int .i64 qh] ∧ Ext w v) rfl rfl (st5 _ _ _ _ _ _ _ _ _ _ _ _ _) (fun _ h => h.1) (fun w1 h1 => ?_) ?_
  · obtain ⟨⟨hA, hB⟩, h2, h3, hE⟩ := h1
    have c3 := h3.cell
    have f3 := h3.frozen
    have l3 := h3.lt
    refine ⟨_, (by go_simp; rfl), ?_⟩
    exact ⟨⟨blk_far2 (blk_far2 (blk_far2 (blk_far2 hA (by omega)) (by omega)) (by omega)) (by omega), blk_far2 (blk_far2 (blk_far2 (blk_far2 hB (by omega)) (by omega)) (by omega)) (by omega)⟩, blk_far2 (blk_far2 (blk_far2 (blk_far2 h2 (by omega)) (by omega)) (by omega)) (by omega), blk_set2 (blk_set2 (blk_set2 (blk_set2 h3 rfl) rfl) rfl) rfl, ext_set2 (ext_set2 (ext_set2 (ext_set2 hE (by omega)) (by omega)) (by omega)) (by omega)⟩
  refine ⟨rfl, fun w1 h1 => ⟨.bool true, w1, _, .inl (by go_simp), st5 _ _ _ _ _ _ _ _ _ _ _ _ _, fun _ h => h.1, h1, ?_⟩⟩
  refine tw_nil ?_
  rintro W9 ⟨_, Q2, Q3, QE⟩
  have c_Q2 := Q2.cell; have f_Q2 := Q2.frozen; have l_Q2 := Q2.lt; have c_Q3 := Q3.cell; have f_Q3 := Q3.frozen; have l_Q3 := Q3.lt
  go_wp2_with fail
  (try simp only [Exit.inBlock, Exit.then]); apply bodyPost_ret; (focus (simp only [results, Tryz.results45]; go_simp; try rfl)); rfl
  exact ⟨rfl, QE⟩
theorem rSplit_c (b : Bx) (w : World) :
    Calls Tryz.prog 45 #[bxV b] w fun e w' => e = .returned (splitV b) ∧ Ext w w' := by
  by_cases h : bxErr b = 0
  · by_cases h2 : (widB b).2 = 0
    · have hs : splitOk b = false := by unfold splitOk; simp [h2]
      unfold splitV
      rw [hs, if_neg (by decide)]
      exact rSplit_no b (bxErr b) _ _ w (.inr h2) (fun W => rCheckBox_c b W) (fun W => rWidest_c b W h)
    · have hs : splitOk b = true := by unfold splitOk; simp [h, h2]
      unfold splitV
      rw [hs, if_pos rfl]
      have hC := fun W => rCheckBox_c b W
      rw [h] at hC
      have hW := fun W => rWidest_c b W h
      have hlt := wid_lt b h
      have hbd := bxErr_iff.1 h
      unfold BxOk Sm at hbd
      unfold partL partR
      generalize (widB b).2 = N at *
      generalize (widB b).1 = i at *
      obtain ⟨⟨xl, xh⟩, ⟨yl, yh⟩, ⟨ul, uh⟩, vl, vh⟩ := b
      dsimp only at *
      obtain ⟨h3, h4, h5⟩ := hlt
      rcases (show i = 0 ∨ i = 1 ∨ i = 2 ∨ i = 3 by omega) with rfl | rfl | rfl | rfl
      · exact rSplit_0 xl xh yl yh ul uh vl vh N _ _ _ _ w h2 hC hW (fun W => rCutS_c xl xh W (by omega) (by omega))
      · exact rSplit_1 xl xh yl yh ul uh vl vh N _ _ _ _ w h2 hC hW (fun W => rCutS_c yl yh W (by omega) (by omega))
      · exact rSplit_2 xl xh yl yh ul uh vl vh N _ _ _ _ w h2 hC hW (fun W => rCutS_c ul uh W (by omega) (by omega))
      · exact rSplit_3 xl xh yl yh ul uh vl vh N _ _ _ _ w h2 hC hW (fun W => rCutS_c vl vh W (by omega) (by omega))
  · have hs : splitOk b = false := by unfold splitOk; simp [h]
    unfold splitV
    rw [hs, if_neg (by decide)]
    exact rSplit_wrong b (bxErr b) w h (fun W => rCheckBox_c b W) (fun W => rWidest_some b W)
end Go.Proofs.YtfniicgoeljmdaaGreat
