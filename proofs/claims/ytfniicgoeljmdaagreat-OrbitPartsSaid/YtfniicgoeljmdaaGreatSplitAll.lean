/- The parts of a box: the program's Split. No condition. -/
import Derived.Test.YtfniicgoeljmdaaGreatSplit
namespace Go.Proofs.YtfniicgoeljmdaaGreat
open Go.RowKit

theorem oCutB_c (b : Bx) (w : World) (h : bxErr b = 0) :
    Calls Tryz.prog 90 #[.agg #[.int .i64 b.x.lo, .int .i64 b.x.hi, .int .i64 b.y.lo, .int .i64 b.y.hi, .int .i64 b.u.lo, .int .i64 b.u.hi, .int .i64 b.v.lo, .int .i64 b.v.hi]] w fun e w' => e = .returned (.tuple #[bxV (partL b), bxV (partR b)]) ∧ Ext w w' := by
  have hW := fun W => oWidest_c b W h
  have hlt := wid_lt b h
  have hbd := bxErr_iff.1 h
  unfold BxOk Sm at hbd
  unfold partL partR
  generalize (widB b).2 = N at *
  generalize (widB b).1 = i at *
  obtain ⟨⟨xl, xh⟩, ⟨yl, yh⟩, ⟨ul, uh⟩, vl, vh⟩ := b
  dsimp only at *
  obtain ⟨h1, h2, h3⟩ := hlt
  rcases (show i = 0 ∨ i = 1 ∨ i = 2 ∨ i = 3 by omega) with rfl | rfl | rfl | rfl
  · exact oCut_0 xl xh yl yh ul uh vl vh N w (by omega) (by omega) hW
  · exact oCut_1 xl xh yl yh ul uh vl vh N w (by omega) (by omega) hW
  · exact oCut_2 xl xh yl yh ul uh vl vh N w (by omega) (by omega) hW
  · exact oCut_3 xl xh yl yh ul uh vl vh N w (by omega) (by omega) hW
def splitOk (b : Bx) : Bool := decide (bxErr b = 0) && decide ((widB b).2 ≠ 0)
def splitV (b : Bx) : Value := if splitOk b then .tuple #[bxV (partL b), bxV (partR b), .bool true] else .tuple #[bxV zeroB, bxV zeroB, .bool false]
theorem tw_st {P : Program} {Q : Exit → Act → World → Prop} {S F F' : World → Prop} {o : Oper} {T : List Oper} {a : Act} (hg : o.guard = none) (hd : o.dst = none) (hF' : Stable F') (hS : ∀ w, F' w → S w)
    (hrun : ∀ w, F w → ∃ w1, (execOp a.eval o).run P w = .ok .skip w1 ∧ F' w1) (h : TW P S Q T a F') : TW P S Q (o :: T) a F :=
  ⟨hg, fun w hw => by
    obtain ⟨w1, h1, h2⟩ := hrun w hw
    exact ⟨undef, w1, F', .inr ⟨h1, rfl⟩, hF', hS, h2, by rw [hd]; exact h⟩⟩
theorem st5 (w : World) (a b c d : Nat) (s t u v : TypeId) (A B C D : Array Value) : Stable fun x => (Blk x a s A ∧ Blk x b t B) ∧ Blk x c u C ∧ Blk x d v D ∧ Ext w x := fun _ _ h e => ⟨⟨h.1.1.ext e, h.1.2.ext e⟩, h.2.1.ext e, h.2.2.1.ext e, h.2.2.2.trans e⟩
set_option maxRecDepth 20000 in
set_option maxHeartbeats 4000000 in
theorem oSplit_no (b : Bx) (E p q : Int) (w : World) (hE : E ≠ 0 ∨ q = 0) (hC : ∀ W, Calls Tryz.prog 37 #[bxV b] W fun e w' => e = .returned (.int .i64 E) ∧ Ext W w')
    (hW : ∀ W, Calls Tryz.prog 89 #[bxV b] W fun e w' => e = .returned (.tuple #[.int .i64 p, .int .i64 q]) ∧ Ext W w') :
    Calls Tryz.prog 31 #[bxV b] w fun e w' => e = .returned (.tuple #[bxV zeroB, bxV zeroB, .bool false]) ∧ Ext w w' := by
  have HC := Lib.hid hC
  have HW := Lib.hid hW
  clear hC hW
  obtain ⟨⟨xl, xh⟩, ⟨yl, yh⟩, ⟨ul, uh⟩, vl, vh⟩ := b
  dsimp only [bxV] at HC HW ⊢
  have hc : (E != 0) = true ∨ (E = 0 ∧ q = 0) := by
    by_cases h : E = 0
    · right; exact ⟨h, by rcases hE with h1 | h1; exact absurd h h1; exact h1⟩
    · left; simpa using h
  clear hE
  rcases hc with hE | ⟨rfl, rfl⟩
  all_goals
    go_enter Tryz.func31, Tryz.ntmps31
    go_wp2_with fail
    refine (HW.out _).mono ?_
    rintro e w1 ⟨rfl, h1⟩
    have B1 : Blk w1 w.heap.size 38 #[.int .i64 xl, .int .i64 xh, .int .i64 yl, .int .i64 yh, .int .i64 ul, .int .i64 uh, .int .i64 vl, .int .i64 vh] := (((Blk.new w _ _).alloc _).alloc _).ext h1
    have G2 : Blk w1 (w.heap.size + 1) 38 #[.int .i64 0, .int .i64 0, .int .i64 0, .int .i64 0, .int .i64 0, .int .i64 0, .int .i64 0, .int .i64 0] := ((Blk.newAt (by simp)).alloc _).ext h1
    have G3 : Blk w1 (w.heap.size + 1 + 1) 38 #[.int .i64 0, .int .i64 0, .int .i64 0, .int .i64 0, .int .i64 0, .int .i64 0, .int .i64 0, .int .i64 0] := (Blk.newAt (by simp)).ext h1
    have GE : Ext w w1 := by (repeat' (first | exact Ext.refl _ | assumption | apply Ext.alloc | apply Ext.drew | refine Ext.set ?_ (by dsimp only; omega) _ | refine Ext.trans ?_ (by assumption)))
    clear h1
    have c_B1 := B1.cell; have f_B1 := B1.frozen; have l_B1 := B1.lt
    go_wp2_with fail
    refine (HC.out _).mono ?_
    rintro e w2 ⟨rfl, h2⟩
    replace G2 := G2.ext h2
    replace G3 := G3.ext h2
    replace GE := GE.trans h2
    clear c_B1 f_B1 l_B1
    clear h2 B1
    have c_G2 := G2.cell; have f_G2 := G2.frozen; have l_G2 := G2.lt; have c_G3 := G3.cell; have f_G3 := G3.frozen; have l_G3 := G3.lt
    (try dsimp only); repeat' (first | go_values | go_skip | go_guarded | go_step | go_upon | go_in | go_at_K)
    refine name_world _ ?_
    intro W9 hW9
    have Q2 : Blk W9 (w.heap.size + 1) 38 #[.int .i64 0, .int .i64 0, .int .i64 0, .int .i64 0, .int .i64 0, .int .i64 0, .int .i64 0, .int .i64 0] := by rw [hW9]; exact blk_far2 (blk_far2 (blk_far2 (blk_far2 (blk_set2 (blk_set2 (blk_set2 (blk_set2 G2 rfl) rfl) rfl) rfl) (by omega)) (by omega)) (by omega)) (by omega)
    have Q3 : Blk W9 (w.heap.size + 1 + 1) 38 #[.int .i64 0, .int .i64 0, .int .i64 0, .int .i64 0, .int .i64 0, .int .i64 0, .int .i64 0, .int .i64 0] := by rw [hW9]; exact blk_set2 (blk_set2 (blk_set2 (blk_set2 (blk_far2 (blk_far2 (blk_far2 (blk_far2 G3 (by omega)) (by omega)) (by omega)) (by omega)) rfl) rfl) rfl) rfl
    have QE : Ext w W9 := by rw [hW9]; exact ext_set2 (ext_set2 (ext_set2 (ext_set2 (ext_set2 (ext_set2 (ext_set2 (ext_set2 GE (by omega)) (by omega)) (by omega)) (by omega)) (by omega)) (by omega)) (by omega)) (by omega)
    clear hW9
    have c_Q2 := Q2.cell; have f_Q2 := Q2.frozen; have l_Q2 := Q2.lt; have c_Q3 := Q3.cell; have f_Q3 := Q3.frozen; have l_Q3 := Q3.lt
    (try simp only [Exit.inBlock, Exit.then]); apply bodyPost_ret; (focus (simp only [results, Tryz.results31]; go_simp; try rfl)); rfl
    exact ⟨rfl, QE⟩
set_option maxRecDepth 20000 in
set_option maxHeartbeats 4000000 in
theorem oSplit_wrong (b : Bx) (E : Int) (w : World) (hE : E ≠ 0) (hC : ∀ W, Calls Tryz.prog 37 #[bxV b] W fun e w' => e = .returned (.int .i64 E) ∧ Ext W w')
    (hW : ∀ W, Calls Tryz.prog 89 #[bxV b] W fun e w' => (∃ p q : Int, e = .returned (.tuple #[.int .i64 p, .int .i64 q])) ∧ Ext W w') :
    Calls Tryz.prog 31 #[bxV b] w fun e w' => e = .returned (.tuple #[bxV zeroB, bxV zeroB, .bool false]) ∧ Ext w w' := by
  have HC := Lib.hid hC
  have HW := Lib.hid hW
  clear hC hW
  obtain ⟨⟨xl, xh⟩, ⟨yl, yh⟩, ⟨ul, uh⟩, vl, vh⟩ := b
  dsimp only [bxV] at HC HW ⊢
  have hc : (E != 0) = true := by simpa using hE
  clear hE
  all_goals
    go_enter Tryz.func31, Tryz.ntmps31
    go_wp2_with fail
    refine (HW.out _).mono ?_
    rintro e w1 ⟨⟨p, q, rfl⟩, h1⟩
    have B1 : Blk w1 w.heap.size 38 #[.int .i64 xl, .int .i64 xh, .int .i64 yl, .int .i64 yh, .int .i64 ul, .int .i64 uh, .int .i64 vl, .int .i64 vh] := (((Blk.new w _ _).alloc _).alloc _).ext h1
    have G2 : Blk w1 (w.heap.size + 1) 38 #[.int .i64 0, .int .i64 0, .int .i64 0, .int .i64 0, .int .i64 0, .int .i64 0, .int .i64 0, .int .i64 0] := ((Blk.newAt (by simp)).alloc _).ext h1
    have G3 : Blk w1 (w.heap.size + 1 + 1) 38 #[.int .i64 0, .int .i64 0, .int .i64 0, .int .i64 0, .int .i64 0, .int .i64 0, .int .i64 0, .int .i64 0] := (Blk.newAt (by simp)).ext h1
    have GE : Ext w w1 := by (repeat' (first | exact Ext.refl _ | assumption | apply Ext.alloc | apply Ext.drew | refine Ext.set ?_ (by dsimp only; omega) _ | refine Ext.trans ?_ (by assumption)))
    clear h1
    have c_B1 := B1.cell; have f_B1 := B1.frozen; have l_B1 := B1.lt
    go_wp2_with fail
    refine (HC.out _).mono ?_
    rintro e w2 ⟨rfl, h2⟩
    replace G2 := G2.ext h2
    replace G3 := G3.ext h2
    replace GE := GE.trans h2
    clear c_B1 f_B1 l_B1
    clear h2 B1
    have c_G2 := G2.cell; have f_G2 := G2.frozen; have l_G2 := G2.lt; have c_G3 := G3.cell; have f_G3 := G3.frozen; have l_G3 := G3.lt
    (try dsimp only); repeat' (first | go_values | go_skip | go_guarded | go_step | go_upon | go_in | go_at_K)
    refine name_world _ ?_
    intro W9 hW9
    have Q2 : Blk W9 (w.heap.size + 1) 38 #[.int .i64 0, .int .i64 0, .int .i64 0, .int .i64 0, .int .i64 0, .int .i64 0, .int .i64 0, .int .i64 0] := by rw [hW9]; exact blk_far2 (blk_far2 (blk_far2 (blk_far2 (blk_set2 (blk_set2 (blk_set2 (blk_set2 G2 rfl) rfl) rfl) rfl) (by omega)) (by omega)) (by omega)) (by omega)
    have Q3 : Blk W9 (w.heap.size + 1 + 1) 38 #[.int .i64 0, .int .i64 0, .int .i64 0, .int .i64 0, .int .i64 0, .int .i64 0, .int .i64 0, .int .i64 0] := by rw [hW9]; exact blk_set2 (blk_set2 (blk_set2 (blk_set2 (blk_far2 (blk_far2 (blk_far2 (blk_far2 G3 (by omega)) (by omega)) (by omega)) (by omega)) rfl) rfl) rfl) rfl
    have QE : Ext w W9 := by rw [hW9]; exact ext_set2 (ext_set2 (ext_set2 (ext_set2 (ext_set2 (ext_set2 (ext_set2 (ext_set2 GE (by omega)) (by omega)) (by omega)) (by omega)) (by omega)) (by omega)) (by omega)) (by omega)
    clear hW9
    have c_Q2 := Q2.cell; have f_Q2 := Q2.frozen; have l_Q2 := Q2.lt; have c_Q3 := Q3.cell; have f_Q3 := Q3.frozen; have l_Q3 := Q3.lt
    (try simp only [Exit.inBlock, Exit.then]); apply bodyPost_ret; (focus (simp only [results, Tryz.results31]; go_simp; try rfl)); rfl
    exact ⟨rfl, QE⟩
set_option maxRecDepth 20000 in
set_option maxHeartbeats 4000000 in
theorem oSplit_yes (b L R : Bx) (p q : Int) (w : World) (hq : q ≠ 0) (hC : ∀ W, Calls Tryz.prog 37 #[bxV b] W fun e w' => e = .returned (.int .i64 0) ∧ Ext W w')
    (hW : ∀ W, Calls Tryz.prog 89 #[bxV b] W fun e w' => e = .returned (.tuple #[.int .i64 p, .int .i64 q]) ∧ Ext W w') (hK : ∀ W, Calls Tryz.prog 90 #[bxV b] W fun e w' => e = .returned (.tuple #[bxV L, bxV R]) ∧ Ext W w') :
    Calls Tryz.prog 31 #[bxV b] w fun e w' => e = .returned (.tuple #[bxV L, bxV R, .bool true]) ∧ Ext w w' := by
  have HC := Lib.hid hC
  have HW := Lib.hid hW
  have HK := Lib.hid hK
  have hq0 : (q == 0) = false := by simpa using hq
  clear hC hW hK hq
  obtain ⟨⟨xl, xh⟩, ⟨yl, yh⟩, ⟨ul, uh⟩, vl, vh⟩ := b
  obtain ⟨⟨lxl, lxh⟩, ⟨lyl, lyh⟩, ⟨lul, luh⟩, lvl, lvh⟩ := L
  obtain ⟨⟨rxl, rxh⟩, ⟨ryl, ryh⟩, ⟨rul, ruh⟩, rvl, rvh⟩ := R
  dsimp only [bxV] at HC HW HK ⊢
  go_enter Tryz.func31, Tryz.ntmps31
  go_wp2_with fail
  refine (HW.out _).mono ?_
  rintro e w1 ⟨rfl, h1⟩
  have B1 : Blk w1 w.heap.size 38 #[.int .i64 xl, .int .i64 xh, .int .i64 yl, .int .i64 yh, .int .i64 ul, .int .i64 uh, .int .i64 vl, .int .i64 vh] := (((Blk.new w _ _).alloc _).alloc _).ext h1
  have G2 : Blk w1 (w.heap.size + 1) 38 #[.int .i64 0, .int .i64 0, .int .i64 0, .int .i64 0, .int .i64 0, .int .i64 0, .int .i64 0, .int .i64 0] := ((Blk.newAt (by simp)).alloc _).ext h1
  have G3 : Blk w1 (w.heap.size + 1 + 1) 38 #[.int .i64 0, .int .i64 0, .int .i64 0, .int .i64 0, .int .i64 0, .int .i64 0, .int .i64 0, .int .i64 0] := (Blk.newAt (by simp)).ext h1
  have E : Ext w w1 := by (repeat' (first | exact Ext.refl _ | assumption | apply Ext.alloc | apply Ext.drew | refine Ext.set ?_ (by dsimp only; omega) _ | refine Ext.trans ?_ (by assumption)))
  clear h1
  have c_B1 := B1.cell; have f_B1 := B1.frozen; have l_B1 := B1.lt; have c_G2 := G2.cell; have f_G2 := G2.frozen; have l_G2 := G2.lt; have c_G3 := G3.cell; have f_G3 := G3.frozen; have l_G3 := G3.lt
  go_wp2_with fail
  refine (HC.out _).mono ?_
  rintro e V2 ⟨rfl, hV2⟩
  clear c_B1 f_B1 l_B1
  replace B1 := B1.ext hV2
  clear c_G2 f_G2 l_G2
  replace G2 := G2.ext hV2
  clear c_G3 f_G3 l_G3
  replace G3 := G3.ext hV2
  replace E : Ext w V2 := Ext.trans (by (repeat' (first | exact Ext.refl _ | assumption | apply Ext.alloc | apply Ext.drew | refine Ext.set ?_ (by dsimp only; omega) _ | refine Ext.trans ?_ (by assumption)))) hV2
  clear hV2
  have c_B1 := B1.cell; have f_B1 := B1.frozen; have l_B1 := B1.lt; have c_G2 := G2.cell; have f_G2 := G2.frozen; have l_G2 := G2.lt; have c_G3 := G3.cell; have f_G3 := G3.frozen; have l_G3 := G3.lt
  go_wp2_with fail
  refine (HK.out _).mono ?_
  rintro e V3 ⟨rfl, hV3⟩
  clear c_B1 f_B1 l_B1
  replace B1 := B1.ext hV3
  clear c_G2 f_G2 l_G2
  replace G2 := G2.ext hV3
  clear c_G3 f_G3 l_G3
  replace G3 := G3.ext hV3
  replace E : Ext w V3 := Ext.trans (by (repeat' (first | exact Ext.refl _ | assumption | apply Ext.alloc | apply Ext.drew | refine Ext.set ?_ (by dsimp only; omega) _ | refine Ext.trans ?_ (by assumption)))) hV3
  clear hV3
  have c_B1 := B1.cell; have f_B1 := B1.frozen; have l_B1 := B1.lt; have c_G2 := G2.cell; have f_G2 := G2.frozen; have l_G2 := G2.lt; have c_G3 := G3.cell; have f_G3 := G3.frozen; have l_G3 := G3.lt
  go_wp2_with fail
  refine name_world _ ?_
  intro W3 hW3
  obtain ⟨g7, h7⟩ : ∃ b, b = V3.heap.size := ⟨_, rfl⟩
  have B7 : Blk W3 g7 38 #[.int .i64 lxl, .int .i64 lxh, .int .i64 lyl, .int .i64 lyh, .int .i64 lul, .int .i64 luh, .int .i64 lvl, .int .i64 lvh] := by rw [hW3]; exact (Blk.newAt h7).alloc _
  have B8 : Blk W3 (g7 + 1) 38 #[.int .i64 rxl, .int .i64 rxh, .int .i64 ryl, .int .i64 ryh, .int .i64 rul, .int .i64 ruh, .int .i64 rvl, .int .i64 rvh] := by rw [hW3]; exact Blk.newAt (by simp; omega)
  have hx : Ext V3 W3 := by rw [hW3]; exact (Ext.alloc0 _ _).alloc _
  have o1 : w.heap.size + 1 + 1 < g7 := by omega
  clear c_B1 f_B1 l_B1 c_G2 f_G2 l_G2 c_G3 f_G3 l_G3
  replace G2 := G2.ext hx
  replace G3 := G3.ext hx
  replace E := E.trans hx
  rw [← h7]
  clear hx hW3 h7 B1
  have c_B7 := B7.cell; have f_B7 := B7.frozen; have l_B7 := B7.lt; have c_B8 := B8.cell; have f_B8 := B8.frozen; have l_B8 := B8.lt
  refine wp_region_tail 2 (fun v => Blk v g7 38 #[.int .i64 lxl, .int .i64 lxh, .int .i64 lyl, .int .i64 lyh, .int .i64 lul, .int .i64 luh, .int .i64 lvl, .int .i64 lvh] ∧ Blk v (g7 + 1) 38 #[.int .i64 rxl, .int .i64 rxh, .int .i64 ryl, .int .i64 ryh, .int .i64 rul, .int .i64 ruh, .int .i64 rvl, .int .i64 rvh]) (fun v => (Blk v g7 38 #[.int .i64 lxl, .int .i64 lxh, .int .i64 lyl, .int .i64 lyh, .int .i64 lul, .int .i64 luh, .int .i64 lvl, .int .i64 lvh] ∧ Blk v (g7 + 1) 38 #[.int .i64 rxl, .int .i64 rxh, .int .i64 ryl, .int .i64 ryh, .int .i64 rul, .int .i64 ruh, .int .i64 rvl, .int .i64 rvh]) ∧ Blk v (w.heap.size + 1) 38 #[.int .i64 0, .int .i64 0, .int .i64 0, .int .i64 0, .int .i64 0, .int .i64 0, .int .i64 0, .int .i64 0] ∧ Blk v (w.heap.size + 1 + 1) 38 #[.int .i64 0, .int .i64 0, .int .i64 0, .int .i64 0, .int .i64 0, .int .i64 0, .int .i64 0, .int .i64 0] ∧ Ext w v)
    (st5 _ _ _ _ _ _ _ _ _ _ _ _ _) (fun _ h => h.1) ⟨⟨B7.ext (Ext.drew (Ext.refl _)), B8.ext (Ext.drew (Ext.refl _))⟩, G2.ext (Ext.drew (Ext.refl _)), G3.ext (Ext.drew (Ext.refl _)), E.drew⟩ (by kernel_rfl) (by kernel_rfl) ?_
  clear c_B7 f_B7 l_B7 c_B8 f_B8 l_B8
  simp only [List.take_succ_cons, List.take_zero, List.drop_succ_cons, List.drop_zero]
  (repeat' (first | (refine bl_off (by rfl) ?_; simp only [Act.put, List.setIfInBounds_toArray, List.set_cons_zero, List.set_cons_succ]) | (apply bl_op; rfl; (intro w1 h1; obtain ⟨hA, hB⟩ := h1; have cA := hA.cell; have cB := hB.cell; have lA := hA.lt; have lB := hB.lt; go_simp; (try go_bits); (first | exact ⟨rfl, Ext.refl _⟩)); simp only [Act.put, List.setIfInBounds_toArray, List.set_cons_zero, List.set_cons_succ]) | (refine bl_split rfl rfl (fun hx => ?_) (fun hx => ?_) <;> simp only [hx])))
  refine bl_nil ?_
  refine tw_st (F' := fun v => (Blk v g7 38 #[.int .i64 lxl, .int .i64 lxh, .int .i64 lyl, .int .i64 lyh, .int .i64 lul, .int .i64 luh, .int .i64 lvl, .int .i64 lvh] ∧ Blk v (g7 + 1) 38 #[.int .i64 rxl, .int .i64 rxh, .int .i64 ryl, .int .i64 ryh, .int .i64 rul, .int .i64 ruh, .int .i64 rvl, .int .i64 rvh]) ∧ Blk v (w.heap.size + 1) 38 #[.int .i64 lxl, .int .i64 lxh, .int .i64 lyl, .int .i64 lyh, .int .i64 lul, .int .i64 luh, .int .i64 lvl, .int .i64 lvh] ∧ Blk v (w.heap.size + 1 + 1) 38 #[.int .i64 0, .int .i64 0, .int .i64 0, .int .i64 0, .int .i64 0, .int .i64 0, .int .i64 0, .int .i64 0] ∧ Ext w v) rfl rfl (st5 _ _ _ _ _ _ _ _ _ _ _ _ _) (fun _ h => h.1) (fun w1 h1 => ?_) ?_
  · obtain ⟨⟨hA, hB⟩, h2, h3, hE⟩ := h1
    have c2 := h2.cell
    have f2 := h2.frozen
    have l2 := h2.lt
    refine ⟨_, (by go_simp; rfl), ?_⟩
    exact ⟨⟨blk_far2 (blk_far2 (blk_far2 (blk_far2 hA (by omega)) (by omega)) (by omega)) (by omega), blk_far2 (blk_far2 (blk_far2 (blk_far2 hB (by omega)) (by omega)) (by omega)) (by omega)⟩, blk_set2 (blk_set2 (blk_set2 (blk_set2 h2 rfl) rfl) rfl) rfl, blk_far2 (blk_far2 (blk_far2 (blk_far2 h3 (by omega)) (by omega)) (by omega)) (by omega), ext_set2 (ext_set2 (ext_set2 (ext_set2 hE (by omega)) (by omega)) (by omega)) (by omega)⟩
  refine tw_st (F' := fun v => (Blk v g7 38 #[.int .i64 lxl, .int .i64 lxh, .int .i64 lyl, .int .i64 lyh, .int .i64 lul, .int .i64 luh, .int .i64 lvl, .int .i64 lvh] ∧ Blk v (g7 + 1) 38 #[.int .i64 rxl, .int .i64 rxh, .int .i64 ryl, .int .i64 ryh, .int .i64 rul, .int .i64 ruh, .int .i64 rvl, .int .i64 rvh]) ∧ Blk v (w.heap.size + 1) 38 #[.int .i64 lxl, .int .i64 lxh, .int .i64 lyl, .int .i64 lyh, .int .i64 lul, .int .i64 luh, .int .i64 lvl, .int .i64 lvh] ∧ Blk v (w.heap.size + 1 + 1) 38 #[.int .i64 rxl, .int .i64 rxh, .int .i64 ryl, .int .i64 ryh, .int .i64 rul, .int .i64 ruh, .int .i64 rvl, .int .i64 rvh] ∧ Ext w v) rfl rfl (st5 _ _ _ _ _ _ _ _ _ _ _ _ _) (fun _ h => h.1) (fun w1 h1 => ?_) ?_
  · obtain ⟨⟨hA, hB⟩, h2, h3, hE⟩ := h1
    have c3 := h3.cell
    have f3 := h3.frozen
    have l3 := h3.lt
    refine ⟨_, (by go_simp; rfl), ?_⟩
    exact ⟨⟨blk_far2 (blk_far2 (blk_far2 (blk_far2 hA (by omega)) (by omega)) (by omega)) (by omega), blk_far2 (blk_far2 (blk_far2 (blk_far2 hB (by omega)) (by omega)) (by omega)) (by omega)⟩, blk_far2 (blk_far2 (blk_far2 (blk_far2 h2 (by omega)) (by omega)) (by omega)) (by omega), blk_set2 (blk_set2 (blk_set2 (blk_set2 h3 rfl) rfl) rfl) rfl, ext_set2 (ext_set2 (ext_set2 (ext_set2 hE (by omega)) (by omega)) (by omega)) (by omega)⟩
  refine ⟨rfl, fun w1 h1 => ⟨.bool true, w1, _, .inl (by go_simp), st5 _ _ _ _ _ _ _ _ _ _ _ _ _, fun _ h => h.1, h1, ?_⟩⟩
  refine tw_nil ?_
  rintro W9 ⟨_, Q2, Q3, QE⟩
  have c_Q2 := Q2.cell; have f_Q2 := Q2.frozen; have l_Q2 := Q2.lt; have c_Q3 := Q3.cell; have f_Q3 := Q3.frozen; have l_Q3 := Q3.lt
  go_wp2_with fail
  (try simp only [Exit.inBlock, Exit.then]); apply bodyPost_ret; (focus (simp only [results, Tryz.results31]; go_simp; try rfl)); rfl
  exact ⟨rfl, QE⟩
theorem oSplit_c (b : Bx) (w : World) :
    Calls Tryz.prog 31 #[bxV b] w fun e w' => e = .returned (splitV b) ∧ Ext w w' := by
  by_cases h : bxErr b = 0
  · by_cases h2 : (widB b).2 = 0
    · have hs : splitOk b = false := by unfold splitOk; simp [h2]
      unfold splitV
      rw [hs, if_neg (by decide)]
      exact oSplit_no b (bxErr b) _ _ w (.inr h2) (fun W => oCheck_c b W) (fun W => oWidest_c b W h)
    · have hs : splitOk b = true := by unfold splitOk; simp [h, h2]
      unfold splitV
      rw [hs, if_pos rfl]
      exact oSplit_yes b _ _ _ _ w h2 (fun W => h ▸ oCheck_c b W) (fun W => oWidest_c b W h) (fun W => oCutB_c b W h)
  · have hs : splitOk b = false := by unfold splitOk; simp [h]
    unfold splitV
    rw [hs, if_neg (by decide)]
    exact oSplit_wrong b (bxErr b) w h (fun W => oCheck_c b W) (fun W => oWidest_some b W)
end Go.Proofs.YtfniicgoeljmdaaGreat
