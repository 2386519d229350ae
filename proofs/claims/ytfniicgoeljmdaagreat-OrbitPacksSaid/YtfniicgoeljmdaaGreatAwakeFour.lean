/- The parts of a box: the program's Split. No condition. The step of a box, or which error: the program. No condition. A possible successor of a state: the program. No condition. Whether a state may follow another: the program. No condition. The chapter's examples that every law of the orbits asks. Draft. -/
import Derived.Test.YtfniicgoeljmdaaGreatSplit
import Derived.Test.YtfniicgoeljmdaaGreatBoxSet
namespace Go.Proofs.YtfniicgoeljmdaaGreat
open Go.RowKit

theorem oCutB_c (b : Bx) (w : World) (h : bxErr b = 0) :
    Calls Tryz.prog 90 #[.agg #[.int .i64 b.x.lo, .int .i64 b.x.hi, .int .i64 b.y.lo, .int .i64 b.y.hi, .int .i64 b.u.lo, .int .i64 b.u.hi, .int .i64 b.v.lo, .int .i64 b.v.hi]] w fun e w' => e = .returned (.tuple #[bxV (partL b), bxV (partR b)]) ∧ Ext w w' := by
  have hW := fun W => oWidest_c b W h
  have hlt := wid_lt b h
  have hbd := bxErr_iff.1 h
  unfold BxOk Sm at hbd
  unfold partL partR
  generalize (widB b).2 = N at *
  generalize (widB b).1 = i at *
  obtain ⟨⟨xl, xh⟩, ⟨yl, yh⟩, ⟨ul, uh⟩, vl, vh⟩ := b
  dsimp only at *
  obtain ⟨h1, h2, h3⟩ := hlt
  rcases (show i = 0 ∨ i = 1 ∨ i = 2 ∨ i = 3 by omega) with rfl | rfl | rfl | rfl
  · exact oCut_0 xl xh yl yh ul uh vl vh N w (by omega) (by omega) hW
  · exact oCut_1 xl xh yl yh ul uh vl vh N w (by omega) (by omega) hW
  · exact oCut_2 xl xh yl yh ul uh vl vh N w (by omega) (by omega) hW
  · exact oCut_3 xl xh yl yh ul uh vl vh N w (by omega) (by omega) hW
def splitOk (b : Bx) : Bool := decide (bxErr b = 0) && decide ((widB b).2 ≠ 0)
def splitV (b : Bx) : Value := if splitOk b then .tuple #[bxV (partL b), bxV (partR b), .bool true] else .tuple #[bxV zeroB, bxV zeroB, .bool false]
theorem tw_st {P : Program} {Q : Exit → Act → World → Prop} {S F F' : World → Prop} {o : Oper} {T : List Oper} {a : Act} (hg : o.guard = none) (hd : o.dst = none) (hF' : Stable F') (hS : ∀ w, F' w → S w)
    (hrun : ∀ w, F w → ∃ w1, (execOp a.eval o).run P w = .ok .skip w1 ∧ F' w1) (h : TW P S Q T a F') : TW P S Q (o :: T) a F :=
  ⟨hg, fun w hw => by
    obtain ⟨w1, h1, h2⟩ := hrun w hw
    exact ⟨undef, w1, F', .inr ⟨h1, rfl⟩, hF', hS, h2, by rw [hd]; exact h⟩⟩
theorem st5 (w : World) (a b c d : Nat) (s t u v : TypeId) (A B C D : Array Value) : Stable fun x => (Blk x a s A ∧ Blk x b t B) ∧ Blk x c u C ∧ Blk x d v D ∧ Ext w x := fun _ _ h e => ⟨⟨h.1.1.ext e, h.1.2.ext e⟩, h.2.1.ext e, h.2.2.1.ext e, h.2.2.2.trans e⟩
set_option maxRecDepth 20000 in
set_option maxHeartbeats 4000000 in
theorem oSplit_no (b : Bx) (E p q : Int) (w : World) (hE : E ≠ 0 ∨ q = 0) (hC : ∀ W, Calls Tryz.prog 37 #[bxV b] W fun e w' => e = .returned (.int .i64 E) ∧ Ext W w')
    (hW : ∀ W, Calls Tryz.prog 89 #[bxV b] W fun e w' => e = .returned (.tuple #[.int .i64 p, .int .i64 q]) ∧ Ext W w') :
    Calls Tryz.prog 31 #[bxV b] w fun e w' => e = .returned (.tuple #[bxV zeroB, bxV zeroB, .bool false]) ∧ Ext w w' := by
  have HC := Lib.hid hC
  have HW := Lib.hid hW
  clear hC hW
  obtain ⟨⟨xl, xh⟩, ⟨yl, yh⟩, ⟨ul, uh⟩, vl, vh⟩ := b
  dsimp only [bxV] at HC HW ⊢
  have hc : (E != 0) = true ∨ (E = 0 ∧ q = 0) := by
    by_cases h : E = 0
    · right; exact ⟨h, by rcases hE with h1 | h1; exact absurd h h1; exact h1⟩
    · left; simpa using h
  clear hE
  rcases hc with hE | ⟨rfl, rfl⟩
  all_goals
    go_enter Tryz.func31, Tryz.ntmps31
    go_wp2_with fail
    refine (HW.out _).mono ?_
    rintro e w1 ⟨rfl, h1⟩
    have B1 : Blk w1 w.heap.size 38 #[.int .i64 xl, .int .i64 xh, .int .i64 yl, .int .i64 yh, .int .i64 ul, .int .i64 uh, .int .i64 vl, .int .i64 vh] := (((Blk.new w _ _).alloc _).alloc _).ext h1
    have G2 : Blk w1 (w.heap.size + 1) 38 #[.int .i64 0, .int .i64 0, .int .i64 0, .int .i64 0, .int .i64 0, .int .i64 0, .int .i64 0, .int .i64 0] := ((Blk.newAt (by simp)).alloc _).ext h1
    have G3 : Blk w1 (w.heap.size + 1 + 1) 38 #[.int .i64 0, .int .i64 0, .int .i64 0, .int .i64 0, .int .i64 0, .int .i64 0, .int .i64 0, .int .i64 0] := (Blk.newAt (by simp)).ext h1
    have GE : Ext w w1 := ext_by
    clear h1
    have c_B1 := B1.cell; have f_B1 := B1.frozen; have l_B1 := B1.lt
    go_wp2_with fail
    refine (HC.out _).mono ?_
    rintro e w2 ⟨rfl, h2⟩
    replace G2 := G2.ext h2
    replace G3 := G3.ext h2
    replace GE := GE.trans h2
    clear c_B1 f_B1 l_B1
    clear h2 B1
    have c_G2 := G2.cell; have f_G2 := G2.frozen; have l_G2 := G2.lt; have c_G3 := G3.cell; have f_G3 := G3.frozen; have l_G3 := G3.lt
    (try dsimp only); repeat' (first | go_values | go_skip | go_guarded | go_step | go_upon | go_in | go_at_K)
    refine name_world _ ?_
    intro W9 hW9
    have Q2 : Blk W9 (w.heap.size + 1) 38 #[.int .i64 0, .int .i64 0, .int .i64 0, .int .i64 0, .int .i64 0, .int .i64 0, .int .i64 0, .int .i64 0] := by rw [hW9]; exact blk_far2 (blk_far2 (blk_far2 (blk_far2 (blk_set2 (blk_set2 (blk_set2 (blk_set2 G2 rfl) rfl) rfl) rfl) (by omega)) (by omega)) (by omega)) (by omega)
    have Q3 : Blk W9 (w.heap.size + 1 + 1) 38 #[.int .i64 0, .int .i64 0, .int .i64 0, .int .i64 0, .int .i64 0, .int .i64 0, .int .i64 0, .int .i64 0] := by rw [hW9]; exact blk_set2 (blk_set2 (blk_set2 (blk_set2 (blk_far2 (blk_far2 (blk_far2 (blk_far2 G3 (by omega)) (by omega)) (by omega)) (by omega)) rfl) rfl) rfl) rfl
    have QE : Ext w W9 := by rw [hW9]; exact ext_set2 (ext_set2 (ext_set2 (ext_set2 (ext_set2 (ext_set2 (ext_set2 (ext_set2 GE (by omega)) (by omega)) (by omega)) (by omega)) (by omega)) (by omega)) (by omega)) (by omega)
    clear hW9
    have c_Q2 := Q2.cell; have f_Q2 := Q2.frozen; have l_Q2 := Q2.lt; have c_Q3 := Q3.cell; have f_Q3 := Q3.frozen; have l_Q3 := Q3.lt
    (try simp only [Exit.inBlock, Exit.then]); apply bodyPost_ret; (focus (simp only [results, Tryz.results31]; go_simp; try rfl)); rfl
    exact ⟨rfl, QE⟩
set_option maxRecDepth 20000 in
set_option maxHeartbeats 4000000 in
theorem oSplit_wrong (b : Bx) (E : Int) (w : World) (hE : E ≠ 0) (hC : ∀ W, Calls Tryz.prog 37 #[bxV b] W fun e w' => e = .returned (.int .i64 E) ∧ Ext W w')
    (hW : ∀ W, Calls Tryz.prog 89 #[bxV b] W fun e w' => (∃ p q : Int, e = .returned (.tuple #[.int .i64 p, .int .i64 q])) ∧ Ext W w') :
    Calls Tryz.prog 31 #[bxV b] w fun e w' => e = .returned (.tuple #[bxV zeroB, bxV zeroB, .bool false]) ∧ Ext w w' := by
  have HC := Lib.hid hC
  have HW := Lib.hid hW
  clear hC hW
  obtain ⟨⟨xl, xh⟩, ⟨yl, yh⟩, ⟨ul, uh⟩, vl, vh⟩ := b
  dsimp only [bxV] at HC HW ⊢
  have hc : (E != 0) = true := by simpa using hE
  clear hE
  all_goals
    go_enter Tryz.func31, Tryz.ntmps31
    go_wp2_with fail
    refine (HW.out _).mono ?_
    rintro e w1 ⟨⟨p, q, rfl⟩, h1⟩
    have B1 : Blk w1 w.heap.size 38 #[.int .i64 xl, .int .i64 xh, .int .i64 yl, .int .i64 yh, .int .i64 ul, .int .i64 uh, .int .i64 vl, .int .i64 vh] := (((Blk.new w _ _).alloc _).alloc _).ext h1
    have G2 : Blk w1 (w.heap.size + 1) 38 #[.int .i64 0, .int .i64 0, .int .i64 0, .int .i64 0, .int .i64 0, .int .i64 0, .int .i64 0, .int .i64 0] := ((Blk.newAt (by simp)).alloc _).ext h1
    have G3 : Blk w1 (w.heap.size + 1 + 1) 38 #[.int .i64 0, .int .i64 0, .int .i64 0, .int .i64 0, .int .i64 0, .int .i64 0, .int .i64 0, .int .i64 0] := (Blk.newAt (by simp)).ext h1
    have GE : Ext w w1 := ext_by
    clear h1
    have c_B1 := B1.cell; have f_B1 := B1.frozen; have l_B1 := B1.lt
    go_wp2_with fail
    refine (HC.out _).mono ?_
    rintro e w2 ⟨rfl, h2⟩
    replace G2 := G2.ext h2
    replace G3 := G3.ext h2
    replace GE := GE.trans h2
    clear c_B1 f_B1 l_B1
    clear h2 B1
    have c_G2 := G2.cell; have f_G2 := G2.frozen; have l_G2 := G2.lt; have c_G3 := G3.cell; have f_G3 := G3.frozen; have l_G3 := G3.lt
    (try dsimp only); repeat' (first | go_values | go_skip | go_guarded | go_step | go_upon | go_in | go_at_K)
    refine name_world _ ?_
    intro W9 hW9
    have Q2 : Blk W9 (w.heap.size + 1) 38 #[.int .i64 0, .int .i64 0, .int .i64 0, .int .i64 0, .int .i64 0, .int .i64 0, .int .i64 0, .int .i64 0] := by rw [hW9]; exact blk_far2 (blk_far2 (blk_far2 (blk_far2 (blk_set2 (blk_set2 (blk_set2 (blk_set2 G2 rfl) rfl) rfl) rfl) (by omega)) (by omega)) (by omega)) (by omega)
    have Q3 : Blk W9 (w.heap.size + 1 + 1) 38 #[.int .i64 0, .int .i64 0, .int .i64 0, .int .i64 0, .int .i64 0, .int .i64 0, .int .i64 0, .int .i64 0] := by rw [hW9]; exact blk_set2 (blk_set2 (blk_set2 (blk_set2 (blk_far2 (blk_far2 (blk_far2 (blk_far2 G3 (by omega)) (by omega)) (by omega)) (by omega)) rfl) rfl) rfl) rfl
    have QE : Ext w W9 := by rw [hW9]; exact ext_set2 (ext_set2 (ext_set2 (ext_set2 (ext_set2 (ext_set2 (ext_set2 (ext_set2 GE (by omega)) (by omega)) (by omega)) (by omega)) (by omega)) (by omega)) (by omega)) (by omega)
    clear hW9
    have c_Q2 := Q2.cell; have f_Q2 := Q2.frozen; have l_Q2 := Q2.lt; have c_Q3 := Q3.cell; have f_Q3 := Q3.frozen; have l_Q3 := Q3.lt
    (try simp only [Exit.inBlock, Exit.then]); apply bodyPost_ret; (focus (simp only [results, Tryz.results31]; go_simp; try rfl)); rfl
    exact ⟨rfl, QE⟩
set_option maxRecDepth 20000 in
set_option maxHeartbeats 4000000 in
theorem oSplit_yes (b L R : Bx) (p q : Int) (w : World) (hq : q ≠ 0) (hC : ∀ W, Calls Tryz.prog 37 #[bxV b] W fun e w' => e = .returned (.int .i64 0) ∧ Ext W w')
    (hW : ∀ W, Calls Tryz.prog 89 #[bxV b] W fun e w' => e = .returned (.tuple #[.int .i64 p, .int .i64 q]) ∧ Ext W w') (hK : ∀ W, Calls Tryz.prog 90 #[bxV b] W fun e w' => e = .returned (.tuple #[bxV L, bxV R]) ∧ Ext W w') :
    Calls Tryz.prog 31 #[bxV b] w fun e w' => e = .returned (.tuple #[bxV L, bxV R, .bool true]) ∧ Ext w w' := by
  have HC := Lib.hid hC
  have HW := Lib.hid hW
  have HK := Lib.hid hK
  have hq0 : (q == 0) = false := by simpa using hq
  clear hC hW hK hq
  obtain ⟨⟨xl, xh⟩, ⟨yl, yh⟩, ⟨ul, uh⟩, vl, vh⟩ := b
  obtain ⟨⟨lxl, lxh⟩, ⟨lyl, lyh⟩, ⟨lul, luh⟩, lvl, lvh⟩ := L
  obtain ⟨⟨rxl, rxh⟩, ⟨ryl, ryh⟩, ⟨rul, ruh⟩, rvl, rvh⟩ := R
  dsimp only [bxV] at HC HW HK ⊢
  go_enter Tryz.func31, Tryz.ntmps31
  go_wp2_with fail
  refine (HW.out _).mono ?_
  rintro e w1 ⟨rfl, h1⟩
  have B1 : Blk w1 w.heap.size 38 #[.int .i64 xl, .int .i64 xh, .int .i64 yl, .int .i64 yh, .int .i64 ul, .int .i64 uh, .int .i64 vl, .int .i64 vh] := (((Blk.new w _ _).alloc _).alloc _).ext h1
  have G2 : Blk w1 (w.heap.size + 1) 38 #[.int .i64 0, .int .i64 0, .int .i64 0, .int .i64 0, .int .i64 0, .int .i64 0, .int .i64 0, .int .i64 0] := ((Blk.newAt (by simp)).alloc _).ext h1
  have G3 : Blk w1 (w.heap.size + 1 + 1) 38 #[.int .i64 0, .int .i64 0, .int .i64 0, .int .i64 0, .int .i64 0, .int .i64 0, .int .i64 0, .int .i64 0] := (Blk.newAt (by simp)).ext h1
  have E : Ext w w1 := ext_by
  clear h1
  have c_B1 := B1.cell; have f_B1 := B1.frozen; have l_B1 := B1.lt; have c_G2 := G2.cell; have f_G2 := G2.frozen; have l_G2 := G2.lt; have c_G3 := G3.cell; have f_G3 := G3.frozen; have l_G3 := G3.lt
  go_wp2_with fail
  refine (HC.out _).mono ?_
  rintro e V2 ⟨rfl, hV2⟩
  clear c_B1 f_B1 l_B1
  replace B1 := B1.ext hV2
  clear c_G2 f_G2 l_G2
  replace G2 := G2.ext hV2
  clear c_G3 f_G3 l_G3
  replace G3 := G3.ext hV2
  replace E : Ext w V2 := Ext.trans ext_by hV2
  clear hV2
  have c_B1 := B1.cell; have f_B1 := B1.frozen; have l_B1 := B1.lt; have c_G2 := G2.cell; have f_G2 := G2.frozen; have l_G2 := G2.lt; have c_G3 := G3.cell; have f_G3 := G3.frozen; have l_G3 := G3.lt
  go_wp2_with fail
  refine (HK.out _).mono ?_
  rintro e V3 ⟨rfl, hV3⟩
  clear c_B1 f_B1 l_B1
  replace B1 := B1.ext hV3
  clear c_G2 f_G2 l_G2
  replace G2 := G2.ext hV3
  clear c_G3 f_G3 l_G3
  replace G3 := G3.ext hV3
  replace E : Ext w V3 := Ext.trans ext_by hV3
  clear hV3
  have c_B1 := B1.cell; have f_B1 := B1.frozen; have l_B1 := B1.lt; have c_G2 := G2.cell; have f_G2 := G2.frozen; have l_G2 := G2.lt; have c_G3 := G3.cell; have f_G3 := G3.frozen; have l_G3 := G3.lt
  go_wp2_with fail
  refine name_world _ ?_
  intro W3 hW3
  obtain ⟨g7, h7⟩ : ∃ b, b = V3.heap.size := ⟨_, rfl⟩
  have B7 : Blk W3 g7 38 #[.int .i64 lxl, .int .i64 lxh, .int .i64 lyl, .int .i64 lyh, .int .i64 lul, .int .i64 luh, .int .i64 lvl, .int .i64 lvh] := by rw [hW3]; exact (Blk.newAt h7).alloc _
  have B8 : Blk W3 (g7 + 1) 38 #[.int .i64 rxl, .int .i64 rxh, .int .i64 ryl, .int .i64 ryh, .int .i64 rul, .int .i64 ruh, .int .i64 rvl, .int .i64 rvh] := by rw [hW3]; exact Blk.newAt (by simp; omega)
  have hx : Ext V3 W3 := by rw [hW3]; exact (Ext.alloc0 _ _).alloc _
  have o1 : w.heap.size + 1 + 1 < g7 := by omega
  clear c_B1 f_B1 l_B1 c_G2 f_G2 l_G2 c_G3 f_G3 l_G3
  replace G2 := G2.ext hx
  replace G3 := G3.ext hx
  replace E := E.trans hx
  rw [← h7]
  clear hx hW3 h7 B1
  have c_B7 := B7.cell; have f_B7 := B7.frozen; have l_B7 := B7.lt; have c_B8 := B8.cell; have f_B8 := B8.frozen; have l_B8 := B8.lt
  refine wp_region_tail 2 (fun v => Blk v g7 38 #[.int .i64 lxl, .int .i64 lxh, .int .i64 lyl, .int .i64 lyh, .int .i64 lul, .int .i64 luh, .int .i64 lvl, .int .i64 lvh] ∧ Blk v (g7 + 1) 38 #[.int .i64 rxl, .int .i64 rxh, .int .i64 ryl, .int .i64 ryh, .int .i64 rul, .int .i64 ruh, .int .i64 rvl, .int .i64 rvh]) (fun v => (Blk v g7 38 #[.int .i64 lxl, .int .i64 lxh, .int .i64 lyl, .int .i64 lyh, .int .i64 lul, .int .i64 luh, .int .i64 lvl, .int .i64 lvh] ∧ Blk v (g7 + 1) 38 #[.int .i64 rxl, .int .i64 rxh, .int .i64 ryl, .int .i64 ryh, .int .i64 rul, .int .i64 ruh, .int .i64 rvl, .int .i64 rvh]) ∧ Blk v (w.heap.size + 1) 38 #[.int .i64 0, .int .i64 0, .int .i64 0, .int .i64 0, .int .i64 0, .int .i64 0, .int .i64 0, .int .i64 0] ∧ Blk v (w.heap.size + 1 + 1) 38 #[.int .i64 0, .int .i64 0, .int .i64 0, .int .i64 0, .int .i64 0, .int .i64 0, .int .i64 0, .int .i64 0] ∧ Ext w v)
    (st5 _ _ _ _ _ _ _ _ _ _ _ _ _) (fun _ h => h.1) ⟨⟨B7.ext (Ext.drew (Ext.refl _)), B8.ext (Ext.drew (Ext.refl _))⟩, G2.ext (Ext.drew (Ext.refl _)), G3.ext (Ext.drew (Ext.refl _)), E.drew⟩ (by kernel_rfl) (by kernel_rfl) ?_
  clear c_B7 f_B7 l_B7 c_B8 f_B8 l_B8
  simp only [List.take_succ_cons, List.take_zero, List.drop_succ_cons, List.drop_zero]
  (repeat' (first | (refine bl_off (by rfl) ?_; simp only [putX]) | (apply bl_op; rfl; (intro w1 h1; obtain ⟨hA, hB⟩ := h1; have cA := hA.cell; have cB := hB.cell; have lA := hA.lt; have lB := hB.lt; go_simp; (try go_bits); (first | exact ⟨rfl, Ext.refl _⟩)); simp only [putX]) | (refine bl_split rfl rfl (fun hx => ?_) (fun hx => ?_) <;> simp only [hx])))
  refine bl_nil ?_
  refine tw_st (F' := fun v => (Blk v g7 38 #[.int .i64 lxl, .int .i64 lxh, .int .i64 lyl, .int .i64 lyh, .int .i64 lul, .int .i64 luh, .int .i64 lvl, .int .i64 lvh] ∧ Blk v (g7 + 1) 38 #[.int .i64 rxl, .int .i64 rxh, .int .i64 ryl, .int .i64 ryh, .int .i64 rul, .int .i64 ruh, .int .i64 rvl, .int .i64 rvh]) ∧ Blk v (w.heap.size + 1) 38 #[.int .i64 lxl, .int .i64 lxh, .int .i64 lyl, .int .i64 lyh, .int .i64 lul, .int .i64 luh, .int .i64 lvl, .int .i64 lvh] ∧ Blk v (w.heap.size + 1 + 1) 38 #[.int .i64 0, .int .i64 0, .int .i64 0, .int .i64 0, .int .i64 0, .int .i64 0, .int .i64 0, .int .i64 0] ∧ Ext w v) rfl rfl (st5 _ _ _ _ _ _ _ _ _ _ _ _ _) (fun _ h => h.1) (fun w1 h1 => ?_) ?_
  · obtain ⟨⟨hA, hB⟩, h2, h3, hE⟩ := h1
    have c2 := h2.cell
    have f2 := h2.frozen
    have l2 := h2.lt
    refine ⟨_, (by go_simp; rfl), ?_⟩
    exact ⟨⟨blk_far2 (blk_far2 (blk_far2 (blk_far2 hA (by omega)) (by omega)) (by omega)) (by omega), blk_far2 (blk_far2 (blk_far2 (blk_far2 hB (by omega)) (by omega)) (by omega)) (by omega)⟩, blk_set2 (blk_set2 (blk_set2 (blk_set2 h2 rfl) rfl) rfl) rfl, blk_far2 (blk_far2 (blk_far2 (blk_far2 h3 (by omega)) (by omega)) (by omega)) (by omega), ext_set2 (ext_set2 (ext_set2 (ext_set2 hE (by omega)) (by omega)) (by omega)) (by omega)⟩
  refine tw_st (F' := fun v => (Blk v g7 38 #[.int .i64 lxl, .int .i64 lxh, .int .i64 lyl, .int .i64 lyh, .int .i64 lul, .int .i64 luh, .int .i64 lvl, .int .i64 lvh] ∧ Blk v (g7 + 1) 38 #[.int .i64 rxl, .int .i64 rxh, .int .i64 ryl, .int .i64 ryh, .int .i64 rul, .int .i64 ruh, .int .i64 rvl, .int .i64 rvh]) ∧ Blk v (w.heap.size + 1) 38 #[.int .i64 lxl, .int .i64 lxh, .int .i64 lyl, .int .i64 lyh, .int .i64 lul, .int .i64 luh, .int .i64 lvl, .int .i64 lvh] ∧ Blk v (w.heap.size + 1 + 1) 38 #[.int .i64 rxl, .int .i64 rxh, .int .i64 ryl, .int .i64 ryh, .int .i64 rul, .int .i64 ruh, .int .i64 rvl, .int .i64 rvh] ∧ Ext w v) rfl rfl (st5 _ _ _ _ _ _ _ _ _ _ _ _ _) (fun _ h => h.1) (fun w1 h1 => ?_) ?_
  · obtain ⟨⟨hA, hB⟩, h2, h3, hE⟩ := h1
    have c3 := h3.cell
    have f3 := h3.frozen
    have l3 := h3.lt
    refine ⟨_, (by go_simp; rfl), ?_⟩
    exact ⟨⟨blk_far2 (blk_far2 (blk_far2 (blk_far2 hA (by omega)) (by omega)) (by omega)) (by omega), blk_far2 (blk_far2 (blk_far2 (blk_far2 hB (by omega)) (by omega)) (by omega)) (by omega)⟩, blk_far2 (blk_far2 (blk_far2 (blk_far2 h2 (by omega)) (by omega)) (by omega)) (by omega), blk_set2 (blk_set2 (blk_set2 (blk_set2 h3 rfl) rfl) rfl) rfl, ext_set2 (ext_set2 (ext_set2 (ext_set2 hE (by omega)) (by omega)) (by omega)) (by omega)⟩
  refine ⟨rfl, fun w1 h1 => ⟨.bool true, w1, _, .inl (by go_simp), st5 _ _ _ _ _ _ _ _ _ _ _ _ _, fun _ h => h.1, h1, ?_⟩⟩
  refine tw_nil ?_
  rintro W9 ⟨_, Q2, Q3, QE⟩
  have c_Q2 := Q2.cell; have f_Q2 := Q2.frozen; have l_Q2 := Q2.lt; have c_Q3 := Q3.cell; have f_Q3 := Q3.frozen; have l_Q3 := Q3.lt
  go_wp2_with fail
  (try simp only [Exit.inBlock, Exit.then]); apply bodyPost_ret; (focus (simp only [results, Tryz.results31]; go_simp; try rfl)); rfl
  exact ⟨rfl, QE⟩
theorem oSplit_c (b : Bx) (w : World) :
    Calls Tryz.prog 31 #[bxV b] w fun e w' => e = .returned (splitV b) ∧ Ext w w' := by
  by_cases h : bxErr b = 0
  · by_cases h2 : (widB b).2 = 0
    · have hs : splitOk b = false := by unfold splitOk; simp [h2]
      unfold splitV
      rw [hs, if_neg (by decide)]
      exact oSplit_no b (bxErr b) _ _ w (.inr h2) (fun W => oCheck_c b W) (fun W => oWidest_c b W h)
    · have hs : splitOk b = true := by unfold splitOk; simp [h, h2]
      unfold splitV
      rw [hs, if_pos rfl]
      exact oSplit_yes b _ _ _ _ w h2 (fun W => h ▸ oCheck_c b W) (fun W => oWidest_c b W h) (fun W => oCutB_c b W h)
  · have hs : splitOk b = false := by unfold splitOk; simp [h]
    unfold splitV
    rw [hs, if_neg (by decide)]
    exact oSplit_wrong b (bxErr b) w h (fun W => oCheck_c b W) (fun W => oWidest_some b W)
end Go.Proofs.YtfniicgoeljmdaaGreat

namespace Go.Proofs.YtfniicgoeljmdaaGreat
open Go.RowKit

structure BxR where
  b : Bx
  e : Int
abbrev bxRV (r : BxR) : Value := .tuple #[.agg #[.int .i64 r.b.x.lo, .int .i64 r.b.x.hi, .int .i64 r.b.y.lo, .int .i64 r.b.y.hi, .int .i64 r.b.u.lo, .int .i64 r.b.u.hi, .int .i64 r.b.v.lo, .int .i64 r.b.v.hi], .int .i64 r.e]
def stepM (l : List Body) (home : Int) (d : Drf) (tick : Int) (b : Bx) : BxR :=
  if wdErr l home d = 0 then (if within tick 0 1073741823 then (if bxErr b = 0 then (if bxErr (stepB l home d tick b) = 0 then ⟨stepB l home d tick b, 0⟩ else ⟨zeroB, 14⟩) else ⟨zeroB, bxErr b⟩) else ⟨zeroB, 2⟩) else ⟨zeroB, wdErr l home d⟩
section
variable (A : Option Addr) (n c : Nat) (home ll lh hl hh g tick xl xh yl yh ul uh vl vh : Int) (w : World)
set_option maxRecDepth 20000
set_option maxHeartbeats 2000000
theorem oStep_w (E : Int) (hE : E ≠ 0) (H : Hid (∀ W, Ext w W → Calls Tryz.prog 67 #[.agg #[.slice A n c, .int .i64 home], .agg #[.int .i64 ll, .int .i64 lh, .int .i64 hl, .int .i64 hh, .int .i64 g]] W fun e w' => e = .returned (.int .i64 E) ∧ Ext W w')) :
    Calls Tryz.prog 23 #[.agg #[.slice A n c, .int .i64 home], .agg #[.int .i64 ll, .int .i64 lh, .int .i64 hl, .int .i64 hh, .int .i64 g], .int .i64 tick, .agg #[.int .i64 xl, .int .i64 xh, .int .i64 yl, .int .i64 yh, .int .i64 ul, .int .i64 uh, .int .i64 vl, .int .i64 vh]] w fun e w' => e = .returned (.tuple #[.agg #[.int .i64 0, .int .i64 0, .int .i64 0, .int .i64 0, .int .i64 0, .int .i64 0, .int .i64 0, .int .i64 0], .int .i64 (E)]) ∧ Ext w w' := by
  go_enter Tryz.func23, Tryz.ntmps23
  go_wp2_with fail
  refine (H.out _ ext_by).mono ?_
  rintro e w1 ⟨rfl, h1⟩
  have G8 : Blk w1 (w.heap.size + 1 + 1 + 1) 38 #[.int .i64 0, .int .i64 0, .int .i64 0, .int .i64 0, .int .i64 0, .int .i64 0, .int .i64 0, .int .i64 0] := (Blk.newAt (by simp)).ext h1
  have GE : Ext w w1 := ext_by
  clear h1
  have c_G8 := G8.cell; have f_G8 := G8.frozen; have l_G8 := G8.lt
  (try dsimp only); repeat' (first | go_values | go_skip | go_guarded | go_step | go_upon | go_in | go_at_K)
  refine name_world _ ?_
  intro W9 hW9
  have Q8 : Blk W9 (w.heap.size + 1 + 1 + 1) 38 #[.int .i64 0, .int .i64 0, .int .i64 0, .int .i64 0, .int .i64 0, .int .i64 0, .int .i64 0, .int .i64 0] := by rw [hW9]; exact blk_set2 (blk_set2 (blk_set2 (blk_set2 G8 rfl) rfl) rfl) rfl
  have QE : Ext w W9 := by rw [hW9]; exact ext_set2 (ext_set2 (ext_set2 (ext_set2 GE (by omega)) (by omega)) (by omega)) (by omega)
  clear hW9
  have c_Q8 := Q8.cell; have f_Q8 := Q8.frozen; have l_Q8 := Q8.lt
  (try simp only [Exit.inBlock, Exit.then]); apply bodyPost_ret; (focus (simp only [results, Tryz.results23]; go_simp; try rfl)); rfl
  exact ⟨rfl, QE⟩
theorem oStep_t (H : Hid (∀ W, Ext w W → Calls Tryz.prog 67 #[.agg #[.slice A n c, .int .i64 home], .agg #[.int .i64 ll, .int .i64 lh, .int .i64 hl, .int .i64 hh, .int .i64 g]] W fun e w' => e = .returned (.int .i64 0) ∧ Ext W w')) (HT : Hid (∀ W, Calls Tryz.prog 68 #[.int .i64 tick, .int .i64 0, .int .i64 1073741823] W fun e w' => e = .returned (.bool false) ∧ Ext W w')) :
    Calls Tryz.prog 23 #[.agg #[.slice A n c, .int .i64 home], .agg #[.int .i64 ll, .int .i64 lh, .int .i64 hl, .int .i64 hh, .int .i64 g], .int .i64 tick, .agg #[.int .i64 xl, .int .i64 xh, .int .i64 yl, .int .i64 yh, .int .i64 ul, .int .i64 uh, .int .i64 vl, .int .i64 vh]] w fun e w' => e = .returned (.tuple #[.agg #[.int .i64 0, .int .i64 0, .int .i64 0, .int .i64 0, .int .i64 0, .int .i64 0, .int .i64 0, .int .i64 0], .int .i64 (2)]) ∧ Ext w w' := by
  go_enter Tryz.func23, Tryz.ntmps23
  go_wp2_with fail
  refine (H.out _ ext_by).mono ?_
  rintro e w1 ⟨rfl, h1⟩
  have G8 : Blk w1 (w.heap.size + 1 + 1 + 1) 38 #[.int .i64 0, .int .i64 0, .int .i64 0, .int .i64 0, .int .i64 0, .int .i64 0, .int .i64 0, .int .i64 0] := (Blk.newAt (by simp)).ext h1
  have GE : Ext w w1 := ext_by
  clear h1
  go_wp2_with fail
  refine (HT.out _).mono ?_
  rintro e w2 ⟨rfl, h2⟩
  have G8' := G8.ext h2
  have GE' := GE.trans h2
  clear h2 G8 GE
  have c_G8' := G8'.cell; have f_G8' := G8'.frozen; have l_G8' := G8'.lt
  (try dsimp only); repeat' (first | go_values | go_skip | go_guarded | go_step | go_upon | go_in | go_at_K)
  refine name_world _ ?_
  intro W9 hW9
  have Q8 : Blk W9 (w.heap.size + 1 + 1 + 1) 38 #[.int .i64 0, .int .i64 0, .int .i64 0, .int .i64 0, .int .i64 0, .int .i64 0, .int .i64 0, .int .i64 0] := by rw [hW9]; exact blk_set2 (blk_set2 (blk_set2 (blk_set2 G8' rfl) rfl) rfl) rfl
  have QE : Ext w W9 := by rw [hW9]; exact ext_set2 (ext_set2 (ext_set2 (ext_set2 GE' (by omega)) (by omega)) (by omega)) (by omega)
  clear hW9
  have c_Q8 := Q8.cell; have f_Q8 := Q8.frozen; have l_Q8 := Q8.lt
  (try simp only [Exit.inBlock, Exit.then]); apply bodyPost_ret; (focus (simp only [results, Tryz.results23]; go_simp; try rfl)); rfl
  exact ⟨rfl, QE⟩
theorem oStep_b (E : Int) (hE : E ≠ 0) (H : Hid (∀ W, Ext w W → Calls Tryz.prog 67 #[.agg #[.slice A n c, .int .i64 home], .agg #[.int .i64 ll, .int .i64 lh, .int .i64 hl, .int .i64 hh, .int .i64 g]] W fun e w' => e = .returned (.int .i64 0) ∧ Ext W w')) (HT : Hid (∀ W, Calls Tryz.prog 68 #[.int .i64 tick, .int .i64 0, .int .i64 1073741823] W fun e w' => e = .returned (.bool true) ∧ Ext W w')) (HC : Hid (∀ W, Calls Tryz.prog 37 #[.agg #[.int .i64 xl, .int .i64 xh, .int .i64 yl, .int .i64 yh, .int .i64 ul, .int .i64 uh, .int .i64 vl, .int .i64 vh]] W fun e w' => e = .returned (.int .i64 E) ∧ Ext W w')) :
    Calls Tryz.prog 23 #[.agg #[.slice A n c, .int .i64 home], .agg #[.int .i64 ll, .int .i64 lh, .int .i64 hl, .int .i64 hh, .int .i64 g], .int .i64 tick, .agg #[.int .i64 xl, .int .i64 xh, .int .i64 yl, .int .i64 yh, .int .i64 ul, .int .i64 uh, .int .i64 vl, .int .i64 vh]] w fun e w' => e = .returned (.tuple #[.agg #[.int .i64 0, .int .i64 0, .int .i64 0, .int .i64 0, .int .i64 0, .int .i64 0, .int .i64 0, .int .i64 0], .int .i64 (E)]) ∧ Ext w w' := by
  go_enter Tryz.func23, Tryz.ntmps23
  go_wp2_with fail
  refine (H.out _ ext_by).mono ?_
  rintro e w1 ⟨rfl, h1⟩
  have G8 : Blk w1 (w.heap.size + 1 + 1 + 1) 38 #[.int .i64 0, .int .i64 0, .int .i64 0, .int .i64 0, .int .i64 0, .int .i64 0, .int .i64 0, .int .i64 0] := (Blk.newAt (by simp)).ext h1
  have G7 : Blk w1 (w.heap.size + 1 + 1) 38 #[.int .i64 xl, .int .i64 xh, .int .i64 yl, .int .i64 yh, .int .i64 ul, .int .i64 uh, .int .i64 vl, .int .i64 vh] := ((Blk.newAt (by simp)).alloc _).ext h1
  have GE : Ext w w1 := ext_by
  clear h1
  go_wp2_with fail
  refine (HT.out _).mono ?_
  rintro e w2 ⟨rfl, h2⟩
  have G8' := G8.ext h2
  have G7' := G7.ext h2
  have GE' := GE.trans h2
  clear h2 G8 GE G7
  have c_G7' := G7'.cell; have f_G7' := G7'.frozen; have l_G7' := G7'.lt
  go_wp2_with fail
  refine (HC.out _).mono ?_
  rintro e w3 ⟨rfl, h3⟩
  have F8 := G8'.ext h3
  have FE := GE'.trans h3
  clear h3 G8' G7' GE'
  have c_F8 := F8.cell; have f_F8 := F8.frozen; have l_F8 := F8.lt
  (try dsimp only); repeat' (first | go_values | go_skip | go_guarded | go_step | go_upon | go_in | go_at_K)
  refine name_world _ ?_
  intro W9 hW9
  have Q8 : Blk W9 (w.heap.size + 1 + 1 + 1) 38 #[.int .i64 0, .int .i64 0, .int .i64 0, .int .i64 0, .int .i64 0, .int .i64 0, .int .i64 0, .int .i64 0] := by rw [hW9]; exact blk_set2 (blk_set2 (blk_set2 (blk_set2 F8 rfl) rfl) rfl) rfl
  have QE : Ext w W9 := by rw [hW9]; exact ext_set2 (ext_set2 (ext_set2 (ext_set2 FE (by omega)) (by omega)) (by omega)) (by omega)
  clear hW9
  have c_Q8 := Q8.cell; have f_Q8 := Q8.frozen; have l_Q8 := Q8.lt
  (try simp only [Exit.inBlock, Exit.then]); apply bodyPost_ret; (focus (simp only [results, Tryz.results23]; go_simp; try rfl)); rfl
  exact ⟨rfl, QE⟩
variable (pl ph ql qh rl rh sl sh : Int)
theorem oStep_n (H : Hid (∀ W, Ext w W → Calls Tryz.prog 67 #[.agg #[.slice A n c, .int .i64 home], .agg #[.int .i64 ll, .int .i64 lh, .int .i64 hl, .int .i64 hh, .int .i64 g]] W fun e w' => e = .returned (.int .i64 0) ∧ Ext W w')) (HT : Hid (∀ W, Calls Tryz.prog 68 #[.int .i64 tick, .int .i64 0, .int .i64 1073741823] W fun e w' => e = .returned (.bool true) ∧ Ext W w')) (HC : Hid (∀ W, Calls Tryz.prog 37 #[.agg #[.int .i64 xl, .int .i64 xh, .int .i64 yl, .int .i64 yh, .int .i64 ul, .int .i64 uh, .int .i64 vl, .int .i64 vh]] W fun e w' => e = .returned (.int .i64 0) ∧ Ext W w')) (HS : Hid (∀ W, Ext w W → Calls Tryz.prog 73 #[.agg #[.slice A n c, .int .i64 home], .agg #[.int .i64 ll, .int .i64 lh, .int .i64 hl, .int .i64 hh, .int .i64 g], .int .i64 tick, .agg #[.int .i64 xl, .int .i64 xh, .int .i64 yl, .int .i64 yh, .int .i64 ul, .int .i64 uh, .int .i64 vl, .int .i64 vh]] W fun e w' => e = .returned (.tuple #[.agg #[.int .i64 pl, .int .i64 ph, .int .i64 ql, .int .i64 qh, .int .i64 rl, .int .i64 rh, .int .i64 sl, .int .i64 sh], .bool false]) ∧ Ext W w')) :
    Calls Tryz.prog 23 #[.agg #[.slice A n c, .int .i64 home], .agg #[.int .i64 ll, .int .i64 lh, .int .i64 hl, .int .i64 hh, .int .i64 g], .int .i64 tick, .agg #[.int .i64 xl, .int .i64 xh, .int .i64 yl, .int .i64 yh, .int .i64 ul, .int .i64 uh, .int .i64 vl, .int .i64 vh]] w fun e w' => e = .returned (.tuple #[.agg #[.int .i64 0, .int .i64 0, .int .i64 0, .int .i64 0, .int .i64 0, .int .i64 0, .int .i64 0, .int .i64 0], .int .i64 (14)]) ∧ Ext w w' := by
  go_enter Tryz.func23, Tryz.ntmps23
  go_wp2_with fail
  refine (H.out _ ext_by).mono ?_
  rintro e w1 ⟨rfl, h1⟩
  have G8 : Blk w1 (w.heap.size + 1 + 1 + 1) 38 #[.int .i64 0, .int .i64 0, .int .i64 0, .int .i64 0, .int .i64 0, .int .i64 0, .int .i64 0, .int .i64 0] := (Blk.newAt (by simp)).ext h1
  have G7 : Blk w1 (w.heap.size + 1 + 1) 38 #[.int .i64 xl, .int .i64 xh, .int .i64 yl, .int .i64 yh, .int .i64 ul, .int .i64 uh, .int .i64 vl, .int .i64 vh] := ((Blk.newAt (by simp)).alloc _).ext h1
  have GE : Ext w w1 := ext_by
  have G5 : Blk w1 (w.heap.size) 24 #[.slice A n c, .int .i64 home] := ((((Blk.newAt (by simp)).alloc _).alloc _).alloc _).ext h1
  have G6 : Blk w1 (w.heap.size + 1) 28 #[.int .i64 ll, .int .i64 lh, .int .i64 hl, .int .i64 hh, .int .i64 g] := (((Blk.newAt (by simp)).alloc _).alloc _).ext h1
  clear h1
  go_wp2_with fail
  refine (HT.out _).mono ?_
  rintro e w2 ⟨rfl, h2⟩
  have G8' := G8.ext h2
  have G7' := G7.ext h2
  have G6' := G6.ext h2
  have G5' := G5.ext h2
  have GE' := GE.trans h2
  clear h2 G8 GE G7 G6 G5
  have c_G7' := G7'.cell; have f_G7' := G7'.frozen; have l_G7' := G7'.lt
  go_wp2_with fail
  refine (HC.out _).mono ?_
  rintro e w3 ⟨rfl, h3⟩
  have F8 := G8'.ext h3
  have F7 := G7'.ext h3
  have F6 := G6'.ext h3
  have F5 := G5'.ext h3
  have FE := GE'.trans h3
  clear h3 G8' G7' G6' G5' GE'
  clear c_G7' f_G7' l_G7'
  have c_F7 := F7.cell; have f_F7 := F7.frozen; have l_F7 := F7.lt; have c_F6 := F6.cell; have f_F6 := F6.frozen; have l_F6 := F6.lt; have c_F5 := F5.cell; have f_F5 := F5.frozen; have l_F5 := F5.lt
  go_wp2_with fail
  refine (HS.out _ ext_by).mono ?_
  rintro e w4 ⟨rfl, h4⟩
  have D8 := F8.ext h4
  have DE := FE.trans h4
  clear c_F7 f_F7 l_F7 c_F6 f_F6 l_F6 c_F5 f_F5 l_F5
  clear h4 F8 F7 F6 F5 FE
  have c_D8 := D8.cell; have f_D8 := D8.frozen; have l_D8 := D8.lt
  (try dsimp only); repeat' (first | go_values | go_skip | go_guarded | go_step | go_upon | go_in | go_at_K)
  refine name_world _ ?_
  intro W9 hW9
  have Q8 : Blk W9 (w.heap.size + 1 + 1 + 1) 38 #[.int .i64 0, .int .i64 0, .int .i64 0, .int .i64 0, .int .i64 0, .int .i64 0, .int .i64 0, .int .i64 0] := by
    rw [hW9]; exact (blk_set2 (blk_set2 (blk_set2 (blk_set2 D8 rfl) rfl) rfl) rfl).alloc _
  have QE : Ext w W9 := by
    rw [hW9]; exact (ext_set2 (ext_set2 (ext_set2 (ext_set2 DE (by omega)) (by omega)) (by omega)) (by omega)).alloc _
  clear hW9
  have c_Q8 := Q8.cell; have f_Q8 := Q8.frozen; have l_Q8 := Q8.lt
  (try simp only [Exit.inBlock, Exit.then]); apply bodyPost_ret; (focus (simp only [results, Tryz.results23]; go_simp; try rfl)); rfl
  exact ⟨rfl, QE⟩
theorem oStep_k (H : Hid (∀ W, Ext w W → Calls Tryz.prog 67 #[.agg #[.slice A n c, .int .i64 home], .agg #[.int .i64 ll, .int .i64 lh, .int .i64 hl, .int .i64 hh, .int .i64 g]] W fun e w' => e = .returned (.int .i64 0) ∧ Ext W w')) (HT : Hid (∀ W, Calls Tryz.prog 68 #[.int .i64 tick, .int .i64 0, .int .i64 1073741823] W fun e w' => e = .returned (.bool true) ∧ Ext W w')) (HC : Hid (∀ W, Calls Tryz.prog 37 #[.agg #[.int .i64 xl, .int .i64 xh, .int .i64 yl, .int .i64 yh, .int .i64 ul, .int .i64 uh, .int .i64 vl, .int .i64 vh]] W fun e w' => e = .returned (.int .i64 0) ∧ Ext W w')) (HS : Hid (∀ W, Ext w W → Calls Tryz.prog 73 #[.agg #[.slice A n c, .int .i64 home], .agg #[.int .i64 ll, .int .i64 lh, .int .i64 hl, .int .i64 hh, .int .i64 g], .int .i64 tick, .agg #[.int .i64 xl, .int .i64 xh, .int .i64 yl, .int .i64 yh, .int .i64 ul, .int .i64 uh, .int .i64 vl, .int .i64 vh]] W fun e w' => e = .returned (.tuple #[.agg #[.int .i64 pl, .int .i64 ph, .int .i64 ql, .int .i64 qh, .int .i64 rl, .int .i64 rh, .int .i64 sl, .int .i64 sh], .bool true]) ∧ Ext W w')) :
    Calls Tryz.prog 23 #[.agg #[.slice A n c, .int .i64 home], .agg #[.int .i64 ll, .int .i64 lh, .int .i64 hl, .int .i64 hh, .int .i64 g], .int .i64 tick, .agg #[.int .i64 xl, .int .i64 xh, .int .i64 yl, .int .i64 yh, .int .i64 ul, .int .i64 uh, .int .i64 vl, .int .i64 vh]] w fun e w' => e = .returned (.tuple #[.agg #[.int .i64 pl, .int .i64 ph, .int .i64 ql, .int .i64 qh, .int .i64 rl, .int .i64 rh, .int .i64 sl, .int .i64 sh], .int .i64 (0)]) ∧ Ext w w' := by
  go_enter Tryz.func23, Tryz.ntmps23
  go_wp2_with fail
  refine (H.out _ ext_by).mono ?_
  rintro e w1 ⟨rfl, h1⟩
  have G8 : Blk w1 (w.heap.size + 1 + 1 + 1) 38 #[.int .i64 0, .int .i64 0, .int .i64 0, .int .i64 0, .int .i64 0, .int .i64 0, .int .i64 0, .int .i64 0] := (Blk.newAt (by simp)).ext h1
  have G7 : Blk w1 (w.heap.size + 1 + 1) 38 #[.int .i64 xl, .int .i64 xh, .int .i64 yl, .int .i64 yh, .int .i64 ul, .int .i64 uh, .int .i64 vl, .int .i64 vh] := ((Blk.newAt (by simp)).alloc _).ext h1
  have GE : Ext w w1 := ext_by
  have G5 : Blk w1 (w.heap.size) 24 #[.slice A n c, .int .i64 home] := ((((Blk.newAt (by simp)).alloc _).alloc _).alloc _).ext h1
  have G6 : Blk w1 (w.heap.size + 1) 28 #[.int .i64 ll, .int .i64 lh, .int .i64 hl, .int .i64 hh, .int .i64 g] := (((Blk.newAt (by simp)).alloc _).alloc _).ext h1
  clear h1
  go_wp2_with fail
  refine (HT.out _).mono ?_
  rintro e w2 ⟨rfl, h2⟩
  have G8' := G8.ext h2
  have G7' := G7.ext h2
  have G6' := G6.ext h2
  have G5' := G5.ext h2
  have GE' := GE.trans h2
  clear h2 G8 GE G7 G6 G5
  have c_G7' := G7'.cell; have f_G7' := G7'.frozen; have l_G7' := G7'.lt
  go_wp2_with fail
  refine (HC.out _).mono ?_
  rintro e w3 ⟨rfl, h3⟩
  have F8 := G8'.ext h3
  have F7 := G7'.ext h3
  have F6 := G6'.ext h3
  have F5 := G5'.ext h3
  have FE := GE'.trans h3
  clear h3 G8' G7' G6' G5' GE'
  clear c_G7' f_G7' l_G7'
  have c_F7 := F7.cell; have f_F7 := F7.frozen; have l_F7 := F7.lt; have c_F6 := F6.cell; have f_F6 := F6.frozen; have l_F6 := F6.lt; have c_F5 := F5.cell; have f_F5 := F5.frozen; have l_F5 := F5.lt
  go_wp2_with fail
  refine (HS.out _ ext_by).mono ?_
  rintro e w4 ⟨rfl, h4⟩
  have D8 := F8.ext h4
  have DE := FE.trans h4
  clear c_F7 f_F7 l_F7 c_F6 f_F6 l_F6 c_F5 f_F5 l_F5
  clear h4 F8 F7 F6 F5 FE
  have c_D8 := D8.cell; have f_D8 := D8.frozen; have l_D8 := D8.lt
  (try dsimp only); repeat' (first | go_values | go_skip | go_guarded | go_step | go_upon | go_in | go_at_K)
  refine name_world _ ?_
  intro W9 hW9
  have Q8 : Blk W9 (w.heap.size + 1 + 1 + 1) 38 #[.int .i64 pl, .int .i64 ph, .int .i64 ql, .int .i64 qh, .int .i64 rl, .int .i64 rh, .int .i64 sl, .int .i64 sh] := by
    rw [hW9]; exact (blk_set2 (blk_set2 (blk_set2 (blk_set2 D8 rfl) rfl) rfl) rfl).alloc _
  have QE : Ext w W9 := by
    rw [hW9]; exact (ext_set2 (ext_set2 (ext_set2 (ext_set2 DE (by omega)) (by omega)) (by omega)) (by omega)).alloc _
  clear hW9
  have c_Q8 := Q8.cell; have f_Q8 := Q8.frozen; have l_Q8 := Q8.lt
  (try simp only [Exit.inBlock, Exit.then]); apply bodyPost_ret; (focus (simp only [results, Tryz.results23]; go_simp; try rfl)); rfl
  exact ⟨rfl, QE⟩
theorem oStep_c (l : List Body) (d : Drf) (b : Bx) (hl : Bodies w A n l) :
    Calls Tryz.prog 23 #[.agg #[.slice A n c, .int .i64 home], .agg #[.int .i64 d.light.lo, .int .i64 d.light.hi, .int .i64 d.heat.lo, .int .i64 d.heat.hi, .int .i64 d.gas], .int .i64 tick, .agg #[.int .i64 b.x.lo, .int .i64 b.x.hi, .int .i64 b.y.lo, .int .i64 b.y.hi, .int .i64 b.u.lo, .int .i64 b.u.hi, .int .i64 b.v.lo, .int .i64 b.v.hi]] w fun e w' => e = .returned (bxRV (stepM l home d tick b)) ∧ Ext w w' := by
  have H : Hid (∀ W, Ext w W → Calls Tryz.prog 67 #[.agg #[.slice A n c, .int .i64 home], .agg #[.int .i64 d.light.lo, .int .i64 d.light.hi, .int .i64 d.heat.lo, .int .i64 d.heat.hi, .int .i64 d.gas]] W fun e w' => e = .returned (.int .i64 (wdErr l home d)) ∧ Ext W w') := Lib.hid fun W hW => oCheckWorld_c A n c home l _ _ _ _ _ W (Bodies.ext hW hl)
  have HT : Hid (∀ W, Calls Tryz.prog 68 #[.int .i64 tick, .int .i64 0, .int .i64 1073741823] W fun e w' => e = .returned (.bool (within tick 0 1073741823)) ∧ Ext W w') := Lib.hid fun W => oWithin_c _ _ _ W
  have HC : Hid (∀ W, Calls Tryz.prog 37 #[.agg #[.int .i64 b.x.lo, .int .i64 b.x.hi, .int .i64 b.y.lo, .int .i64 b.y.hi, .int .i64 b.u.lo, .int .i64 b.u.hi, .int .i64 b.v.lo, .int .i64 b.v.hi]] W fun e w' => e = .returned (.int .i64 (bxErr b)) ∧ Ext W w') := Lib.hid fun W => oCheck_c b W
  unfold stepM
  by_cases h1 : wdErr l home d = 0
  · rw [if_pos h1]
    rw [h1] at H
    by_cases h2 : within tick 0 1073741823 = true
    · rw [if_pos h2]
      rw [h2] at HT
      have hT : 0 ≤ tick ∧ tick ≤ 1073741824 := by
        simp only [within, Bool.and_eq_true, decide_eq_true_eq] at h2; omega
      by_cases h3 : bxErr b = 0
      · rw [if_pos h3]
        rw [h3] at HC
        have HS := Lib.hid fun W (hW : Ext w W) => oStep0_c A n c home l d tick b W (Bodies.ext hW hl) h1 hT h3
        by_cases h4 : bxErr (stepB l home d tick b) = 0
        · rw [if_pos h4]
          simp only [h4, decide_true] at HS
          exact oStep_k _ _ _ _ _ _ _ _ _ _ _ _ _ _ _ _ _ _ _ _ _ _ _ _ _ _ _ H HT HC HS
        · rw [if_neg h4]
          simp only [h4, decide_false] at HS
          exact oStep_n _ _ _ _ _ _ _ _ _ _ _ _ _ _ _ _ _ _ _ _ _ _ _ _ _ _ _ H HT HC HS
      · rw [if_neg h3]
        exact oStep_b _ _ _ _ _ _ _ _ _ _ _ _ _ _ _ _ _ _ _ _ h3 H HT HC
    · rw [if_neg h2]
      rw [Bool.eq_false_iff.2 h2] at HT
      exact oStep_t _ _ _ _ _ _ _ _ _ _ _ _ _ _ _ _ _ _ _ H HT
  · rw [if_neg h1]
    exact oStep_w _ _ _ _ _ _ _ _ _ _ _ _ _ _ _ _ _ _ _ _ h1 H
end
end Go.Proofs.YtfniicgoeljmdaaGreat

namespace Go.Proofs.YtfniicgoeljmdaaGreat
open Go.RowKit

def followsB (l : List Body) (home : Int) (d : Drf) (tick : Int) (s n : St) : Bool :=
  decide ((overM l home d tick ⟨⟨s.x, s.x⟩, ⟨s.y, s.y⟩⟩).e = 0) && within (n.u - s.u) (overM l home d tick ⟨⟨s.x, s.x⟩, ⟨s.y, s.y⟩⟩).a.x.lo (overM l home d tick ⟨⟨s.x, s.x⟩, ⟨s.y, s.y⟩⟩).a.x.hi && within (n.v - s.v) (overM l home d tick ⟨⟨s.x, s.x⟩, ⟨s.y, s.y⟩⟩).a.y.lo (overM l home d tick ⟨⟨s.x, s.x⟩, ⟨s.y, s.y⟩⟩).a.y.hi && decide (n.x = s.x + n.u) && decide (n.y = s.y + n.v)

set_option maxRecDepth 20000 in
set_option maxHeartbeats 2000000 in
theorem oFollows_c (A : Option Addr) (n c : Nat) (home : Int) (l : List Body) (d : Drf) (tick : Int) (x y u v x' y' u' v' : Int) (w : World) (hl : Bodies w A n l) (h1 : stErr ⟨x, y, u, v⟩ = 0) (h2 : stErr ⟨x', y', u', v'⟩ = 0) :
    Calls Tryz.prog 69 #[.agg #[.slice A n c, .int .i64 home], .agg #[.int .i64 d.light.lo, .int .i64 d.light.hi, .int .i64 d.heat.lo, .int .i64 d.heat.hi, .int .i64 d.gas], .int .i64 tick, .agg #[.int .i64 x, .int .i64 y, .int .i64 u, .int .i64 v], .agg #[.int .i64 x', .int .i64 y', .int .i64 u', .int .i64 v']] w fun e w' =>
      e = .returned (.bool (followsB l home d tick ⟨x, y, u, v⟩ ⟨x', y', u', v'⟩)) ∧ Ext w w' := by
  have HP := Lib.hid fun W (hW : Ext w W) => fPullAt_c A n c home l d tick x y W (Bodies.ext hW hl)
  obtain ⟨⟨p1, p2⟩, ⟨p3, p4⟩, ⟨p5, p6⟩, p7, p8⟩ := stErr_ok.1 h1
  obtain ⟨⟨q1, q2⟩, ⟨q3, q4⟩, ⟨q5, q6⟩, q7, q8⟩ := stErr_ok.1 h2
  dsimp only at p1 p2 p3 p4 p5 p6 p7 p8 q1 q2 q3 q4 q5 q6 q7 q8
  unfold followsB
  dsimp only
  generalize overM _ _ _ _ _ = R at *
  obtain ⟨⟨⟨al, ah⟩, bl, bh⟩, E⟩ := R
  obtain ⟨⟨ll, lh⟩, ⟨hl', hh⟩, g⟩ := d
  dsimp only at HP ⊢
  have HW1 := Lib.hid fun W => oWithin_c (u' - u) al ah W
  have HW2 := Lib.hid fun W => oWithin_c (v' - v) bl bh W
  generalize within (u' - u) al ah = B1 at *
  generalize within (v' - v) bl bh = B2 at *
  have b1 : -9223372036854775808 ≤ u' - u ∧ u' - u < 9223372036854775808 := by omega
  have b2 : -9223372036854775808 ≤ v' - v ∧ v' - v < 9223372036854775808 := by omega
  have b3 : -9223372036854775808 ≤ x + u' ∧ x + u' < 9223372036854775808 := by omega
  have b4 : -9223372036854775808 ≤ y + v' ∧ y + v' < 9223372036854775808 := by omega
  have hR : ∀ e w', (∃ (k : Bool), k = (decide (E = 0) && B1 && B2 && decide (x' = x + u') && decide (y' = y + v')) ∧ e = Ending.returned (.bool k) ∧ Ext w w') → (e = .returned (.bool (decide (E = 0) && B1 && B2 && decide (x' = x + u') && decide (y' = y + v'))) ∧ Ext w w') := by
    rintro e w' ⟨k, rfl, rfl, h⟩; exact ⟨rfl, h⟩
  refine Calls.mono ?_ hR
  clear hR h1 h2 hl p1 p2 p3 p4 p5 p6 p7 p8 q1 q2 q3 q4 q5 q6 q7 q8
  go_enter Tryz.func69, Tryz.ntmps69
  go_wp2_with fail
  refine (HP.out _ ext_by).mono ?_
  rintro e w1 ⟨rfl, h1'⟩
  have F7 : Blk w1 (w.heap.size + 1 + 1) 30 #[.int .i64 x, .int .i64 y, .int .i64 u, .int .i64 v] := ((Blk.newAt (by simp)).alloc _).ext h1'
  have F8 : Blk w1 (w.heap.size + 1 + 1 + 1) 30 #[.int .i64 x', .int .i64 y', .int .i64 u', .int .i64 v'] := (Blk.newAt (by simp)).ext h1'
  have FE : Ext w w1 := ext_by
  clear h1'
  have c_F7 := F7.cell; have f_F7 := F7.frozen; have l_F7 := F7.lt; have c_F8 := F8.cell; have f_F8 := F8.frozen; have l_F8 := F8.lt
  by_cases hE : E = 0
  · subst hE
    go_wp2_with fail
    refine (HW1.out _).mono ?_
    rintro e w2 ⟨rfl, h2⟩
    have G7 := (F7.alloc _).ext h2
    have G8 := (F8.alloc _).ext h2
    have GA : Blk w2 w1.heap.size 112 #[.int .i64 al, .int .i64 ah, .int .i64 bl, .int .i64 bh] := (Blk.newAt (by simp)).ext h2
    have GE := (FE.alloc _).trans h2
    clear c_F7 f_F7 l_F7 c_F8 f_F8 l_F8
    clear h2 F7 F8 FE
    have c_G7 := G7.cell; have f_G7 := G7.frozen; have l_G7 := G7.lt; have c_G8 := G8.cell; have f_G8 := G8.frozen; have l_G8 := G8.lt; have c_GA := GA.cell; have f_GA := GA.frozen; have l_GA := GA.lt
    cases B1
    · go_wp2_with fail
      (try simp only [Exit.inBlock, Exit.then]); apply bodyPost_ret; (focus (simp only [results, Tryz.results69]; go_simp; try rfl)); rfl
      exact ⟨rfl, ext_by⟩
    · go_wp2_with fail
      refine (HW2.out _).mono ?_
      rintro e w3 ⟨rfl, h3⟩
      have K7 := G7.ext h3
      have K8 := G8.ext h3
      have KE := GE.trans h3
      clear c_G7 f_G7 l_G7 c_G8 f_G8 l_G8 c_GA f_GA l_GA
      clear h3 G7 G8 GA GE
      have c_K7 := K7.cell; have f_K7 := K7.frozen; have l_K7 := K7.lt; have c_K8 := K8.cell; have f_K8 := K8.frozen; have l_K8 := K8.lt
      cases B2
      · go_wp2_with fail
        (try simp only [Exit.inBlock, Exit.then]); apply bodyPost_ret; (focus (simp only [results, Tryz.results69]; go_simp; try rfl)); rfl
        exact ⟨rfl, ext_by⟩
      · by_cases hX : x' = x + u'
        · by_cases hY : y' = y + v'
          · go_wp2_with fail
            (try simp only [Exit.inBlock, Exit.then]); apply bodyPost_ret; (focus (simp only [results, Tryz.results69]; go_simp; try rfl)); rfl
            exact ⟨rfl, ext_by⟩
          · go_wp2_with fail
            (try simp only [Exit.inBlock, Exit.then]); apply bodyPost_ret; (focus (simp only [results, Tryz.results69]; go_simp; try rfl)); rfl
            exact ⟨ret_b (by simp [hY]), ext_by⟩
        · go_wp2_with fail
          (try simp only [Exit.inBlock, Exit.then]); apply bodyPost_ret; (focus (simp only [results, Tryz.results69]; go_simp; try rfl)); rfl
          exact ⟨rfl, ext_by⟩
  · go_wp2_with fail
    (try simp only [Exit.inBlock, Exit.then]); apply bodyPost_ret; (focus (simp only [results, Tryz.results69]; go_simp; try rfl)); rfl
    exact ⟨false, by simp [hE], rfl, ext_by⟩
end Go.Proofs.YtfniicgoeljmdaaGreat

namespace Go.Proofs.YtfniicgoeljmdaaGreat
open Go.RowKit
def possibleB (l : List Body) (home : Int) (d : Drf) (tick : Int) (s n : St) : Bool :=
  decide (wdErr l home d = 0) && (within tick 0 1073741823 && (decide (stErr s = 0) && (decide (stErr n = 0) && followsB l home d tick s n)))
set_option maxRecDepth 20000 in
set_option maxHeartbeats 2000000 in
theorem oPossible_c (A : Option Addr) (n c : Nat) (home : Int) (l : List Body) (d : Drf) (tick : Int) (x y u v x' y' u' v' : Int) (w : World) (hl : Bodies w A n l) :
    Calls Tryz.prog 18 #[.agg #[.slice A n c, .int .i64 home], .agg #[.int .i64 d.light.lo, .int .i64 d.light.hi, .int .i64 d.heat.lo, .int .i64 d.heat.hi, .int .i64 d.gas], .int .i64 tick, .agg #[.int .i64 x, .int .i64 y, .int .i64 u, .int .i64 v], .agg #[.int .i64 x', .int .i64 y', .int .i64 u', .int .i64 v']] w fun e w' =>
      e = .returned (.bool (possibleB l home d tick ⟨x, y, u, v⟩ ⟨x', y', u', v'⟩)) ∧ Ext w w' := by
  have HW := Lib.hid fun W (hW : Ext w W) => oCheckWorld_c A n c home l d.light.lo d.light.hi d.heat.lo d.heat.hi d.gas W (Bodies.ext hW hl)
  have HT := Lib.hid fun W => oWithin_c tick 0 1073741823 W
  have HS := Lib.hid fun W => oCheckState_c x y u v W
  have HN := Lib.hid fun W => oCheckState_c x' y' u' v' W
  have HF := Lib.hid fun (h1 : stErr ⟨x, y, u, v⟩ = 0) (h2 : stErr ⟨x', y', u', v'⟩ = 0) W (hW : Ext w W) => oFollows_c A n c home l d tick x y u v x' y' u' v' W (Bodies.ext hW hl) h1 h2
  unfold possibleB
  have hd : (⟨⟨d.light.lo, d.light.hi⟩, ⟨d.heat.lo, d.heat.hi⟩, d.gas⟩ : Drf) = d := rfl
  rw [hd] at HW
  generalize wdErr l home d = E at *
  generalize within tick 0 1073741823 = T at *
  generalize stErr ⟨x, y, u, v⟩ = S at *
  generalize stErr ⟨x', y', u', v'⟩ = N at *
  generalize followsB l home d tick ⟨x, y, u, v⟩ ⟨x', y', u', v'⟩ = F at *
  obtain ⟨⟨ll, lh⟩, ⟨hl', hh⟩, g⟩ := d
  dsimp only at HW HF ⊢
  clear hl hd
  go_enter Tryz.func18, Tryz.ntmps18
  go_wp2_with fail
  refine (HW.out _ ext_by).mono ?_
  rintro e w1 ⟨rfl, h1⟩
  have W5 : Blk w1 (w.heap.size) 24 #[.slice A n c, .int .i64 home] := ((((Blk.newAt (by simp)).alloc _).alloc _).alloc _).ext h1
  have W6 : Blk w1 (w.heap.size + 1) 28 #[.int .i64 ll, .int .i64 lh, .int .i64 hl', .int .i64 hh, .int .i64 g] := (((Blk.newAt (by simp)).alloc _).alloc _).ext h1
  have F7 : Blk w1 (w.heap.size + 1 + 1) 30 #[.int .i64 x, .int .i64 y, .int .i64 u, .int .i64 v] := ((Blk.newAt (by simp)).alloc _).ext h1
  have F8 : Blk w1 (w.heap.size + 1 + 1 + 1) 30 #[.int .i64 x', .int .i64 y', .int .i64 u', .int .i64 v'] := (Blk.newAt (by simp)).ext h1
  have FE : Ext w w1 := ext_by
  clear h1
  have c_W5 := W5.cell; have f_W5 := W5.frozen; have l_W5 := W5.lt; have c_W6 := W6.cell; have f_W6 := W6.frozen; have l_W6 := W6.lt; have c_F7 := F7.cell; have f_F7 := F7.frozen; have l_F7 := F7.lt; have c_F8 := F8.cell; have f_F8 := F8.frozen; have l_F8 := F8.lt
  by_cases hE : E = 0
  · subst hE
    go_wp2_with fail
    refine (HT.out _).mono ?_
    rintro e w2 ⟨rfl, h2⟩
    have A2 := W5.ext h2
    have B2 := W6.ext h2
    have C2 := F7.ext h2
    have D2 := F8.ext h2
    have E2 := FE.trans h2
    clear c_W5 f_W5 l_W5 c_W6 f_W6 l_W6 c_F7 f_F7 l_F7 c_F8 f_F8 l_F8
    clear h2 W5 W6 F7 F8 FE
    have c_A2 := A2.cell; have f_A2 := A2.frozen; have l_A2 := A2.lt; have c_B2 := B2.cell; have f_B2 := B2.frozen; have l_B2 := B2.lt; have c_C2 := C2.cell; have f_C2 := C2.frozen; have l_C2 := C2.lt; have c_D2 := D2.cell; have f_D2 := D2.frozen; have l_D2 := D2.lt
    cases T
    · go_wp2_with fail
      go_ret
      exact ⟨ret_b (by simp []), E2⟩
    · go_wp2_with fail
      refine (HS.out _).mono ?_
      rintro e w3 ⟨rfl, h3⟩
      have A3 := A2.ext h3
      have B3 := B2.ext h3
      have C3 := C2.ext h3
      have D3 := D2.ext h3
      have E3 := E2.trans h3
      clear c_A2 f_A2 l_A2 c_B2 f_B2 l_B2 c_C2 f_C2 l_C2 c_D2 f_D2 l_D2
      clear h3 A2 B2 C2 D2 E2
      have c_A3 := A3.cell; have f_A3 := A3.frozen; have l_A3 := A3.lt; have c_B3 := B3.cell; have f_B3 := B3.frozen; have l_B3 := B3.lt; have c_C3 := C3.cell; have f_C3 := C3.frozen; have l_C3 := C3.lt; have c_D3 := D3.cell; have f_D3 := D3.frozen; have l_D3 := D3.lt
      by_cases hS : S = 0
      · subst hS
        go_wp2_with fail
        refine (HN.out _).mono ?_
        rintro e w4 ⟨rfl, h4⟩
        have A4 := A3.ext h4
        have B4 := B3.ext h4
        have C4 := C3.ext h4
        have D4 := D3.ext h4
        have E4 := E3.trans h4
        clear c_A3 f_A3 l_A3 c_B3 f_B3 l_B3 c_C3 f_C3 l_C3 c_D3 f_D3 l_D3
        clear h4 A3 B3 C3 D3 E3
        have c_A4 := A4.cell; have f_A4 := A4.frozen; have l_A4 := A4.lt; have c_B4 := B4.cell; have f_B4 := B4.frozen; have l_B4 := B4.lt; have c_C4 := C4.cell; have f_C4 := C4.frozen; have l_C4 := C4.lt; have c_D4 := D4.cell; have f_D4 := D4.frozen; have l_D4 := D4.lt
        by_cases hN : N = 0
        · subst hN
          go_wp2_with fail
          refine (HF.out (by first | trivial | rfl) (by first | trivial | rfl) _ E4).mono ?_
          rintro e w5 ⟨rfl, h5⟩
          have E5 := E4.trans h5
          go_wp2_with fail
          go_ret
          exact ⟨ret_b (by simp), E5⟩
        · go_wp2_with fail
          go_ret
          exact ⟨ret_b (by simp), E4⟩
      · go_wp2_with fail
        go_ret
        exact ⟨ret_b (by simp), E3⟩
  · go_wp2_with fail
    go_ret
    exact ⟨ret_b (by simp [hE]), FE⟩
end Go.Proofs.YtfniicgoeljmdaaGreat

namespace Go.Proofs.YtfniicgoeljmdaaGreat
open Go.RowKit

theorem gas_c (w : World) :
    Calls Tryz.prog 59 #[] w fun e w' => e = .returned (.agg #[.int .i64 0, .int .i64 0, .int .i64 0, .int .i64 0, .int .i64 1]) ∧ Ext w w' := by
  go_enter Tryz.func59, Tryz.ntmps59
  go_wp2_with fail
  (try simp only [Exit.inBlock, Exit.then]); apply bodyPost_ret; (focus (simp only [results, Tryz.results59]; go_simp; try rfl)); rfl
  exact ⟨rfl, ext_by⟩
theorem shown4_c (w : World) :
    Calls Tryz.prog 60 #[] w fun e w' => e = .returned (.agg #[.int .i64 0, .int .i64 10, .int .i64 0, .int .i64 3, .int .i64 5, .int .i64 5, .int .i64 (-2), .int .i64 0]) ∧ Ext w w' := by
  go_enter Tryz.func60, Tryz.ntmps60
  go_wp2_with fail
  (try simp only [Exit.inBlock, Exit.then]); apply bodyPost_ret; (focus (simp only [results, Tryz.results60]; go_simp; try rfl)); rfl
  exact ⟨rfl, ext_by⟩
def stillL : List Body := [⟨0, 0, [⟨0, 0⟩]⟩]
theorem one4 {α : Type} {a : α} {P : α → Nat → Prop} (h0 : P a 0) : ∀ k (h : k < [a].length), P ([a][k]) k
  | 0, _ => h0
theorem still_bodies {w : World} {b1 b3 : Nat} {t1 t3 : TypeId} (h1 : Blk w b1 t1 #[.int .i64 0, .int .i64 0]) (h3 : Blk w b3 t3 #[.int .i64 0, .int .i64 0, .slice (some ⟨b1, 0, none⟩) 1 1]) :
    Bodies w (some ⟨b3, 0, none⟩) 1 stillL :=
  ⟨rfl, by decide, .inr ⟨b3, 0, rfl, one4 (P := fun x k => bodyAt w x b3 (0 + k * 3)) ⟨h3.cell 0, h3.cell 1, _, _, _, h3.cell 2, ⟨rfl, by decide, .inr ⟨b1, 0, rfl, one4 (P := fun x k => vecAt w x b1 (0 + k * 2)) ⟨h1.cell 0, h1.cell 1⟩⟩⟩⟩⟩⟩
set_option maxHeartbeats 1000000 in
theorem still_c (w : World) :
    Calls Tryz.prog 58 #[] w fun e w' => (∃ A c, e = .returned (.agg #[.slice A 1 c, .int .i64 0]) ∧ Bodies w' A 1 stillL) ∧ Ext w w' := by
  go_enter Tryz.func58, Tryz.ntmps58
  go_wp2_with fail
  (try simp only [Exit.inBlock, Exit.then]); apply bodyPost_ret; (focus (simp only [results, Tryz.results58]; go_simp; try rfl)); rfl
  refine ⟨⟨_, _, rfl, still_bodies (t1 := 85) (t3 := 97) (b1 := w.heap.size + 1) (b3 := w.heap.size + 1 + 1) ?_ ?_⟩, ext_by⟩
  · exact (Blk.newAt (by simp)).alloc _
  · exact Blk.newAt (by simp)
theorem still_step : stepM stillL 0 ⟨⟨0, 0⟩, ⟨0, 0⟩, 1⟩ 0 ⟨⟨0, 10⟩, ⟨0, 3⟩, ⟨5, 5⟩, ⟨-2, 0⟩⟩ = ⟨⟨⟨4, 16⟩, ⟨-3, 4⟩, ⟨4, 6⟩, ⟨-3, 1⟩⟩, 0⟩ := by kernel_rfl
theorem still_possible : possibleB stillL 0 ⟨⟨0, 0⟩, ⟨0, 0⟩, 1⟩ 0 ⟨0, 0, 5, 0⟩ ⟨6, -1, 6, -1⟩ = true := by decide +kernel
set_option maxRecDepth 20000 in
set_option maxHeartbeats 2000000 in
theorem awake4_c (w : World) : Calls Tryz.prog 17 #[] w fun e w' => e = .returned (.bool true) ∧ Ext w w' := by
  go_enter Tryz.func17, Tryz.ntmps17
  go_wp2_with fail
  refine (still_c _).mono ?_
  rintro e w1 ⟨⟨A1, c1, rfl, hs1⟩, h1⟩
  go_wp2_with fail
  refine (gas_c _).mono ?_
  rintro e w2 ⟨rfl, h2⟩
  go_wp2_with fail
  refine (shown4_c _).mono ?_
  rintro e w3 ⟨rfl, h3⟩
  go_wp2_with fail
  refine (oStep_c _ _ _ _ _ _ stillL ⟨⟨0, 0⟩, ⟨0, 0⟩, 1⟩ ⟨⟨0, 10⟩, ⟨0, 3⟩, ⟨5, 5⟩, ⟨-2, 0⟩⟩ (Bodies.ext ext_by hs1)).mono ?_
  rw [still_step]
  rintro e w4 ⟨rfl, h4⟩
  go_wp2_with fail
  refine (still_c _).mono ?_
  rintro e w5 ⟨⟨A2, c2, rfl, hs5⟩, h5⟩
  go_wp2_with fail
  refine (gas_c _).mono ?_
  rintro e w6 ⟨rfl, h6⟩
  go_wp2_with fail
  refine (oPossible_c _ _ _ _ stillL ⟨⟨0, 0⟩, ⟨0, 0⟩, 1⟩ 0 0 0 5 0 6 (-1) 6 (-1) _ (Bodies.ext ext_by hs5)).mono ?_
  rw [still_possible]
  rintro e w7 ⟨rfl, h7⟩
  go_wp2_with fail
  go_ret
  exact ⟨rfl, ext_by⟩
end Go.Proofs.YtfniicgoeljmdaaGreat
