/- The aim of a passage: the program. No condition. -/
import Derived.Test.YtiladlangkjoiaaGreatMeetMay
import Derived.Test.YtiladlangkjoiaaGreatForceOps
namespace Go.Proofs.YtiladlangkjoiaaGreat
open Go.RowKit

theorem mulM_ok {n m : Int} {a b : Sp} (ha : Sm n a) (hb : Sm m b) (hm0 : 0 ≤ m) (hnm : n * m ≤ 1152921504606846976) (hn : n ≤ 1152921504606846976) (hm : m ≤ 1152921504606846976) : mulM a b = ⟨mulS a b, 0⟩ := by
  have he : (mulM a b).e = 0 := by
    unfold mulM combM
    rw [if_pos (ha.err2 hb hn hm), joinAll_all]
    obtain ⟨a1, a2, a3⟩ := ha
    obtain ⟨b1, b2, b3⟩ := hb
    intro q hq
    obtain ⟨p, hp, rfl⟩ := List.mem_map.1 hq
    simp only [pairsL, List.mem_cons, List.not_mem_nil, or_false] at hp
    rcases hp with rfl | rfl | rfl | rfl
    all_goals dsimp only; rw [mulF_in hm0 ⟨by omega, by omega⟩ ⟨by omega, by omega⟩ hnm]
  unfold mulS
  generalize mulM a b = R at *
  obtain ⟨s, e⟩ := R
  dsimp only at he ⊢
  rw [he]
theorem subM_ok {n m : Int} {a b : Sp} (ha : Sm n a) (hb : Sm m b) (hn : 0 ≤ n) (hm : 0 ≤ m) (hnm : n + m ≤ 1152921504606846976) : subM a b = ⟨subS a b, 0⟩ := by
  unfold subS
  rw [subM_small ha hb hn hm hnm]
theorem addM_ok {n m : Int} {a b : Sp} (ha : Sm n a) (hb : Sm m b) (hn : 0 ≤ n) (hm : 0 ≤ m) (hnm : n + m ≤ 1152921504606846976) : addM a b = ⟨addS a b, 0⟩ := by
  unfold addS
  rw [addM_small ha hb hn hm hnm]
theorem quotM_ok {n m : Int} {a b : Sp} (ha : Sm n a) (hb : Sm m b) (hn : n ≤ 1152921504606846976) (hm : m ≤ 1152921504606846976) (h0 : 0 < b.lo) : quotM a b = ⟨quotS a b, 0⟩ := by
  have he : (quotM a b).e = 0 := by
    unfold quotM combM
    have hx := ha.err2 hb hn hm
    obtain ⟨a1, a2, a3⟩ := ha
    obtain ⟨b1, b2, b3⟩ := hb
    rw [if_pos hx, if_neg (by simp only [within, Bool.and_eq_true, decide_eq_true_eq]; omega), if_pos hx, joinAll_all]
    intro q hq
    obtain ⟨p, hp, rfl⟩ := List.mem_map.1 hq
    simp only [pairsL, List.mem_cons, List.not_mem_nil, or_false] at hp
    rcases hp with rfl | rfl | rfl | rfl
    all_goals dsimp only; rw [quotF_pos (by omega) (by omega) (by omega)]
  unfold quotS
  generalize quotM a b = R at *
  obtain ⟨s, e⟩ := R
  dsimp only at he ⊢
  rw [he]
theorem squareM_ok {n : Int} {a : Sp} (ha : Sm n a) (hn : n ≤ 1073741824) : squareM a = ⟨squareS a, 0⟩ := by
  have he : (squareM a).e = 0 := by
    obtain ⟨a1, a2, a3⟩ := ha
    unfold squareM
    have h1 : spErr a = 0 := spErr_ok.2 (by omega)
    have h2 : 0 ≤ highM a ∧ highM a ≤ 1073741824 ∧ 0 ≤ lowM a ∧ lowM a ≤ 1073741824 := by unfold highM lowM; omega
    have h3 : highM a * highM a ≤ 1073741824 * 1073741824 := Int.mul_le_mul h2.2.1 h2.2.1 h2.1 (by omega)
    have h4 : lowM a * lowM a ≤ 1073741824 * 1073741824 := Int.mul_le_mul h2.2.2.2 h2.2.2.2 h2.2.2.1 (by omega)
    have h5 : 0 ≤ highM a * highM a := Int.mul_nonneg h2.1 h2.1
    have h6 : 0 ≤ lowM a * lowM a := Int.mul_nonneg h2.2.2.1 h2.2.2.1
    rw [if_pos h1, if_neg (by omega)]
    generalize highM a * highM a = x at *
    generalize lowM a * lowM a = y at *
    unfold endsM
    rw [if_pos]
    simp only [fitsP, within, Bool.and_eq_true, decide_eq_true_eq]
    omega
  unfold squareS
  generalize squareM a = R at *
  obtain ⟨s, e⟩ := R
  dsimp only at he ⊢
  rw [he]
theorem rootsM_ok {q : Sp} (h : spErr q = 0) (h0 : 0 ≤ q.lo) : rootsM q = ⟨rM q, 0⟩ := by
  unfold rM rootsM
  rw [if_pos h, if_neg (by omega)]
theorem rootsM_ok' {q : Sp} (h0 : 0 ≤ q.lo) (h1 : q.lo ≤ q.hi) (h2 : q.hi ≤ 1152921504606846976) : rootsM q = ⟨⟨rootI q.lo, upM q.hi⟩, 0⟩ := by
  unfold rootsM
  rw [if_pos (spErr_ok.2 (by omega)), if_neg (by omega)]
theorem setCell_same {w : World} {g : Nat} {t : TypeId} {v : Value} (h : Blk w g t #[v]) : w.setCell ⟨g, 0, none⟩ v = w := by
  unfold World.setCell
  have hw : ∀ f : Obj → Obj, f (.cells #[v] t (0, 0)) = .cells #[v] t (0, 0) → w.heap.modify g f = w.heap := by
    intro f hf
    apply Array.ext_getElem?
    intro i
    rw [Array.getElem?_modify]
    by_cases e : g = i
    · subst e
      rw [if_pos rfl]
      unfold Blk at h
      rw [h]
      exact congrArg some hf
    · rw [if_neg e]
  dsimp only
  rw [hw _ (by simp)]
set_option maxRecDepth 20000 in
set_option maxHeartbeats 1000000 in
theorem mTake_c (g : Nat) (lo hi : Int) (w : World) (h : Blk w g 198 #[.bool false]) :
    Calls Tryz.prog 163 #[.pointer (some ⟨g, 0, none⟩), .agg #[.int .i64 lo, .int .i64 hi], .int .i64 0] w fun e w' => e = .returned (.agg #[.int .i64 lo, .int .i64 hi]) ∧ Ext w w' := by
  have hg := h.lt
  go_enter Tryz.func163, Tryz.ntmps163
  have n1 : g ≠ w.heap.size := by omega
  have n2 : g ≠ w.heap.size + 1 := by omega
  have c_h := h.cell; have f_h := h.frozen; have l_h := h.lt
  go_wp2_with fail
  rw [setCell_same h]
  (try simp only [Exit.inBlock, Exit.then]); apply bodyPost_ret; (focus (simp only [results, Tryz.results163]; go_simp; try rfl)); rfl
  exact ⟨rfl, (Ext.alloc0 _ _).alloc _⟩
set_option maxRecDepth 20000 in
set_option maxHeartbeats 16000000 in
theorem mAim_c (a b : Ar) (w : World) (ha : SmA 67108864 a) (hb : SmA 67108864 b) :
    Calls Tryz.prog 81 #[.agg #[.int .i64 a.x.lo, .int .i64 a.x.hi, .int .i64 a.y.lo, .int .i64 a.y.hi], .agg #[.int .i64 b.x.lo, .int .i64 b.x.hi, .int .i64 b.y.lo, .int .i64 b.y.hi]] w fun e w' => e = .returned (.tuple #[.agg #[.int .i64 ((aimM a b).getD ⟨0, 0⟩).lo, .int .i64 ((aimM a b).getD ⟨0, 0⟩).hi], .bool (aimM a b).isSome]) ∧ Ext w w' := by
  have hcA : Hid (∀ W, Calls Tryz.prog 162 #[.agg #[.int .i64 a.x.lo, .int .i64 a.x.hi, .int .i64 a.y.lo, .int .i64 a.y.hi]] W fun e w' => e = .returned (.int .i64 0) ∧ Ext W w') := fun W => by have := spCheckArea_c a.x.lo a.x.hi a.y.lo a.y.hi W; rwa [show areaErr ⟨⟨a.x.lo, a.x.hi⟩, ⟨a.y.lo, a.y.hi⟩⟩ = 0 from area_ok ha] at this
  have hcB : Hid (∀ W, Calls Tryz.prog 162 #[.agg #[.int .i64 b.x.lo, .int .i64 b.x.hi, .int .i64 b.y.lo, .int .i64 b.y.hi]] W fun e w' => e = .returned (.int .i64 0) ∧ Ext W w') := fun W => by have := spCheckArea_c b.x.lo b.x.hi b.y.lo b.y.hi W; rwa [show areaErr ⟨⟨b.x.lo, b.x.hi⟩, ⟨b.y.lo, b.y.hi⟩⟩ = 0 from area_ok hb] at this
  obtain ⟨⟨x1, y1⟩, q3, q4, q5, q6, c1⟩ := aim_parts ha hb
  dsimp only at x1 y1
  have m1 := mulS_in ha.1 hb.2 (by omega) (by omega) (by omega) (by omega)
  have m2 := mulS_in ha.2 hb.1 (by omega) (by omega) (by omega) (by omega)
  have sx := square_in x1 (by omega) (by omega)
  have sy := square_in y1 (by omega) (by omega)
  have hT4 : ∀ (s t : Sp) W, (s = b.x ∧ t = a.x) ∨ (s = b.y ∧ t = a.y) → Calls Tryz.prog 164 #[.agg #[.int .i64 s.lo, .int .i64 s.hi], .agg #[.int .i64 t.lo, .int .i64 t.hi]] W fun e w' => e = .returned (.tuple #[.agg #[.int .i64 (subS s t).lo, .int .i64 (subS s t).hi], .int .i64 0]) ∧ Ext W w' := by
    intro s t W h
    have h1 := Sub_c s.lo s.hi t.lo t.hi W
    rcases h with ⟨rfl, rfl⟩ | ⟨rfl, rfl⟩
    · rw [show subM ⟨b.x.lo, b.x.hi⟩ ⟨a.x.lo, a.x.hi⟩ = ⟨subS b.x a.x, 0⟩ from subM_ok hb.1 ha.1 (by omega) (by omega) (by omega)] at h1; exact h1
    · rw [show subM ⟨b.y.lo, b.y.hi⟩ ⟨a.y.lo, a.y.hi⟩ = ⟨subS b.y a.y, 0⟩ from subM_ok hb.2 ha.2 (by omega) (by omega) (by omega)] at h1; exact h1
  have hT5 : ∀ (s : Sp) W, (s = subS b.x a.x) ∨ (s = subS b.y a.y) → Calls Tryz.prog 167 #[.agg #[.int .i64 s.lo, .int .i64 s.hi]] W fun e w' => e = .returned (.tuple #[.agg #[.int .i64 (squareS s).lo, .int .i64 (squareS s).hi], .int .i64 0]) ∧ Ext W w' := by
    intro s W h
    have h1 := spSquare_c s.lo s.hi W
    rcases h with rfl | rfl
    · rw [show squareM ⟨(subS b.x a.x).lo, (subS b.x a.x).hi⟩ = ⟨squareS (subS b.x a.x), 0⟩ from squareM_ok x1 (by omega)] at h1; exact h1
    · rw [show squareM ⟨(subS b.y a.y).lo, (subS b.y a.y).hi⟩ = ⟨squareS (subS b.y a.y), 0⟩ from squareM_ok y1 (by omega)] at h1; exact h1
  have hTA : ∀ W, Calls Tryz.prog 166 #[.agg #[.int .i64 (squareS (subS b.x a.x)).lo, .int .i64 (squareS (subS b.x a.x)).hi], .agg #[.int .i64 (squareS (subS b.y a.y)).lo, .int .i64 (squareS (subS b.y a.y)).hi]] W fun e w' => e = .returned (.tuple #[.agg #[.int .i64 (aimQ a b).lo, .int .i64 (aimQ a b).hi], .int .i64 0]) ∧ Ext W w' := by
    intro W
    have h1 := Add_c (squareS (subS b.x a.x)).lo (squareS (subS b.x a.x)).hi (squareS (subS b.y a.y)).lo (squareS (subS b.y a.y)).hi W
    rw [show addM ⟨(squareS (subS b.x a.x)).lo, (squareS (subS b.x a.x)).hi⟩ ⟨(squareS (subS b.y a.y)).lo, (squareS (subS b.y a.y)).hi⟩ = ⟨addS (squareS (subS b.x a.x)) (squareS (subS b.y a.y)), 0⟩ from addM_ok sx.2 sy.2 (by omega) (by omega) (by omega)] at h1
    exact h1
  have hTR : ∀ W, Calls Tryz.prog 165 #[.agg #[.int .i64 (aimQ a b).lo, .int .i64 (aimQ a b).hi]] W fun e w' => e = .returned (.tuple #[.agg #[.int .i64 (rM (aimQ a b)).lo, .int .i64 (rM (aimQ a b)).hi], .int .i64 0]) ∧ Ext W w' := by
    intro W
    have h1 := spRoots_c (aimQ a b).lo (aimQ a b).hi W
    rw [show rootsM ⟨(aimQ a b).lo, (aimQ a b).hi⟩ = ⟨rM (aimQ a b), 0⟩ from rootsM_ok (spErr_ok.2 (by dsimp only; omega)) q3] at h1
    exact h1
  have hTM : ∀ (s t : Sp) W, (s = a.x ∧ t = b.y) ∨ (s = a.y ∧ t = b.x) → Calls Tryz.prog 168 #[.agg #[.int .i64 s.lo, .int .i64 s.hi], .agg #[.int .i64 t.lo, .int .i64 t.hi]] W fun e w' => e = .returned (.tuple #[.agg #[.int .i64 (mulS s t).lo, .int .i64 (mulS s t).hi], .int .i64 0]) ∧ Ext W w' := by
    intro s t W h
    have h1 := spMul_c s.lo s.hi t.lo t.hi W
    rcases h with ⟨rfl, rfl⟩ | ⟨rfl, rfl⟩
    · rw [show mulM ⟨a.x.lo, a.x.hi⟩ ⟨b.y.lo, b.y.hi⟩ = ⟨mulS a.x b.y, 0⟩ from mulM_ok ha.1 hb.2 (by omega) (by omega) (by omega) (by omega)] at h1; exact h1
    · rw [show mulM ⟨a.y.lo, a.y.hi⟩ ⟨b.x.lo, b.x.hi⟩ = ⟨mulS a.y b.x, 0⟩ from mulM_ok ha.2 hb.1 (by omega) (by omega) (by omega) (by omega)] at h1; exact h1
  have hTC : ∀ W, Calls Tryz.prog 164 #[.agg #[.int .i64 (mulS a.x b.y).lo, .int .i64 (mulS a.x b.y).hi], .agg #[.int .i64 (mulS a.y b.x).lo, .int .i64 (mulS a.y b.x).hi]] W fun e w' => e = .returned (.tuple #[.agg #[.int .i64 (aimC a b).lo, .int .i64 (aimC a b).hi], .int .i64 0]) ∧ Ext W w' := by
    intro W
    have h1 := Sub_c (mulS a.x b.y).lo (mulS a.x b.y).hi (mulS a.y b.x).lo (mulS a.y b.x).hi W
    rw [show subM ⟨(mulS a.x b.y).lo, (mulS a.x b.y).hi⟩ ⟨(mulS a.y b.x).lo, (mulS a.y b.x).hi⟩ = ⟨subS (mulS a.x b.y) (mulS a.y b.x), 0⟩ from subM_ok m1 m2 (by omega) (by omega) (by omega)] at h1
    exact h1
  have hTQ : ∀ W, (rM (aimQ a b)).lo ≠ 0 → Calls Tryz.prog 169 #[.agg #[.int .i64 (aimC a b).lo, .int .i64 (aimC a b).hi], .agg #[.int .i64 (rM (aimQ a b)).lo, .int .i64 (rM (aimQ a b)).hi]] W fun e w' => e = .returned (.tuple #[.agg #[.int .i64 (quotS (aimC a b) (rM (aimQ a b))).lo, .int .i64 (quotS (aimC a b) (rM (aimQ a b))).hi], .int .i64 0]) ∧ Ext W w' := by
    intro W hz
    have h1 := spQuot_c (aimC a b).lo (aimC a b).hi (rM (aimQ a b)).lo (rM (aimQ a b)).hi W
    have hq : 1 ≤ (aimQ a b).lo := by
      rcases Int.lt_or_le 0 (aimQ a b).lo with h | h
      · omega
      · have h0 : (aimQ a b).lo = 0 := by omega
        exfalso; apply hz
        unfold rM
        rw [rootsM_ok' (by omega) q4 (by omega)]
        dsimp only
        rw [h0]
        decide
    have r := rM_sm hq q4 (by omega)
    rw [show quotM ⟨(aimC a b).lo, (aimC a b).hi⟩ ⟨(rM (aimQ a b)).lo, (rM (aimQ a b)).hi⟩ = ⟨quotS (aimC a b) (rM (aimQ a b)), 0⟩ from quotM_ok c1 r.2 (by omega) (by omega) (by dsimp only; omega)] at h1
    exact h1
  have hT : (if (rM (aimQ a b)).lo = 0 then none else some (quotS (aimC a b) (rM (aimQ a b)))) = aimM a b := by
    unfold aimM
    rw [if_pos (And.intro (area_ok ha) (area_ok hb))]
  have H4 := Lib.hid hT4
  have H5 := Lib.hid hT5
  have HA := Lib.hid hTA
  have HR := Lib.hid hTR
  have HM := Lib.hid hTM
  have HC := Lib.hid hTC
  have HQ := Lib.hid hTQ
  have HT := Lib.hid hT
  clear hT4 hT5 hTA hTR hTM hTC hTQ hT q3 q4 q5 q6 c1 x1 y1 m1 m2 sx sy ha hb
  have HK := Lib.hid fun g lo hi W h => mTake_c g lo hi W h
  generalize aimM a b = T at *
  generalize rM (aimQ a b) = R at *
  generalize aimC a b = C at *
  generalize aimQ a b = Q at *
  generalize quotS C R = D at *
  generalize @subS = FS at *
  generalize @squareS = FQ at *
  generalize @mulS = FM at *
  go_enter Tryz.func81, Tryz.ntmps81
  go_wp2_with fail
  refine (hcA.out _).mono ?_
  rintro e w1 ⟨rfl, h1⟩
  have B2 : Blk w1 w.heap.size 32 #[.int .i64 a.x.lo, .int .i64 a.x.hi, .int .i64 a.y.lo, .int .i64 a.y.hi] := (((Blk.newAt rfl).alloc _).alloc _).ext h1
  have B3 : Blk w1 (w.heap.size + 1) 32 #[.int .i64 b.x.lo, .int .i64 b.x.hi, .int .i64 b.y.lo, .int .i64 b.y.hi] := ((Blk.newAt (by simp)).alloc _).ext h1
  have B4 : Blk w1 (w.heap.size + 1 + 1) 26 #[.int .i64 0, .int .i64 0] := (Blk.newAt (by simp)).ext h1
  have E : Ext w w1 := (((Ext.alloc0 _ _).alloc _).alloc _).trans h1
  clear h1 hcA
  have c_B2 := B2.cell; have f_B2 := B2.frozen; have l_B2 := B2.lt; have c_B3 := B3.cell; have f_B3 := B3.frozen; have l_B3 := B3.lt; have c_B4 := B4.cell; have f_B4 := B4.frozen; have l_B4 := B4.lt
  go_wp2_with fail
  refine (hcB.out _).mono ?_
  rintro e w2 ⟨rfl, h2⟩
  clear c_B2 f_B2 l_B2 c_B3 f_B3 l_B3 c_B4 f_B4 l_B4
  replace B2 := B2.ext h2; replace B3 := B3.ext h2; replace B4 := B4.ext h2; have c_B2 := B2.cell; have f_B2 := B2.frozen; have l_B2 := B2.lt; have c_B3 := B3.cell; have f_B3 := B3.frozen; have l_B3 := B3.lt; have c_B4 := B4.cell; have f_B4 := B4.frozen; have l_B4 := B4.lt
  replace E := E.trans h2
  clear h2 hcB
  go_wp2_with fail
  refine name_world _ ?_
  intro w3 hw3
  obtain ⟨g, hg⟩ : ∃ g, g = w2.heap.size := ⟨_, rfl⟩
  rw [← hg]
  clear c_B2 f_B2 l_B2 c_B3 f_B3 l_B3 c_B4 f_B4 l_B4
  have B6 : Blk w3 g 198 #[.bool false] := by rw [hw3, hg]; exact Blk.newAt rfl
  have z0 := E.size
  have zg : w.heap.size ≤ g := by omega
  have X : ∀ {g t cs}, Blk w2 g t cs → Blk w3 g t cs := fun h => by rw [hw3]; exact h.alloc _
  have E3 : Ext w w3 := by rw [hw3]; exact E.alloc _
  have n4g : w.heap.size + 1 + 1 ≠ g := by have := B4.lt; omega
  replace B2 := X B2
  replace B3 := X B3
  replace B4 := X B4
  clear hw3 hg z0 X E
  have c_B2 := B2.cell; have f_B2 := B2.frozen; have l_B2 := B2.lt; have c_B3 := B3.cell; have f_B3 := B3.frozen; have l_B3 := B3.lt
  refine wp_region_freeT 18 [(16, 26, #[.int .i64 0, .int .i64 0]), (17, 26, #[.int .i64 0, .int .i64 0])] (by kernel_rfl) (by kernel_rfl) (by intro q hq; simp only [List.mem_cons, List.not_mem_nil, or_false] at hq; rcases hq with rfl | rfl <;> exact ⟨rfl, fun a w => by show (execOp a.eval (opAt _ _)).run _ w = _; simp only [opAt]; go_simp⟩) ?_
  simp only [List.take_succ_cons, List.take_zero, List.drop_succ_cons, List.drop_zero]
  (repeat' (first | (refine fb_off (by rfl) (by rfl) ?_; simp only [putX]) | (apply fb_op; rfl; rfl; (intro w1 h1; obtain ⟨hc, hf, hz⟩ := bcell h1; go_simp; (try go_bits); (first | exact ⟨rfl, Ext.refl _⟩ | (apply gives_call; first | (go_at_call 164; exact H4.out _ _ _ (by first | exact .inl ⟨rfl, rfl⟩ | exact .inr ⟨rfl, rfl⟩)) | (go_at_call 163; exact HK.out _ _ _ _ (B6.ext h1))) | (go_invoke; go_simp; apply gives_call; first | (go_at_call 164; exact H4.out _ _ _ (by first | exact .inl ⟨rfl, rfl⟩ | exact .inr ⟨rfl, rfl⟩)) | (go_at_call 163; exact HK.out _ _ _ _ (B6.ext h1))))); simp only [putX]) | (apply fb_slice; rfl; rfl; (intro w1 h1; obtain ⟨hc, hf, hz⟩ := bcell h1; go_simp; first | rfl | exact ⟨⟨rfl, rfl⟩, rfl⟩)) | (apply fb_alloc; rfl; rfl; (intro w1 h1; go_simp; first | rfl | exact ⟨rfl, rfl⟩)) | (apply fb_use; rfl; (intro u; rfl); (rintro u w1 h1 ⟨b, rfl, hB⟩; obtain ⟨hc, hf, hz⟩ := bcell h1; go_simp; (first | exact ⟨rfl, Ext.refl _⟩)); simp only [putX]) | (refine fb_split rfl rfl (fun hx => ?_) (fun hx => ?_) <;> simp only [hx])))
  refine fb_nil ⟨(by intro q hq; simp only [List.mem_cons, List.not_mem_nil, or_false] at hq; rcases hq with rfl | rfl; exact ⟨some 7, by simp⟩; exact ⟨some 8, by simp⟩), ?_⟩
  intro val w4 h4 hg hne
  obtain ⟨b7, e_b7, n_b7, B_b7⟩ := hg (16, some 7, PtrIs w3.heap.size 26 #[.int .i64 0, .int .i64 0]) (by simp)
  obtain ⟨b8, e_b8, n_b8, B_b8⟩ := hg (17, some 8, PtrIs w3.heap.size 26 #[.int .i64 0, .int .i64 0]) (by simp)
  have ne_b8_b7 : b8 ≠ b7 := (by have h9 := hne (17, 26, #[.int .i64 0, .int .i64 0]) (by simp) (16, 26, #[.int .i64 0, .int .i64 0]) (by simp) (by decide); dsimp only at h9; rw [e_b8, e_b7] at h9; exact fun e9 => h9 (by rw [e9]))
  (simp only [putV, Act.put, List.setIfInBounds_toArray, List.set_cons_zero, List.set_cons_succ, e_b7, e_b8])
  clear hg hne e_b7 e_b8
  have m7 : w.heap.size ≤ b7 := by have := E3.size; omega
  have m8 : w.heap.size ≤ b8 := by have := E3.size; omega
  have u2 : w.heap.size ≠ b7 ∧ w.heap.size ≠ b8 := by have := B2.lt; omega
  have u3 : w.heap.size + 1 ≠ b7 ∧ w.heap.size + 1 ≠ b8 := by have := B3.lt; omega
  have u4 : w.heap.size + 1 + 1 ≠ b7 ∧ w.heap.size + 1 + 1 ≠ b8 := by have := B4.lt; omega
  have u6 : g ≠ b7 ∧ g ≠ b8 := by have := B6.lt; omega
  clear c_B2 f_B2 l_B2 c_B3 f_B3 l_B3
  replace B2 := B2.ext h4
  replace B3 := B3.ext h4
  replace B4 := B4.ext h4
  replace B6 := B6.ext h4
  have E4 := E3.trans h4
  clear h4 E3 n_b7 n_b8 H4
  have c_B_b7 := B_b7.cell; have f_B_b7 := B_b7.frozen; have l_B_b7 := B_b7.lt; have c_B_b8 := B_b8.cell; have f_B_b8 := B_b8.frozen; have l_B_b8 := B_b8.lt
  go_wp2_with fail
  refine name_world _ ?_
  intro w5 hw5
  have C2 : Blk w5 w.heap.size 32 #[.int .i64 a.x.lo, .int .i64 a.x.hi, .int .i64 a.y.lo, .int .i64 a.y.hi] := by rw [hw5]; exact blk_far2 (blk_far2 B2 u2.1) u2.2
  have C3 : Blk w5 (w.heap.size + 1) 32 #[.int .i64 b.x.lo, .int .i64 b.x.hi, .int .i64 b.y.lo, .int .i64 b.y.hi] := by rw [hw5]; exact blk_far2 (blk_far2 B3 u3.1) u3.2
  have C4 : Blk w5 (w.heap.size + 1 + 1) 26 #[.int .i64 0, .int .i64 0] := by rw [hw5]; exact blk_far2 (blk_far2 B4 u4.1) u4.2
  have C6 : Blk w5 g 198 #[.bool false] := by rw [hw5]; exact blk_far2 (blk_far2 B6 u6.1) u6.2
  have C7 : Blk w5 b7 26 #[.int .i64 (FS b.x a.x).lo, .int .i64 (FS b.x a.x).hi] := by rw [hw5]; exact blk_far2 (blk_set2 B_b7 rfl) ne_b8_b7.symm
  have C8 : Blk w5 b8 26 #[.int .i64 (FS b.y a.y).lo, .int .i64 (FS b.y a.y).hi] := by rw [hw5]; exact blk_set2 (blk_far2 B_b8 ne_b8_b7) rfl
  have E5 : Ext w w5 := by rw [hw5]; exact ext_set2 (ext_set2 E4 m7) m8
  clear c_B_b7 f_B_b7 l_B_b7 c_B_b8 f_B_b8 l_B_b8
  clear hw5 B2 B3 B4 B6 B_b7 B_b8 E4 u2 u3 u4 u6 ne_b8_b7 m7 m8
  have c_C7 := C7.cell; have f_C7 := C7.frozen; have l_C7 := C7.lt; have c_C8 := C8.cell; have f_C8 := C8.frozen; have l_C8 := C8.lt
  refine wp_region_freeT 19 [(18, 26, #[.int .i64 0, .int .i64 0])] (by kernel_rfl) (by kernel_rfl) (by intro q hq; simp only [List.mem_cons, List.not_mem_nil, or_false] at hq; rcases hq with rfl <;> exact ⟨rfl, fun a w => by show (execOp a.eval (opAt _ _)).run _ w = _; simp only [opAt]; go_simp⟩) ?_
  simp only [List.take_succ_cons, List.take_zero, List.drop_succ_cons, List.drop_zero]
  (repeat' (first | (refine fb_off (by rfl) (by rfl) ?_; simp only [putX]) | (apply fb_op; rfl; rfl; (intro w1 h1; obtain ⟨hc, hf, hz⟩ := bcell h1; go_simp; (try go_bits); (first | exact ⟨rfl, Ext.refl _⟩ | (apply gives_call; first | (go_at_call 167; exact H5.out _ _ (by first | exact .inl rfl | exact .inr rfl)) | (go_at_call 163; exact HK.out _ _ _ _ (C6.ext h1)) | (go_at_call 166; exact HA.out _) | (go_at_call 165; exact HR.out _)) | (go_invoke; go_simp; apply gives_call; first | (go_at_call 167; exact H5.out _ _ (by first | exact .inl rfl | exact .inr rfl)) | (go_at_call 163; exact HK.out _ _ _ _ (C6.ext h1)) | (go_at_call 166; exact HA.out _) | (go_at_call 165; exact HR.out _)))); simp only [putX]) | (apply fb_slice; rfl; rfl; (intro w1 h1; obtain ⟨hc, hf, hz⟩ := bcell h1; go_simp; first | rfl | exact ⟨⟨rfl, rfl⟩, rfl⟩)) | (apply fb_alloc; rfl; rfl; (intro w1 h1; go_simp; first | rfl | exact ⟨rfl, rfl⟩)) | (apply fb_use; rfl; (intro u; rfl); (rintro u w1 h1 ⟨b, rfl, hB⟩; obtain ⟨hc, hf, hz⟩ := bcell h1; go_simp; (first | exact ⟨rfl, Ext.refl _⟩)); simp only [putX]) | (refine fb_split rfl rfl (fun hx => ?_) (fun hx => ?_) <;> simp only [hx])))
  refine fb_nil ⟨(by intro q hq; simp only [List.mem_cons, List.not_mem_nil, or_false] at hq; rcases hq with rfl; exact ⟨some 9, by simp⟩), ?_⟩
  intro val w6 h6 hg hne
  obtain ⟨b9, e_b9, n_b9, B_b9⟩ := hg (18, some 9, PtrIs w5.heap.size 26 #[.int .i64 0, .int .i64 0]) (by simp)
  (simp only [putV, Act.put, List.setIfInBounds_toArray, List.set_cons_zero, List.set_cons_succ, e_b9])
  clear hg hne e_b9
  have m9 : w.heap.size ≤ b9 := by have := E5.size; omega
  have u2 : w.heap.size ≠ b9 := by have := C2.lt; omega
  have u3 : w.heap.size + 1 ≠ b9 := by have := C3.lt; omega
  have u4 : w.heap.size + 1 + 1 ≠ b9 := by have := C4.lt; omega
  have u6 : g ≠ b9 := by have := C6.lt; omega
  clear c_C7 f_C7 l_C7 c_C8 f_C8 l_C8
  replace C2 := C2.ext h6
  replace C3 := C3.ext h6
  replace C4 := C4.ext h6
  replace C6 := C6.ext h6
  have E6 := E5.trans h6
  clear h6 E5 n_b9 H5 HA HR C7 C8
  have c_B_b9 := B_b9.cell; have f_B_b9 := B_b9.frozen; have l_B_b9 := B_b9.lt
  go_wp2_with fail
  refine name_world _ ?_
  intro w7 hw7
  have D2 : Blk w7 w.heap.size 32 #[.int .i64 a.x.lo, .int .i64 a.x.hi, .int .i64 a.y.lo, .int .i64 a.y.hi] := by rw [hw7]; exact blk_far2 C2 u2
  have D3 : Blk w7 (w.heap.size + 1) 32 #[.int .i64 b.x.lo, .int .i64 b.x.hi, .int .i64 b.y.lo, .int .i64 b.y.hi] := by rw [hw7]; exact blk_far2 C3 u3
  have D4 : Blk w7 (w.heap.size + 1 + 1) 26 #[.int .i64 0, .int .i64 0] := by rw [hw7]; exact blk_far2 C4 u4
  have D6 : Blk w7 g 198 #[.bool false] := by rw [hw7]; exact blk_far2 C6 u6
  have D9 : Blk w7 b9 26 #[.int .i64 R.lo, .int .i64 R.hi] := by rw [hw7]; exact blk_set2 B_b9 rfl
  have E7 : Ext w w7 := by rw [hw7]; exact ext_set2 E6 m9
  clear c_B_b9 f_B_b9 l_B_b9
  clear hw7 C2 C3 C4 C6 B_b9 E6 u2 u3 u4 u6 m9
  have c_D2 := D2.cell; have f_D2 := D2.frozen; have l_D2 := D2.lt; have c_D3 := D3.cell; have f_D3 := D3.frozen; have l_D3 := D3.lt
  refine wp_region_freeT 21 [(20, 26, #[.int .i64 0, .int .i64 0])] (by kernel_rfl) (by kernel_rfl) (by intro q hq; simp only [List.mem_cons, List.not_mem_nil, or_false] at hq; rcases hq with rfl <;> exact ⟨rfl, fun a w => by show (execOp a.eval (opAt _ _)).run _ w = _; simp only [opAt]; go_simp⟩) ?_
  simp only [List.take_succ_cons, List.take_zero, List.drop_succ_cons, List.drop_zero]
  (repeat' (first | (refine fb_off (by rfl) (by rfl) ?_; simp only [putX]) | (apply fb_op; rfl; rfl; (intro w1 h1; obtain ⟨hc, hf, hz⟩ := bcell h1; go_simp; (try go_bits); (first | exact ⟨rfl, Ext.refl _⟩ | (apply gives_call; first | (go_at_call 168; exact HM.out _ _ _ (by first | exact .inl ⟨rfl, rfl⟩ | exact .inr ⟨rfl, rfl⟩)) | (go_at_call 163; exact HK.out _ _ _ _ (D6.ext h1)) | (go_at_call 164; exact HC.out _)) | (go_invoke; go_simp; apply gives_call; first | (go_at_call 168; exact HM.out _ _ _ (by first | exact .inl ⟨rfl, rfl⟩ | exact .inr ⟨rfl, rfl⟩)) | (go_at_call 163; exact HK.out _ _ _ _ (D6.ext h1)) | (go_at_call 164; exact HC.out _)))); simp only [putX]) | (apply fb_slice; rfl; rfl; (intro w1 h1; obtain ⟨hc, hf, hz⟩ := bcell h1; go_simp; first | rfl | exact ⟨⟨rfl, rfl⟩, rfl⟩)) | (apply fb_alloc; rfl; rfl; (intro w1 h1; go_simp; first | rfl | exact ⟨rfl, rfl⟩)) | (apply fb_use; rfl; (intro u; rfl); (rintro u w1 h1 ⟨b, rfl, hB⟩; obtain ⟨hc, hf, hz⟩ := bcell h1; go_simp; (first | exact ⟨rfl, Ext.refl _⟩)); simp only [putX]) | (refine fb_split rfl rfl (fun hx => ?_) (fun hx => ?_) <;> simp only [hx])))
  refine fb_nil ⟨(by intro q hq; simp only [List.mem_cons, List.not_mem_nil, or_false] at hq; rcases hq with rfl; exact ⟨some 10, by simp⟩), ?_⟩
  intro val w8 h8 hg hne
  obtain ⟨b10, e_b10, n_b10, B_b10⟩ := hg (20, some 10, PtrIs w7.heap.size 26 #[.int .i64 0, .int .i64 0]) (by simp)
  (simp only [putV, Act.put, List.setIfInBounds_toArray, List.set_cons_zero, List.set_cons_succ, e_b10])
  clear hg hne e_b10
  have m10 : w.heap.size ≤ b10 := by have := E7.size; omega
  have u4 : w.heap.size + 1 + 1 ≠ b10 := by have := D4.lt; omega
  have u6 : g ≠ b10 := by have := D6.lt; omega
  have u9 : b9 ≠ b10 := by have := D9.lt; omega
  clear c_D2 f_D2 l_D2 c_D3 f_D3 l_D3
  replace D4 := D4.ext h8
  replace D6 := D6.ext h8
  replace D9 := D9.ext h8
  have E8 := E7.trans h8
  clear h8 E7 n_b10 HM HC D2 D3
  have c_B_b10 := B_b10.cell; have f_B_b10 := B_b10.frozen; have l_B_b10 := B_b10.lt; have c_D6 := D6.cell; have f_D6 := D6.frozen; have l_D6 := D6.lt; have c_D9 := D9.cell; have f_D9 := D9.frozen; have l_D9 := D9.lt; have c_D4 := D4.cell; have f_D4 := D4.frozen; have l_D4 := D4.lt
  by_cases z : R.lo = 0
  · have hT := HT.out
    rw [if_pos z] at hT
    subst hT
    clear HT HQ HK
    go_wp2_with fail
    refine name_world _ ?_
    intro w9 hw9
    have Q4 : Blk w9 (w.heap.size + 1 + 1) 26 #[.int .i64 0, .int .i64 0] := by rw [hw9]; exact blk_set2 (blk_far2 D4 u4) rfl
    have QE : Ext w w9 := by rw [hw9]; exact ext_set2 (ext_set2 E8 m10) (by omega)
    clear hw9
    clear c_B_b10 f_B_b10 l_B_b10 c_D6 f_D6 l_D6 c_D9 f_D9 l_D9 c_D4 f_D4 l_D4
    have c_Q4 := Q4.cell; have f_Q4 := Q4.frozen; have l_Q4 := Q4.lt
    (try simp only [Exit.inBlock, Exit.then]); apply bodyPost_ret; (focus (simp only [results, Tryz.results81]; go_simp; try rfl)); rfl
    exact ⟨rfl, QE⟩
  · have hT := HT.out
    rw [if_neg z] at hT
    subst hT
    clear HT
    go_wp2_with fail
    refine (HQ.out _ z).mono ?_
    rintro e w9 ⟨rfl, h9⟩
    have F4 : Blk w9 (w.heap.size + 1 + 1) 26 #[.int .i64 0, .int .i64 0] := Blk.ext (by exact blk_far2 D4 u4) h9
    have F6 : Blk w9 g 198 #[.bool false] := Blk.ext (by exact blk_far2 D6 u6) h9
    have E9 : Ext w w9 := Ext.trans (by exact ext_set2 E8 m10) h9
    clear c_B_b10 f_B_b10 l_B_b10 c_D6 f_D6 l_D6 c_D9 f_D9 l_D9 c_D4 f_D4 l_D4
    clear h9 HQ B_b10 D6 D9 D4 E8
    have c_F4 := F4.cell; have f_F4 := F4.frozen; have l_F4 := F4.lt; have c_F6 := F6.cell; have f_F6 := F6.frozen; have l_F6 := F6.lt
    go_wp2_with fail
    refine (HK.out _ _ _ _ F6).mono ?_
    rintro e w10 ⟨rfl, h10⟩
    clear c_F4 f_F4 l_F4 c_F6 f_F6 l_F6
    replace F4 := F4.ext h10; replace F6 := F6.ext h10; have c_F4 := F4.cell; have f_F4 := F4.frozen; have l_F4 := F4.lt; have c_F6 := F6.cell; have f_F6 := F6.frozen; have l_F6 := F6.lt
    have E10 := E9.trans h10
    clear h10 E9 HK
    go_wp2_with fail
    refine name_world _ ?_
    intro w11 hw11
    have G11 : Blk w11 w10.heap.size 26 #[.int .i64 D.lo, .int .i64 D.hi] := by rw [hw11]; exact Blk.newAt rfl
    have G4 : Blk w11 (w.heap.size + 1 + 1) 26 #[.int .i64 0, .int .i64 0] := by rw [hw11]; exact F4.alloc _
    have G6 : Blk w11 g 198 #[.bool false] := by rw [hw11]; exact F6.alloc _
    have E11 : Ext w w11 := by rw [hw11]; exact E10.alloc _
    clear c_F4 f_F4 l_F4 c_F6 f_F6 l_F6
    clear hw11 F4 F6 E10
    have c_G11 := G11.cell; have f_G11 := G11.frozen; have l_G11 := G11.lt; have c_G4 := G4.cell; have f_G4 := G4.frozen; have l_G4 := G4.lt; have c_G6 := G6.cell; have f_G6 := G6.frozen; have l_G6 := G6.lt
    go_region
    go_wp2_with fail
    refine name_world _ ?_
    intro w13 hw13
    have Q4 : Blk w13 (w.heap.size + 1 + 1) 26 #[.int .i64 D.lo, .int .i64 D.hi] := by rw [hw13]; unfold Blk; rw [heap_drew]; exact blk_set2 G4 rfl
    have QE : Ext w w13 := by rw [hw13]; exact Ext.drew (ext_set2 E11 (by omega))
    clear hw13
    clear c_G11 f_G11 l_G11 c_G4 f_G4 l_G4 c_G6 f_G6 l_G6
    have c_Q4 := Q4.cell; have f_Q4 := Q4.frozen; have l_Q4 := Q4.lt
    (try simp only [Exit.inBlock, Exit.then]); apply bodyPost_ret; (focus (simp only [results, Tryz.results81]; go_simp; try rfl)); rfl
    exact ⟨rfl, QE⟩
end Go.Proofs.YtiladlangkjoiaaGreat
