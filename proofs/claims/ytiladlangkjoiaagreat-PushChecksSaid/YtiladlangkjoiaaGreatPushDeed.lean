/- What a mission does: the program. No condition. -/
import Derived.Test.YtiladlangkjoiaaGreatPushCamp
import Derived.Test.YtiladlangkjoiaaGreatFreeLast
import Derived.Laws.Rows
import Derived.Test.YtiladlangkjoiaaGreatPushLaw
import Derived.Scope
import Derived.LoopN
namespace Go.Proofs.YtiladlangkjoiaaGreat
open Go.RowKit

set_option maxRecDepth 20000 in
set_option maxHeartbeats 1000000 in
theorem pWorks_c (m : Mis) (tick : Int) (w : World) (hm : misErr m = 0) :
    Calls Tryz.prog 181 #[.agg #[.int .i64 m.kind, .int .i64 m.launch, .int .i64 m.arrive, .int .i64 m.dur, .int .i64 m.mass.lo, .int .i64 m.mass.hi, .int .i64 m.power.lo, .int .i64 m.power.hi, .int .i64 m.mult.lo, .int .i64 m.mult.hi, .int .i64 m.dir.x, .int .i64 m.dir.y, .bool m.reserve, .int .i64 m.cost], .int .i64 tick] w fun e w' => e = .returned (.bool (worksB m tick)) ∧ Ext w w' := by
  obtain ⟨⟨k1, k2⟩, ⟨a1, a2, a3, a4, a5⟩, _⟩ := misErr_ok.1 hm
  have H := Lib.hid fun W => pWithin_c tick m.arrive (m.arrive + m.dur - 1) W
  unfold worksB
  generalize within tick m.arrive (m.arrive + m.dur - 1) = R at *
  clear hm
  by_cases h3 : m.kind = 3
  · rw [if_pos (.inl h3)]
    go_enter Tryz.func181, Tryz.ntmps181
    go_wp2_with fail
    refine (H.out _).mono ?_
    rintro e w1 ⟨rfl, h1⟩
    obtain ⟨hc_w1, hf_w1, hz_w1⟩ := bcell h1; (try simp only [szA] at hz_w1); (try have := wz0 w w1); (try have := wz1 w w1); (try have := wz2 w w1); (try have := wz3 w w1); (try have := wz4 w w1)
    go_wp2_with fail
    go_ret
    exact ⟨rfl, ext_by⟩
  · by_cases h4 : m.kind = 4
    · rw [if_pos (.inr h4)]
      go_enter Tryz.func181, Tryz.ntmps181
      go_wp2_with fail
      refine (H.out _).mono ?_
      rintro e w1 ⟨rfl, h1⟩
      obtain ⟨hc_w1, hf_w1, hz_w1⟩ := bcell h1; (try simp only [szA] at hz_w1); (try have := wz0 w w1); (try have := wz1 w w1); (try have := wz2 w w1); (try have := wz3 w w1); (try have := wz4 w w1)
      go_wp2_with fail
      go_ret
      exact ⟨rfl, ext_by⟩
    · have h12 : m.kind = 1 ∨ m.kind = 2 := by omega
      rw [if_neg (by omega)]
      clear H k1 k2
      rcases h12 with h5 | h5
      all_goals clear h3 h4
      all_goals go_enter Tryz.func181, Tryz.ntmps181
      all_goals go_wp2_with fail
      all_goals go_ret
      all_goals exact ⟨rfl, ext_by⟩
theorem size_deed : (Tryz.prog.info? 215).map (·.size) = some 26 := by kernel_rfl
set_option maxRecDepth 20000 in
set_option maxHeartbeats 4000000 in
theorem pShoves_V (V : Array Value) (xl xh yl yh : Int) (w : World) (hV : V.size = 26) (hb : -4503599627370496 ≤ xl ∧ xl ≤ 4503599627370496 ∧ -4503599627370496 ≤ xh ∧ xh ≤ 4503599627370496 ∧ -4503599627370496 ≤ yl ∧ yl ≤ 4503599627370496 ∧ -4503599627370496 ≤ yh ∧ yh ≤ 4503599627370496)
    (HD : Hid (∀ W, Calls Tryz.prog 247 #[.agg V] W fun e w' => e = .returned (.agg #[.int .i64 xl, .int .i64 xh, .int .i64 yl, .int .i64 yh]) ∧ Ext W w')) :
    Calls Tryz.prog 248 #[.agg V] w fun e w' => e = .returned (.agg #[.int .i64 (-xh), .int .i64 (-xl), .int .i64 (-yh), .int .i64 (-yl)]) ∧ Ext w w' := by
  have hi : (Tryz.prog.info? 215).map (·.size) = some V.size := by rw [hV]; exact size_deed
  obtain ⟨g1, g2, g3, g4, g5, g6, g7, g8⟩ := hb
  have B1 : Blk ((w.alloc (.cells V 215)).alloc (.cells #[.int .i64 0, .int .i64 0, .int .i64 0, .int .i64 0] 32)) w.heap.size 215 V := (Blk.newAt rfl).alloc _
  have HB1 := Lib.hid B1
  clear B1
  go_enter Tryz.func248, Tryz.ntmps248
  (try dsimp only); iterate 15 (first | go_values | go_skip | go_guarded | go_step | go_upon)
  refine wp_load_row 215 (.tmp 1) rfl w.heap.size rfl 215 V _ _ HB1.out Tryz.underlying215 rfl hi ?_
  go_wp2_with fail
  refine (HD.out _).mono ?_
  rintro e w1 ⟨rfl, h1⟩
  have B2 : Blk w1 (w.heap.size + 1) 32 #[.int .i64 0, .int .i64 0, .int .i64 0, .int .i64 0] := (Blk.newAt (by simp)).ext h1
  have E1 : Ext w w1 := ((Ext.alloc0 _ _).alloc _).trans h1
  clear HD h1 HB1
  have c_B2 := B2.cell; have f_B2 := B2.frozen; have l_B2 := B2.lt
  go_wp2_with fail
  (try simp only [Exit.inBlock, Exit.then]); apply bodyPost_ret; (focus (simp only [results, Tryz.results248]; go_simp; try rfl)); rfl
  exact ⟨rfl, ext_by⟩
section
variable (m : Mis) (A : Option Addr) (n c : Nat) (home : Int) (body : Sp) (b : Bx) (w : World)
set_option maxRecDepth 20000 in
set_option maxHeartbeats 4000000 in
theorem pDraws_c :
    Calls Tryz.prog 247 #[.agg #[.int .i64 m.kind, .int .i64 m.launch, .int .i64 m.arrive, .int .i64 m.dur, .int .i64 m.mass.lo, .int .i64 m.mass.hi, .int .i64 m.power.lo, .int .i64 m.power.hi, .int .i64 m.mult.lo, .int .i64 m.mult.hi, .int .i64 m.dir.x, .int .i64 m.dir.y, .bool m.reserve, .int .i64 m.cost, .slice A n c, .int .i64 home, .int .i64 body.lo, .int .i64 body.hi, .int .i64 b.x.lo, .int .i64 b.x.hi, .int .i64 b.y.lo, .int .i64 b.y.hi, .int .i64 b.u.lo, .int .i64 b.u.hi, .int .i64 b.v.lo, .int .i64 b.v.hi]] w fun e w' => e = .returned (arV (drawsA m body)) ∧ Ext w w' := by
  have HS := Lib.hid fun k W => pSole_c k W
  have HT := Lib.hid fun a b c d g t k W h => pTimes1_c a b c d g t k W h
  have HO := Lib.hid fun a b c d W => pOver_c a b c d W
  unfold arV drawsA
  dsimp only
  go_enter Tryz.func247, Tryz.ntmps247
  go_wp2_with fail
  refine wp_region_freeL 27 (by kernel_rfl) (by kernel_rfl) ?_
  simp only [List.take_succ_cons, List.take_zero, List.drop_succ_cons, List.drop_zero]
  (repeat' (first | (refine fb_off (by rfl) (by rfl) ?_; simp only [putX]) | (apply fb_op; rfl; rfl; (intro w1 h1; obtain ⟨hc, hf, hz⟩ := bcell h1; go_simp; (try go_bits); (first | exact ⟨rfl, Ext.refl _⟩ | (apply gives_call; first | (go_at_call 132; exact HS.out _ _) | (go_at_call 173; exact HO.out _ _ _ _ _)) | (go_invoke; go_simp; apply gives_call; first | (go_at_call 132; exact HS.out _ _) | (go_at_call 173; exact HO.out _ _ _ _ _)))); simp only [putX]) | (apply fb_slice; rfl; rfl; (intro w1 h1; obtain ⟨hc, hf, hz⟩ := bcell h1; go_simp; first | rfl | exact ⟨⟨rfl, rfl⟩, rfl⟩)) | (apply fb_use; rfl; (intro u; rfl); (rintro u w1 h1 ⟨b, rfl, hB⟩; obtain ⟨hc, hf, hz⟩ := bcell h1; go_simp; (first | exact ⟨rfl, Ext.refl _⟩ | (apply gives_call; first | (go_at_call 289; exact HT.out _ _ _ _ _ _ _ _ hB)) | (go_invoke; go_simp; apply gives_call; first | (go_at_call 289; exact HT.out _ _ _ _ _ _ _ _ hB)))); simp only [putX]) | (refine fb_split rfl rfl (fun hx => ?_) (fun hx => ?_) <;> simp only [hx])))
  refine fb_nil ?_
  (intro val w1 h1 hg; clear hg; simp only [putV, Act.put, List.setIfInBounds_toArray, List.set_cons_zero, List.set_cons_succ])
  obtain ⟨hc_w1, hf_w1, hz_w1⟩ := bcell h1; (try simp only [szA] at hz_w1); (try have := wz0 w w1); (try have := wz1 w w1); (try have := wz2 w w1); (try have := wz3 w w1); (try have := wz4 w w1)
  go_wp2_with fail
  (try simp only [Exit.inBlock, Exit.then]); apply bodyPost_ret; (focus (simp only [results, Tryz.results247]; go_simp; try rfl)); rfl
  exact ⟨rfl, ext_by⟩
theorem pShoves_c (hm : misErr m = 0) (hd : boundErr body 1 1099511627776 = 0) :
    Calls Tryz.prog 248 #[.agg #[.int .i64 m.kind, .int .i64 m.launch, .int .i64 m.arrive, .int .i64 m.dur, .int .i64 m.mass.lo, .int .i64 m.mass.hi, .int .i64 m.power.lo, .int .i64 m.power.hi, .int .i64 m.mult.lo, .int .i64 m.mult.hi, .int .i64 m.dir.x, .int .i64 m.dir.y, .bool m.reserve, .int .i64 m.cost, .slice A n c, .int .i64 home, .int .i64 body.lo, .int .i64 body.hi, .int .i64 b.x.lo, .int .i64 b.x.hi, .int .i64 b.y.lo, .int .i64 b.y.hi, .int .i64 b.u.lo, .int .i64 b.u.hi, .int .i64 b.v.lo, .int .i64 b.v.hi]] w fun e w' => e = .returned (arV (minusA (drawsA m body))) ∧ Ext w w' := by
  obtain ⟨⟨s1, s2, s3⟩, s4, s5, s6⟩ := draws_sm hm hd
  exact pShoves_V _ _ _ _ _ w rfl (by omega) (Lib.hid fun W => pDraws_c m A n c home body b W)
set_option maxRecDepth 20000 in
set_option maxHeartbeats 8000000 in
theorem pHits_c (l : List Body) (hl : Bodies w A n l) (hm : misErr m = 0) :
    Calls Tryz.prog 246 #[.agg #[.int .i64 m.kind, .int .i64 m.launch, .int .i64 m.arrive, .int .i64 m.dur, .int .i64 m.mass.lo, .int .i64 m.mass.hi, .int .i64 m.power.lo, .int .i64 m.power.hi, .int .i64 m.mult.lo, .int .i64 m.mult.hi, .int .i64 m.dir.x, .int .i64 m.dir.y, .bool m.reserve, .int .i64 m.cost, .slice A n c, .int .i64 home, .int .i64 body.lo, .int .i64 body.hi, .int .i64 b.x.lo, .int .i64 b.x.hi, .int .i64 b.y.lo, .int .i64 b.y.hi, .int .i64 b.u.lo, .int .i64 b.u.hi, .int .i64 b.v.lo, .int .i64 b.v.hi]] w fun e w' => e = .returned (arV (hitsA l home m body b)) ∧ Ext w w' := by
  obtain ⟨_, ⟨q1, q2, q3, _⟩, _⟩ := misErr_ok.1 hm
  have HA := Lib.hid fun W (hW : Ext w W) => At_c A n c home home m.launch l W (Bodies.ext hW hl)
  have HV := Lib.hid fun a b c d e f g W => pSpeeds_c a b c d e f g W
  have HS := Lib.hid fun k W => pSole_c k W
  have HT := Lib.hid fun a b c d g t k W h => pTimes1_c a b c d g t k W h
  have HO := Lib.hid fun a b c d W => pOver_c a b c d W
  have HL := Lib.hid fun a b c d W => pLess_c a b c d W
  unfold arV hitsA
  dsimp only
  generalize atM l home home m.launch = h at *
  obtain ⟨hx, hy⟩ := h
  dsimp only at HA ⊢
  clear hl hm
  go_enter Tryz.func246, Tryz.ntmps246
  go_wp2_with fail
  refine name_world _ ?_
  intro W0 hW0
  have B1 : Blk W0 w.heap.size 215 #[.int .i64 m.kind, .int .i64 m.launch, .int .i64 m.arrive, .int .i64 m.dur, .int .i64 m.mass.lo, .int .i64 m.mass.hi, .int .i64 m.power.lo, .int .i64 m.power.hi, .int .i64 m.mult.lo, .int .i64 m.mult.hi, .int .i64 m.dir.x, .int .i64 m.dir.y, .bool m.reserve, .int .i64 m.cost, .slice A n c, .int .i64 home, .int .i64 body.lo, .int .i64 body.hi, .int .i64 b.x.lo, .int .i64 b.x.hi, .int .i64 b.y.lo, .int .i64 b.y.hi, .int .i64 b.u.lo, .int .i64 b.u.hi, .int .i64 b.v.lo, .int .i64 b.v.hi] := by rw [hW0]; exact (Blk.newAt rfl).alloc _
  have B2 : Blk W0 (w.heap.size + 1) 32 #[.int .i64 0, .int .i64 0, .int .i64 0, .int .i64 0] := by rw [hW0]; exact Blk.newAt (by simp)
  have E0 : Ext w W0 := by rw [hW0]; exact (Ext.alloc0 _ _).alloc _
  clear hW0
  have c_B1 := B1.cell; have f_B1 := B1.frozen; have l_B1 := B1.lt; have c_B2 := B2.cell; have f_B2 := B2.frozen; have l_B2 := B2.lt
  refine wp_region_freeT 25 [(24, 32, #[.int .i64 0, .int .i64 0, .int .i64 0, .int .i64 0])] (by kernel_rfl) (by kernel_rfl) (by intro q hq; simp only [List.mem_cons, List.not_mem_nil, or_false] at hq; rcases hq with rfl <;> exact ⟨rfl, fun a w => by show (execOp a.eval (opAt _ _)).run _ w = _; simp only [opAt]; go_simp⟩) ?_
  simp only [List.take_succ_cons, List.take_zero, List.drop_succ_cons, List.drop_zero]
  (repeat' (first | (refine fb_off (by rfl) (by rfl) ?_; simp only [putX]) | (apply fb_op; rfl; rfl; (intro w1 h1; obtain ⟨hc, hf, hz⟩ := bcell h1; go_simp; (try go_bits); (first | exact ⟨rfl, Ext.refl _⟩ | (apply gives_call; first | (go_at_call 86; exact HA.out _ ext_by) | (go_at_call 85; exact HV.out _ _ _ _ _ _ _ _)) | (go_invoke; go_simp; apply gives_call; first | (go_at_call 86; exact HA.out _ ext_by) | (go_at_call 85; exact HV.out _ _ _ _ _ _ _ _)))); simp only [putX]) | (apply fb_slice; rfl; rfl; (intro w1 h1; obtain ⟨hc, hf, hz⟩ := bcell h1; go_simp; first | rfl | exact ⟨⟨rfl, rfl⟩, rfl⟩)) | (apply fb_alloc; rfl; rfl; (intro w1 h1; go_simp; first | rfl | exact ⟨rfl, rfl⟩)) | (apply fb_use; rfl; (intro u; rfl); (rintro u w1 h1 ⟨b, rfl, hB⟩; obtain ⟨hc, hf, hz⟩ := bcell h1; go_simp; (first | exact ⟨rfl, Ext.refl _⟩)); simp only [putX]) | (refine fb_split rfl rfl (fun hx => ?_) (fun hx => ?_) <;> simp only [hx])))
  refine fb_nil ⟨(by intro q hq; simp only [List.mem_cons, List.not_mem_nil, or_false] at hq; rcases hq with rfl; exact ⟨some 3, by simp⟩), ?_⟩
  intro val w1 h1 hg hne
  obtain ⟨b3, e_b3, n_b3, B_b3⟩ := hg (24, some 3, PtrIs W0.heap.size 32 #[.int .i64 0, .int .i64 0, .int .i64 0, .int .i64 0]) (by simp)
  (simp only [putV, Act.put, List.setIfInBounds_toArray, List.set_cons_zero, List.set_cons_succ, e_b3])
  clear hg hne e_b3
  have hz := h1.size
  have o1 : b3 ≠ w.heap.size := by have := B1.lt; omega
  have o2 : b3 ≠ w.heap.size + 1 := by have := B2.lt; omega
  have c_B3 := B_b3.cell
  have f_B3 := B_b3.frozen
  have l_B3 := B_b3.lt
  clear c_B1 f_B1 l_B1 c_B2 f_B2 l_B2
  clear HA HV
  obtain ⟨⟨⟨vxl, vxh⟩, vyl, vyh⟩, hV⟩ : ∃ V, V = speedsM ⟨hx, hy⟩ ⟨b.x, b.y⟩ (m.arrive - m.launch) := ⟨_, rfl⟩
  have hV' : speedsM ⟨hx, hy⟩ (⟨⟨b.x.lo, b.x.hi⟩, ⟨b.y.lo, b.y.hi⟩⟩ : Ar) (m.arrive - m.launch) = ⟨⟨vxl, vxh⟩, vyl, vyh⟩ := hV.symm
  rw [← hV]
  try rw [hV']
  have HV2 := Lib.hid hV
  clear hV hV'
  dsimp only [arV]
  go_wp2_with fail
  refine name_world _ ?_
  intro W2 hW2
  have A1 : Blk W2 w.heap.size 215 #[.int .i64 m.kind, .int .i64 m.launch, .int .i64 m.arrive, .int .i64 m.dur, .int .i64 m.mass.lo, .int .i64 m.mass.hi, .int .i64 m.power.lo, .int .i64 m.power.hi, .int .i64 m.mult.lo, .int .i64 m.mult.hi, .int .i64 m.dir.x, .int .i64 m.dir.y, .bool m.reserve, .int .i64 m.cost, .slice A n c, .int .i64 home, .int .i64 body.lo, .int .i64 body.hi, .int .i64 b.x.lo, .int .i64 b.x.hi, .int .i64 b.y.lo, .int .i64 b.y.hi, .int .i64 b.u.lo, .int .i64 b.u.hi, .int .i64 b.v.lo, .int .i64 b.v.hi] := by rw [hW2]; exact blk_far2 (blk_far2 (B1.ext h1) (Ne.symm o1)) (Ne.symm o1)
  have A2 : Blk W2 (w.heap.size + 1) 32 #[.int .i64 0, .int .i64 0, .int .i64 0, .int .i64 0] := by rw [hW2]; exact blk_far2 (blk_far2 (B2.ext h1) (Ne.symm o2)) (Ne.symm o2)
  have A3 : Blk W2 b3 32 #[.int .i64 vxl, .int .i64 vxh, .int .i64 vyl, .int .i64 vyh] := by rw [hW2]; exact blk_set2 (blk_set2 B_b3 rfl) rfl
  have nb := E0.size
  have E2 : Ext w W2 := by rw [hW2]; exact ext_set2 (ext_set2 (E0.trans h1) (by omega)) (by omega)
  have q1' : b3 < W2.heap.size := A3.lt
  clear hW2 c_B3 f_B3 l_B3 B_b3 B1 B2 E0 h1 hz n_b3
  have c_A1 := A1.cell; have f_A1 := A1.frozen; have l_A1 := A1.lt; have c_A2 := A2.cell; have f_A2 := A2.frozen; have l_A2 := A2.lt; have c_A3 := A3.cell; have f_A3 := A3.frozen; have l_A3 := A3.lt
  refine wp_region_freeT 15 [(13, 26, #[.int .i64 0, .int .i64 0]), (14, 26, #[.int .i64 0, .int .i64 0])] (by kernel_rfl) (by kernel_rfl) (by intro q hq; simp only [List.mem_cons, List.not_mem_nil, or_false] at hq; rcases hq with rfl | rfl <;> exact ⟨rfl, fun a w => by show (execOp a.eval (opAt _ _)).run _ w = _; simp only [opAt]; go_simp⟩) ?_
  simp only [List.take_succ_cons, List.take_zero, List.drop_succ_cons, List.drop_zero]
  (repeat' (first | (refine fb_off (by rfl) (by rfl) ?_; simp only [putX]) | (apply fb_op; rfl; rfl; (intro w1 h1; obtain ⟨hc, hf, hz⟩ := bcell h1; go_simp; (try go_bits); (first | exact ⟨rfl, Ext.refl _⟩ | (apply gives_call; first | (go_at_call 132; exact HS.out _ _)) | (go_invoke; go_simp; apply gives_call; first | (go_at_call 132; exact HS.out _ _)))); simp only [putX]) | (apply fb_slice; rfl; rfl; (intro w1 h1; obtain ⟨hc, hf, hz⟩ := bcell h1; go_simp; first | rfl | exact ⟨⟨rfl, rfl⟩, rfl⟩)) | (apply fb_alloc; rfl; rfl; (intro w1 h1; go_simp; first | rfl | exact ⟨rfl, rfl⟩)) | (apply fb_use; rfl; (intro u; rfl); (rintro u w1 h1 ⟨b, rfl, hB⟩; obtain ⟨hc, hf, hz⟩ := bcell h1; go_simp; (first | exact ⟨rfl, Ext.refl _⟩ | (apply gives_call; first | (go_at_call 289; exact HT.out _ _ _ _ _ _ _ _ hB)) | (go_invoke; go_simp; apply gives_call; first | (go_at_call 289; exact HT.out _ _ _ _ _ _ _ _ hB)))); simp only [putX]) | (refine fb_split rfl rfl (fun hx => ?_) (fun hx => ?_) <;> simp only [hx])))
  refine fb_nil ⟨(by intro q hq; simp only [List.mem_cons, List.not_mem_nil, or_false] at hq; rcases hq with rfl | rfl; exact ⟨some 4, by simp⟩; exact ⟨some 5, by simp⟩), ?_⟩
  intro val w3 h3 hg hne
  obtain ⟨b4, e_b4, n_b4, B_b4⟩ := hg (13, some 4, PtrIs W2.heap.size 26 #[.int .i64 0, .int .i64 0]) (by simp)
  obtain ⟨b5, e_b5, n_b5, B_b5⟩ := hg (14, some 5, PtrIs W2.heap.size 26 #[.int .i64 0, .int .i64 0]) (by simp)
  have ne_b5_b4 : b5 ≠ b4 := (by have h9 := hne (14, 26, #[.int .i64 0, .int .i64 0]) (by simp) (13, 26, #[.int .i64 0, .int .i64 0]) (by simp) (by decide); dsimp only at h9; rw [e_b5, e_b4] at h9; exact fun e9 => h9 (by rw [e9]))
  (simp only [putV, Act.put, List.setIfInBounds_toArray, List.set_cons_zero, List.set_cons_succ, e_b4, e_b5])
  clear hg hne e_b4 e_b5
  have z3 := h3.size
  have o3 : b4 ≠ w.heap.size ∧ b4 ≠ w.heap.size + 1 ∧ b4 ≠ b3 := by have := A1.lt; have := A2.lt; omega
  have o4 : b5 ≠ w.heap.size ∧ b5 ≠ w.heap.size + 1 ∧ b5 ≠ b3 := by have := A1.lt; have := A2.lt; omega
  clear c_A1 f_A1 l_A1 c_A2 f_A2 l_A2 c_A3 f_A3 l_A3
  clear HS
  have c_b4 := B_b4.cell
  have f_b4 := B_b4.frozen
  have l_b4 := B_b4.lt
  have c_b5 := B_b5.cell
  have f_b5 := B_b5.frozen
  have l_b5 := B_b5.lt
  obtain ⟨⟨pl, ph⟩, hM⟩ : ∃ M, M = mulS m.mult m.mass := ⟨_, rfl⟩
  obtain ⟨⟨kl, kh⟩, hK⟩ : ∃ M, M = mulS body ⟨1000, 1000⟩ := ⟨_, rfl⟩
  have hM' : mulS (⟨m.mult.lo, m.mult.hi⟩ : Sp) ⟨m.mass.lo, m.mass.hi⟩ = ⟨pl, ph⟩ := hM.symm
  have hK' : mulS (⟨body.lo, body.hi⟩ : Sp) ⟨1000, 1000⟩ = ⟨kl, kh⟩ := hK.symm
  rw [← hM, ← hK]
  try rw [hM']
  try rw [hK']
  have HM2 := Lib.hid hM
  have HK2 := Lib.hid hK
  clear hM hK hM' hK'
  dsimp only
  go_wp2_with fail
  refine name_world _ ?_
  intro W4 hW4
  have nb2 := E2.size
  have K1 : Blk W4 w.heap.size 215 #[.int .i64 m.kind, .int .i64 m.launch, .int .i64 m.arrive, .int .i64 m.dur, .int .i64 m.mass.lo, .int .i64 m.mass.hi, .int .i64 m.power.lo, .int .i64 m.power.hi, .int .i64 m.mult.lo, .int .i64 m.mult.hi, .int .i64 m.dir.x, .int .i64 m.dir.y, .bool m.reserve, .int .i64 m.cost, .slice A n c, .int .i64 home, .int .i64 body.lo, .int .i64 body.hi, .int .i64 b.x.lo, .int .i64 b.x.hi, .int .i64 b.y.lo, .int .i64 b.y.hi, .int .i64 b.u.lo, .int .i64 b.u.hi, .int .i64 b.v.lo, .int .i64 b.v.hi] := by rw [hW4]; exact blk_far2 (blk_far2 (A1.ext h3) (Ne.symm o3.1)) (Ne.symm o4.1)
  have K2 : Blk W4 (w.heap.size + 1) 32 #[.int .i64 0, .int .i64 0, .int .i64 0, .int .i64 0] := by rw [hW4]; exact blk_far2 (blk_far2 (A2.ext h3) (Ne.symm o3.2.1)) (Ne.symm o4.2.1)
  have K3 : Blk W4 b3 32 #[.int .i64 vxl, .int .i64 vxh, .int .i64 vyl, .int .i64 vyh] := by rw [hW4]; exact blk_far2 (blk_far2 (A3.ext h3) (Ne.symm o3.2.2)) (Ne.symm o4.2.2)
  have K4 : Blk W4 b4 26 #[.int .i64 pl, .int .i64 ph] := by rw [hW4]; exact blk_far2 (blk_set2 B_b4 rfl) (Ne.symm ne_b5_b4)
  have K5 : Blk W4 b5 26 #[.int .i64 kl, .int .i64 kh] := by rw [hW4]; exact blk_set2 (blk_far2 B_b5 ne_b5_b4) rfl
  have E4 : Ext w W4 := by rw [hW4]; exact ext_set2 (ext_set2 (E2.trans h3) (by omega)) (by omega)
  clear hW4 c_b4 f_b4 l_b4 c_b5 f_b5 l_b5 B_b4 B_b5 A1 A2 A3 E2 h3 z3 n_b4 n_b5
  have c_K1 := K1.cell; have f_K1 := K1.frozen; have l_K1 := K1.lt; have c_K2 := K2.cell; have f_K2 := K2.frozen; have l_K2 := K2.lt; have c_K3 := K3.cell; have f_K3 := K3.frozen; have l_K3 := K3.lt; have c_K4 := K4.cell; have f_K4 := K4.frozen; have l_K4 := K4.lt; have c_K5 := K5.cell; have f_K5 := K5.frozen; have l_K5 := K5.lt
  refine wp_region_freeL 23 (by kernel_rfl) (by kernel_rfl) ?_
  simp only [List.take_succ_cons, List.take_zero, List.drop_succ_cons, List.drop_zero]
  (repeat' (first | (refine fb_off (by rfl) (by rfl) ?_; simp only [putX]) | (apply fb_op; rfl; rfl; (intro w1 h1; obtain ⟨hc, hf, hz⟩ := bcell h1; go_simp; (try go_bits); (first | exact ⟨rfl, Ext.refl _⟩ | (apply gives_call; first | (go_at_call 174; exact HL.out _ _ _ _ _) | (go_at_call 173; exact HO.out _ _ _ _ _)) | (go_invoke; go_simp; apply gives_call; first | (go_at_call 174; exact HL.out _ _ _ _ _) | (go_at_call 173; exact HO.out _ _ _ _ _)))); simp only [putX]) | (apply fb_slice; rfl; rfl; (intro w1 h1; obtain ⟨hc, hf, hz⟩ := bcell h1; go_simp; first | rfl | exact ⟨⟨rfl, rfl⟩, rfl⟩)) | (apply fb_use; rfl; (intro u; rfl); (rintro u w1 h1 ⟨b, rfl, hB⟩; obtain ⟨hc, hf, hz⟩ := bcell h1; go_simp; (first | exact ⟨rfl, Ext.refl _⟩ | (apply gives_call; first | (go_at_call 289; exact HT.out _ _ _ _ _ _ _ _ hB)) | (go_invoke; go_simp; apply gives_call; first | (go_at_call 289; exact HT.out _ _ _ _ _ _ _ _ hB)))); simp only [putX]) | (refine fb_split rfl rfl (fun hx => ?_) (fun hx => ?_) <;> simp only [hx])))
  refine fb_nil ?_
  (intro val w5 h5 hg; clear hg; simp only [putV, Act.put, List.setIfInBounds_toArray, List.set_cons_zero, List.set_cons_succ])
  obtain ⟨hc_w5, hf_w5, hz_w5⟩ := bcell h5; (try simp only [szA] at hz_w5); (try have := wz0 w w5); (try have := wz1 w w5); (try have := wz2 w w5); (try have := wz3 w w5); (try have := wz4 w w5)
  go_wp2_with fail
  (try simp only [Exit.inBlock, Exit.then]); apply bodyPost_ret; (focus (simp only [results, Tryz.results246]; go_simp; try rfl)); rfl
  refine ⟨?_, ext_by⟩
  rw [← HV2.out, ← HM2.out, ← HK2.out]
end
end Go.Proofs.YtiladlangkjoiaaGreat
