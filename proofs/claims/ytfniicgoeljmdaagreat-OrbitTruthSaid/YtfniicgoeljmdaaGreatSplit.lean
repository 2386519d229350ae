/- The parts of a box: the program. No condition. -/
import Derived.Test.YtfniicgoeljmdaaGreatStep
import Derived.Test.YtfniicgoeljmdaaGreatOwnBoxes
namespace Go.Proofs.YtfniicgoeljmdaaGreat
open Go.RowKit

def wid (s : Sp) : Int := s.hi - s.lo
def widStep (acc p : Nat × Int) : Nat × Int := if acc.2 < p.2 then p else acc
def widL (b : Bx) : List (Nat × Int) := [(0, wid b.x), (1, wid b.y), (2, wid b.u), (3, wid b.v)]
def widPre (b : Bx) (k : Nat) : Nat × Int := ((widL b).take k).foldl widStep (0, -1)
def widB (b : Bx) : Nat × Int := widPre b 4
theorem wid_next {b : Bx} {k : Nat} {X Y : Int} (h : spanAt b k X Y) : widPre b (k + 1) = widStep (widPre b k) (k, Y - X) := by
  rcases h with ⟨rfl, rfl, rfl⟩ | ⟨rfl, rfl, rfl⟩ | ⟨rfl, rfl, rfl⟩ | ⟨rfl, rfl, rfl⟩ <;> rfl
theorem widB_eq (b : Bx) : widB b = widStep (widStep (widStep (widStep (0, -1) (0, wid b.x)) (1, wid b.y)) (2, wid b.u)) (3, wid b.v) := rfl
theorem wid_lt (b : Bx) (h : bxErr b = 0) : (widB b).1 < 4 ∧ 0 ≤ (widB b).2 ∧ (widB b).2 ≤ 67108864 := by
  obtain ⟨h1, h2, h3, h4⟩ := bxErr_iff.1 h
  unfold Sm at h1 h2 h3 h4
  rw [widB_eq]
  unfold widStep wid
  dsimp only
  repeat' split
  all_goals (dsimp only at *; omega)
set_option maxRecDepth 20000 in
set_option maxHeartbeats 4000000 in
theorem oWidest_c (b : Bx) (w : World) (h : bxErr b = 0) :
    Calls Tryz.prog 89 #[.agg #[.int .i64 b.x.lo, .int .i64 b.x.hi, .int .i64 b.y.lo, .int .i64 b.y.hi, .int .i64 b.u.lo, .int .i64 b.u.hi, .int .i64 b.v.lo, .int .i64 b.v.hi]] w fun e w' => e = .returned (.tuple #[.int .i64 ((widB b).1 : Int), .int .i64 (widB b).2]) ∧ Ext w w' := by
  have hbd := bxErr_iff.1 h
  unfold BxOk Sm at hbd
  have HX : Hid (∀ k, k < 4 → ∃ X Y, spanAt b k X Y ∧ -33554432 ≤ X ∧ X ≤ Y ∧ Y ≤ 33554432) := by
    intro k hk
    obtain ⟨X, Y, hs⟩ := span_some b hk
    refine ⟨X, Y, hs, ?_⟩
    unfold spanAt at hs
    omega
  have HIX := Lib.hid fun k X Y (h : spanAt b k X Y) => span_ix h
  have HN := Lib.hid fun k X Y (h : spanAt b k X Y) => wid_next h
  have H4 : Hid (widPre b 4 = widB b) := rfl
  obtain ⟨S, hS⟩ : ∃ S, spanAt b = S := ⟨_, rfl⟩
  obtain ⟨F, hF⟩ : ∃ F, widPre b = F := ⟨_, rfl⟩
  have H0 : Hid (F 0 = (0, -1)) := by rw [← hF]; rfl
  rw [hS] at HX HIX HN
  rw [hF] at HN H4
  rw [← H4.out]
  clear hS hF hbd h H4
  obtain ⟨⟨xl, xh⟩, ⟨yl, yh⟩, ⟨ul, uh⟩, vl, vh⟩ := b
  dsimp only at HIX
  go_enter Tryz.func89, Tryz.ntmps89
  go_wp2_with fail
  refine (oOf_c _ _ _ _ _ _ _ _ _).mono ?_
  rintro e w1 ⟨rfl, h1⟩
  have e1 : Ext w w1 := ext_by
  clear h1
  go_wp2_with fail
  go_loopw [4, 5, 11] (fun p q i wr => ∃ k : Nat, k ≤ 4 ∧ i = .int .i64 k ∧ p = .int .i64 ((F k).1 : Int) ∧ q = .int .i64 (F k).2 ∧ Ext w1 wr) (fun _ _ i _ => 4 - (intOf i).toNat)
  case atStart => exact ⟨0, Nat.zero_le _, rfl, by rw [H0.out]; rfl, by rw [H0.out], Ext.refl _⟩
  case round =>
    obtain ⟨k, hk, rfl, rfl, rfl, hb⟩ := hrel
    by_cases hk4 : k < 4
    · obtain ⟨X, Y, hX, b1, b2, b3⟩ := HX.out k hk4
      have ixk := HIX.out k X Y hX
      have hn := HN.out k X Y hX
      unfold widStep at hn
      dsimp only at hn
      have Hn := Lib.hid hn
      clear hn hX
      obtain ⟨M, hM⟩ : ∃ M, (F k).2 = M := ⟨_, rfl⟩
      rw [hM] at Hn ⊢
      have HM := Lib.hid hM
      clear hM
      by_cases c1 : M < Y - X
      · have Hn2 : Hid (F (k + 1) = (k, Y - X)) := by have := Hn.out; rwa [if_pos c1] at this
        clear Hn
        go_wp2_with fail
        go_roundw
        case rel => exact ⟨k + 1, by omega, by go_num, by rw [Hn2.out], by first | (rw [Hn2.out]; done) | rw [Hn2.out, HM.out], ext_by⟩
        case measure => simp [intOf]; omega
      · have Hn2 : Hid (F (k + 1) = F k) := by have := Hn.out; rwa [if_neg c1] at this
        clear Hn
        go_wp2_with fail
        go_roundw
        case rel => exact ⟨k + 1, by omega, by go_num, by rw [Hn2.out], by first | (rw [Hn2.out]; done) | rw [Hn2.out, HM.out], ext_by⟩
        case measure => simp [intOf]; omega
    · obtain rfl : k = 4 := by omega
      go_wp2_with fail
      (try simp only [Exit.inBlock, Exit.then]); apply bodyPost_ret; (focus (simp only [results, Tryz.results89]; go_simp; try rfl)); rfl
      exact ⟨rfl, ext_by⟩
def midS (s : Sp) : Int := (s.lo + s.hi) / 2
def spL (s : Sp) : Sp := ⟨s.lo, midS s⟩
def spR (s : Sp) : Sp := ⟨midS s + 1, s.hi⟩
def cutL (b : Bx) (i : Nat) : Bx := if i = 0 then { b with x := spL b.x } else if i = 1 then { b with y := spL b.y } else if i = 2 then { b with u := spL b.u } else { b with v := spL b.v }
def cutR (b : Bx) (i : Nat) : Bx := if i = 0 then { b with x := spR b.x } else if i = 1 then { b with y := spR b.y } else if i = 2 then { b with u := spR b.u } else { b with v := spR b.v }
def partL (b : Bx) : Bx := cutL b (widB b).1
def partR (b : Bx) : Bx := cutR b (widB b).1
set_option maxRecDepth 20000 in
set_option maxHeartbeats 8000000 in
theorem oCut_0 (xl xh yl yh ul uh vl vh N : Int) (w : World) (hb : -33554432 ≤ xl ∧ xl ≤ 33554432) (hb2 : -33554432 ≤ xh ∧ xh ≤ 33554432)
    (hw : ∀ W, Calls Tryz.prog 89 #[.agg #[.int .i64 xl, .int .i64 xh, .int .i64 yl, .int .i64 yh, .int .i64 ul, .int .i64 uh, .int .i64 vl, .int .i64 vh]] W fun e w' => e = .returned (.tuple #[.int .i64 0, .int .i64 N]) ∧ Ext W w') :
    Calls Tryz.prog 90 #[.agg #[.int .i64 xl, .int .i64 xh, .int .i64 yl, .int .i64 yh, .int .i64 ul, .int .i64 uh, .int .i64 vl, .int .i64 vh]] w fun e w' => e = .returned (.tuple #[.agg #[.int .i64 xl, .int .i64 ((xl + xh) / 2), .int .i64 yl, .int .i64 yh, .int .i64 ul, .int .i64 uh, .int .i64 vl, .int .i64 vh], .agg #[.int .i64 ((xl + xh) / 2 + 1), .int .i64 xh, .int .i64 yl, .int .i64 yh, .int .i64 ul, .int .i64 uh, .int .i64 vl, .int .i64 vh]]) ∧ Ext w w' := by
  have HW := Lib.hid hw
  clear hw
  go_enter Tryz.func90, Tryz.ntmps90
  go_wp2_with fail
  refine (HW.out _).mono ?_
  rintro e w1 ⟨rfl, h1⟩
  obtain ⟨hc_w1, hf_w1, hz_w1⟩ := bcell h1; (try simp only [szA] at hz_w1); (try have := wz0 w w1); (try have := wz1 w w1); (try have := wz2 w w1); (try have := wz3 w w1); (try have := wz4 w w1)
  go_wp2_with fail
  have G1 : Blk w1 w.heap.size 38 #[.int .i64 xl, .int .i64 xh, .int .i64 yl, .int .i64 yh, .int .i64 ul, .int .i64 uh, .int .i64 vl, .int .i64 vh] := (((Blk.new w _ _).alloc _).alloc _).ext h1
  have G2 : Blk w1 (w.heap.size + 1) 38 #[.int .i64 0, .int .i64 0, .int .i64 0, .int .i64 0, .int .i64 0, .int .i64 0, .int .i64 0, .int .i64 0] := ((Blk.newAt (by simp)).alloc _).ext h1
  have G3 : Blk w1 (w.heap.size + 1 + 1) 38 #[.int .i64 0, .int .i64 0, .int .i64 0, .int .i64 0, .int .i64 0, .int .i64 0, .int .i64 0, .int .i64 0] := (Blk.newAt (by simp)).ext h1
  have GE : Ext w w1 := ext_by
  refine wp_region_gen [0, 1, 2, 3] [4, 5] [6, 7] (Ext _) (Ext _) (Stable.ext _) (fun _ h => h) (Ext.drew (Ext.refl _)) (by kernel_rfl) (by kernel_rfl) ?_; simp only [pick, List.drop_succ_cons, List.drop_zero]; (repeat' (first | (refine bl_off (by rfl) ?_; simp only [putX]) | (apply bl_op; rfl; (intro w1 h1; obtain ⟨hc, hf, hz⟩ := bcell h1; go_simp; (try go_bits); (first | exact ⟨rfl, Ext.refl _⟩ | (apply gives_call; go_at_call 88; exact oOf_c _ _ _ _ _ _ _ _ _) | (go_invoke; go_simp; apply gives_call; go_at_call 88; exact oOf_c _ _ _ _ _ _ _ _ _))); simp only [putX]) | (refine bl_split rfl rfl (fun hx => ?_) (fun hx => ?_) <;> simp only [hx]))); refine bl_nil ?_; refine ag_two (e1 := 119) (e2 := 119) (zs1 := #[.int .i64 0, .int .i64 0, .int .i64 0, .int .i64 0, .int .i64 0, .int .i64 0, .int .i64 0, .int .i64 0]) (zs2 := #[.int .i64 0, .int .i64 0, .int .i64 0, .int .i64 0, .int .i64 0, .int .i64 0, .int .i64 0, .int .i64 0]) (Stable.ext _) (fun _ h => h) (by decide) rfl rfl (fun u v => rfl) (fun v w => ⟨by simp only [opAt]; go_simp, by simp only [opAt]; go_simp⟩) (fun v w => ⟨by simp only [opAt]; go_simp, by simp only [opAt]; go_simp⟩) (fun b5 b6 hb_b5 hb_b6 hne_b5 => ?_); (try simp only [opAt]); (try simp only [Act.put, List.setIfInBounds_toArray]); refine tg_skip (fun w => Ext _ w ∧ Blk w b5 119 #[.int .i64 xl, .int .i64 xh, .int .i64 yl, .int .i64 yh, .int .i64 ul, .int .i64 uh, .int .i64 vl, .int .i64 vh] ∧ Blk w b6 119 #[.int .i64 0, .int .i64 0, .int .i64 0, .int .i64 0, .int .i64 0, .int .i64 0, .int .i64 0, .int .i64 0]) rfl rfl ((Stable.ext _).and ((Stable.blk _ _ _).and (Stable.blk _ _ _))) (fun _ h => h.1) (fun wx hx => ?_) ?_; (focus (obtain ⟨hx, hB1, hB2⟩ := hx; have hcB := hB1.cell; have hfB := hB1.frozen; have hlB := hB1.lt; exact ⟨putC b5 wx 0 [.int .i64 xl, .int .i64 xh, .int .i64 yl, .int .i64 yh, .int .i64 ul, .int .i64 uh, .int .i64 vl, .int .i64 vh], (by simp only [putC, Nat.reduceAdd]; go_simp; try rfl), Ext.putC (by omega) _ 0 hx, (Blk.putAt hB1 rfl), (Blk.putFar (by omega) _ 0 hB2)⟩)); refine tg_skip (fun w => Ext _ w ∧ Blk w b5 119 #[.int .i64 xl, .int .i64 xh, .int .i64 yl, .int .i64 yh, .int .i64 ul, .int .i64 uh, .int .i64 vl, .int .i64 vh] ∧ Blk w b6 119 #[.int .i64 xl, .int .i64 xh, .int .i64 yl, .int .i64 yh, .int .i64 ul, .int .i64 uh, .int .i64 vl, .int .i64 vh]) rfl rfl ((Stable.ext _).and ((Stable.blk _ _ _).and (Stable.blk _ _ _))) (fun _ h => h.1) (fun wx hx => ?_) ?_; (focus (obtain ⟨hx, hB1, hB2⟩ := hx; have hcB := hB2.cell; have hfB := hB2.frozen; have hlB := hB2.lt; exact ⟨putC b6 wx 0 [.int .i64 xl, .int .i64 xh, .int .i64 yl, .int .i64 yh, .int .i64 ul, .int .i64 uh, .int .i64 vl, .int .i64 vh], (by simp only [putC, Nat.reduceAdd]; go_simp; try rfl), Ext.putC (by omega) _ 0 hx, (Blk.putFar (by omega) _ 0 hB1), (Blk.putAt hB2 rfl)⟩)); refine tg_nil ?_; rintro w2 ⟨hE_w2, hB_b5, hB_b6⟩
  simp only [Array.getD_eq_getD_getElem?, List.getElem?_toArray, List.getElem?_cons_succ, List.getElem?_cons_zero, Option.getD_some, List.setIfInBounds_toArray, List.set_cons_zero, List.set_cons_succ]
  replace G2 := G2.ext hE_w2
  replace G3 := G3.ext hE_w2
  replace GE := GE.trans hE_w2
  have o1 : w.heap.size + 1 + 1 < b5 := by omega
  have o2 : w.heap.size + 1 + 1 < b6 := by omega
  clear hE_w2 h1 hc_w1 hf_w1 hz_w1 hb_b5 hb_b6 G1
  have c_hB_b5 := hB_b5.cell; have f_hB_b5 := hB_b5.frozen; have l_hB_b5 := hB_b5.lt; have c_hB_b6 := hB_b6.cell; have f_hB_b6 := hB_b6.frozen; have l_hB_b6 := hB_b6.lt
  go_wp2_with fail
  refine wp_region_text (by kernel_rfl) (by kernel_rfl) ?_
  (repeat' (first | (refine bl_off (by rfl) ?_; simp only [putX]) | (apply bl_op; rfl; (intro w1 h1; obtain ⟨hc, hf, hz⟩ := bcell h1; go_simp; (try go_bits); (first | exact ⟨rfl, Ext.refl _⟩)); simp only [putX]) | (refine bl_split rfl rfl (fun hx => ?_) (fun hx => ?_) <;> simp only [hx])))
  refine bl_nil ?_
  intro w3 h3
  obtain ⟨hc_w3, hf_w3, hz_w3⟩ := bcell h3; (try simp only [szA] at hz_w3); (try have := wz0 w w3); (try have := wz1 w w3); (try have := wz2 w w3); (try have := wz3 w w3); (try have := wz4 w w3)
  go_wp2_with fail
  refine name_world _ ?_
  intro W5 hW5
  have P5 : Blk W5 b5 119 #[.int .i64 xl, .int .i64 ((xl + xh) / 2), .int .i64 yl, .int .i64 yh, .int .i64 ul, .int .i64 uh, .int .i64 vl, .int .i64 vh] := by rw [hW5]; exact ((hB_b5.ext h3).set_ 1 _).far (by dsimp only; omega) _
  have P6 : Blk W5 b6 119 #[.int .i64 ((xl + xh) / 2 + 1), .int .i64 xh, .int .i64 yl, .int .i64 yh, .int .i64 ul, .int .i64 uh, .int .i64 vl, .int .i64 vh] := by rw [hW5]; exact ((hB_b6.ext h3).far (by dsimp only; omega) _).set_ 0 _
  have P2 : Blk W5 (w.heap.size + 1) 38 #[.int .i64 0, .int .i64 0, .int .i64 0, .int .i64 0, .int .i64 0, .int .i64 0, .int .i64 0, .int .i64 0] := by rw [hW5]; exact ((G2.ext h3).far (by dsimp only; omega) _).far (by dsimp only; omega) _
  have P3 : Blk W5 (w.heap.size + 1 + 1) 38 #[.int .i64 0, .int .i64 0, .int .i64 0, .int .i64 0, .int .i64 0, .int .i64 0, .int .i64 0, .int .i64 0] := by rw [hW5]; exact ((G3.ext h3).far (by dsimp only; omega) _).far (by dsimp only; omega) _
  have PE : Ext w W5 := by rw [hW5]; exact Ext.set (Ext.set (GE.trans h3) (by dsimp only; omega) _) (by dsimp only; omega) _
  clear c_hB_b5 f_hB_b5 l_hB_b5 c_hB_b6 f_hB_b6 l_hB_b6 hW5 hB_b5 hB_b6 G2 G3 GE h3 hc_w3 hf_w3 hz_w3
  obtain ⟨m, hm⟩ : ∃ m, (xl + xh) / 2 = m := ⟨_, rfl⟩
  rw [hm] at P5 P6
  have HM := Lib.hid hm
  clear hm
  have c_P5 := P5.cell; have f_P5 := P5.frozen; have l_P5 := P5.lt; have c_P6 := P6.cell; have f_P6 := P6.frozen; have l_P6 := P6.lt
  refine wp_region_forced 4 (Ext _) (Stable.ext _) (Ext.drew (Ext.refl _)) (by kernel_rfl) (by kernel_rfl) ?_
  simp only [List.take_succ_cons, List.take_zero, List.drop_succ_cons, List.drop_zero]
  (repeat' (first | (refine bl_off (by rfl) ?_; simp only [putX]) | (apply bl_op; rfl; (intro w1 h1; obtain ⟨hc, hf, hz⟩ := bcell h1; go_simp; (try go_bits); (first | exact ⟨rfl, Ext.refl _⟩ | (apply gives_call; first | (go_at_call 130; exact oBox_c _ _ _ _ _ _ _ _ _)) | (go_invoke; go_simp; apply gives_call; first | (go_at_call 130; exact oBox_c _ _ _ _ _ _ _ _ _)))); simp only [putX]) | (refine bl_split rfl rfl (fun hx => ?_) (fun hx => ?_) <;> simp only [hx])))
  refine bl_nil ?_
  intro W6 h6
  replace P2 := P2.ext h6
  replace P3 := P3.ext h6
  replace PE := PE.trans h6
  clear c_P5 f_P5 l_P5 c_P6 f_P6 l_P6 P5 P6 h6
  have c_P2 := P2.cell; have f_P2 := P2.frozen; have l_P2 := P2.lt; have c_P3 := P3.cell; have f_P3 := P3.frozen; have l_P3 := P3.lt
  (try dsimp only); repeat' (first | go_values | go_skip | go_guarded | go_step | go_upon | go_in | go_at_K)
  refine name_world _ ?_
  intro W9 hW9
  have Q2 : Blk W9 (w.heap.size + 1) 38 #[.int .i64 xl, .int .i64 m, .int .i64 yl, .int .i64 yh, .int .i64 ul, .int .i64 uh, .int .i64 vl, .int .i64 vh] := by rw [hW9]; exact blk_far2 (blk_far2 (blk_far2 (blk_far2 (blk_set2 (blk_set2 (blk_set2 (blk_set2 P2 rfl) rfl) rfl) rfl) (by omega)) (by omega)) (by omega)) (by omega)
  have Q3 : Blk W9 (w.heap.size + 1 + 1) 38 #[.int .i64 (m + 1), .int .i64 xh, .int .i64 yl, .int .i64 yh, .int .i64 ul, .int .i64 uh, .int .i64 vl, .int .i64 vh] := by rw [hW9]; exact blk_set2 (blk_set2 (blk_set2 (blk_set2 (blk_far2 (blk_far2 (blk_far2 (blk_far2 P3 (by omega)) (by omega)) (by omega)) (by omega)) rfl) rfl) rfl) rfl
  have QE : Ext w W9 := by rw [hW9]; exact ext_set2 (ext_set2 (ext_set2 (ext_set2 (ext_set2 (ext_set2 (ext_set2 (ext_set2 PE (by omega)) (by omega)) (by omega)) (by omega)) (by omega)) (by omega)) (by omega)) (by omega)
  clear hW9
  have c_Q2 := Q2.cell; have f_Q2 := Q2.frozen; have l_Q2 := Q2.lt; have c_Q3 := Q3.cell; have f_Q3 := Q3.frozen; have l_Q3 := Q3.lt
  (try simp only [Exit.inBlock, Exit.then]); apply bodyPost_ret; (focus (simp only [results, Tryz.results90]; go_simp; try rfl)); rfl
  rw [HM.out]
  exact ⟨rfl, QE⟩
set_option maxRecDepth 20000 in
set_option maxHeartbeats 8000000 in
theorem oCut_1 (xl xh yl yh ul uh vl vh N : Int) (w : World) (hb : -33554432 ≤ yl ∧ yl ≤ 33554432) (hb2 : -33554432 ≤ yh ∧ yh ≤ 33554432)
    (hw : ∀ W, Calls Tryz.prog 89 #[.agg #[.int .i64 xl, .int .i64 xh, .int .i64 yl, .int .i64 yh, .int .i64 ul, .int .i64 uh, .int .i64 vl, .int .i64 vh]] W fun e w' => e = .returned (.tuple #[.int .i64 1, .int .i64 N]) ∧ Ext W w') :
    Calls Tryz.prog 90 #[.agg #[.int .i64 xl, .int .i64 xh, .int .i64 yl, .int .i64 yh, .int .i64 ul, .int .i64 uh, .int .i64 vl, .int .i64 vh]] w fun e w' => e = .returned (.tuple #[.agg #[.int .i64 xl, .int .i64 xh, .int .i64 yl, .int .i64 ((yl + yh) / 2), .int .i64 ul, .int .i64 uh, .int .i64 vl, .int .i64 vh], .agg #[.int .i64 xl, .int .i64 xh, .int .i64 ((yl + yh) / 2 + 1), .int .i64 yh, .int .i64 ul, .int .i64 uh, .int .i64 vl, .int .i64 vh]]) ∧ Ext w w' := by
  have HW := Lib.hid hw
  clear hw
  go_enter Tryz.func90, Tryz.ntmps90
  go_wp2_with fail
  refine (HW.out _).mono ?_
  rintro e w1 ⟨rfl, h1⟩
  obtain ⟨hc_w1, hf_w1, hz_w1⟩ := bcell h1; (try simp only [szA] at hz_w1); (try have := wz0 w w1); (try have := wz1 w w1); (try have := wz2 w w1); (try have := wz3 w w1); (try have := wz4 w w1)
  go_wp2_with fail
  have G1 : Blk w1 w.heap.size 38 #[.int .i64 xl, .int .i64 xh, .int .i64 yl, .int .i64 yh, .int .i64 ul, .int .i64 uh, .int .i64 vl, .int .i64 vh] := (((Blk.new w _ _).alloc _).alloc _).ext h1
  have G2 : Blk w1 (w.heap.size + 1) 38 #[.int .i64 0, .int .i64 0, .int .i64 0, .int .i64 0, .int .i64 0, .int .i64 0, .int .i64 0, .int .i64 0] := ((Blk.newAt (by simp)).alloc _).ext h1
  have G3 : Blk w1 (w.heap.size + 1 + 1) 38 #[.int .i64 0, .int .i64 0, .int .i64 0, .int .i64 0, .int .i64 0, .int .i64 0, .int .i64 0, .int .i64 0] := (Blk.newAt (by simp)).ext h1
  have GE : Ext w w1 := ext_by
  refine wp_region_gen [0, 1, 2, 3] [4, 5] [6, 7] (Ext _) (Ext _) (Stable.ext _) (fun _ h => h) (Ext.drew (Ext.refl _)) (by kernel_rfl) (by kernel_rfl) ?_; simp only [pick, List.drop_succ_cons, List.drop_zero]; (repeat' (first | (refine bl_off (by rfl) ?_; simp only [putX]) | (apply bl_op; rfl; (intro w1 h1; obtain ⟨hc, hf, hz⟩ := bcell h1; go_simp; (try go_bits); (first | exact ⟨rfl, Ext.refl _⟩ | (apply gives_call; go_at_call 88; exact oOf_c _ _ _ _ _ _ _ _ _) | (go_invoke; go_simp; apply gives_call; go_at_call 88; exact oOf_c _ _ _ _ _ _ _ _ _))); simp only [putX]) | (refine bl_split rfl rfl (fun hx => ?_) (fun hx => ?_) <;> simp only [hx]))); refine bl_nil ?_; refine ag_two (e1 := 119) (e2 := 119) (zs1 := #[.int .i64 0, .int .i64 0, .int .i64 0, .int .i64 0, .int .i64 0, .int .i64 0, .int .i64 0, .int .i64 0]) (zs2 := #[.int .i64 0, .int .i64 0, .int .i64 0, .int .i64 0, .int .i64 0, .int .i64 0, .int .i64 0, .int .i64 0]) (Stable.ext _) (fun _ h => h) (by decide) rfl rfl (fun u v => rfl) (fun v w => ⟨by simp only [opAt]; go_simp, by simp only [opAt]; go_simp⟩) (fun v w => ⟨by simp only [opAt]; go_simp, by simp only [opAt]; go_simp⟩) (fun b5 b6 hb_b5 hb_b6 hne_b5 => ?_); (try simp only [opAt]); (try simp only [Act.put, List.setIfInBounds_toArray]); refine tg_skip (fun w => Ext _ w ∧ Blk w b5 119 #[.int .i64 xl, .int .i64 xh, .int .i64 yl, .int .i64 yh, .int .i64 ul, .int .i64 uh, .int .i64 vl, .int .i64 vh] ∧ Blk w b6 119 #[.int .i64 0, .int .i64 0, .int .i64 0, .int .i64 0, .int .i64 0, .int .i64 0, .int .i64 0, .int .i64 0]) rfl rfl ((Stable.ext _).and ((Stable.blk _ _ _).and (Stable.blk _ _ _))) (fun _ h => h.1) (fun wx hx => ?_) ?_; (focus (obtain ⟨hx, hB1, hB2⟩ := hx; have hcB := hB1.cell; have hfB := hB1.frozen; have hlB := hB1.lt; exact ⟨putC b5 wx 0 [.int .i64 xl, .int .i64 xh, .int .i64 yl, .int .i64 yh, .int .i64 ul, .int .i64 uh, .int .i64 vl, .int .i64 vh], (by simp only [putC, Nat.reduceAdd]; go_simp; try rfl), Ext.putC (by omega) _ 0 hx, (Blk.putAt hB1 rfl), (Blk.putFar (by omega) _ 0 hB2)⟩)); refine tg_skip (fun w => Ext _ w ∧ Blk w b5 119 #[.int .i64 xl, .int .i64 xh, .int .i64 yl, .int .i64 yh, .int .i64 ul, .int .i64 uh, .int .i64 vl, .int .i64 vh] ∧ Blk w b6 119 #[.int .i64 xl, .int .i64 xh, .int .i64 yl, .int .i64 yh, .int .i64 ul, .int .i64 uh, .int .i64 vl, .int .i64 vh]) rfl rfl ((Stable.ext _).and ((Stable.blk _ _ _).and (Stable.blk _ _ _))) (fun _ h => h.1) (fun wx hx => ?_) ?_; (focus (obtain ⟨hx, hB1, hB2⟩ := hx; have hcB := hB2.cell; have hfB := hB2.frozen; have hlB := hB2.lt; exact ⟨putC b6 wx 0 [.int .i64 xl, .int .i64 xh, .int .i64 yl, .int .i64 yh, .int .i64 ul, .int .i64 uh, .int .i64 vl, .int .i64 vh], (by simp only [putC, Nat.reduceAdd]; go_simp; try rfl), Ext.putC (by omega) _ 0 hx, (Blk.putFar (by omega) _ 0 hB1), (Blk.putAt hB2 rfl)⟩)); refine tg_nil ?_; rintro w2 ⟨hE_w2, hB_b5, hB_b6⟩
  simp only [Array.getD_eq_getD_getElem?, List.getElem?_toArray, List.getElem?_cons_succ, List.getElem?_cons_zero, Option.getD_some, List.setIfInBounds_toArray, List.set_cons_zero, List.set_cons_succ]
  replace G2 := G2.ext hE_w2
  replace G3 := G3.ext hE_w2
  replace GE := GE.trans hE_w2
  have o1 : w.heap.size + 1 + 1 < b5 := by omega
  have o2 : w.heap.size + 1 + 1 < b6 := by omega
  clear hE_w2 h1 hc_w1 hf_w1 hz_w1 hb_b5 hb_b6 G1
  have c_hB_b5 := hB_b5.cell; have f_hB_b5 := hB_b5.frozen; have l_hB_b5 := hB_b5.lt; have c_hB_b6 := hB_b6.cell; have f_hB_b6 := hB_b6.frozen; have l_hB_b6 := hB_b6.lt
  go_wp2_with fail
  refine wp_region_text (by kernel_rfl) (by kernel_rfl) ?_
  (repeat' (first | (refine bl_off (by rfl) ?_; simp only [putX]) | (apply bl_op; rfl; (intro w1 h1; obtain ⟨hc, hf, hz⟩ := bcell h1; go_simp; (try go_bits); (first | exact ⟨rfl, Ext.refl _⟩)); simp only [putX]) | (refine bl_split rfl rfl (fun hx => ?_) (fun hx => ?_) <;> simp only [hx])))
  refine bl_nil ?_
  intro w3 h3
  obtain ⟨hc_w3, hf_w3, hz_w3⟩ := bcell h3; (try simp only [szA] at hz_w3); (try have := wz0 w w3); (try have := wz1 w w3); (try have := wz2 w w3); (try have := wz3 w w3); (try have := wz4 w w3)
  go_wp2_with fail
  refine name_world _ ?_
  intro W5 hW5
  have P5 : Blk W5 b5 119 #[.int .i64 xl, .int .i64 xh, .int .i64 yl, .int .i64 ((yl + yh) / 2), .int .i64 ul, .int .i64 uh, .int .i64 vl, .int .i64 vh] := by rw [hW5]; exact ((hB_b5.ext h3).set_ 3 _).far (by dsimp only; omega) _
  have P6 : Blk W5 b6 119 #[.int .i64 xl, .int .i64 xh, .int .i64 ((yl + yh) / 2 + 1), .int .i64 yh, .int .i64 ul, .int .i64 uh, .int .i64 vl, .int .i64 vh] := by rw [hW5]; exact ((hB_b6.ext h3).far (by dsimp only; omega) _).set_ 2 _
  have P2 : Blk W5 (w.heap.size + 1) 38 #[.int .i64 0, .int .i64 0, .int .i64 0, .int .i64 0, .int .i64 0, .int .i64 0, .int .i64 0, .int .i64 0] := by rw [hW5]; exact ((G2.ext h3).far (by dsimp only; omega) _).far (by dsimp only; omega) _
  have P3 : Blk W5 (w.heap.size + 1 + 1) 38 #[.int .i64 0, .int .i64 0, .int .i64 0, .int .i64 0, .int .i64 0, .int .i64 0, .int .i64 0, .int .i64 0] := by rw [hW5]; exact ((G3.ext h3).far (by dsimp only; omega) _).far (by dsimp only; omega) _
  have PE : Ext w W5 := by rw [hW5]; exact Ext.set (Ext.set (GE.trans h3) (by dsimp only; omega) _) (by dsimp only; omega) _
  clear c_hB_b5 f_hB_b5 l_hB_b5 c_hB_b6 f_hB_b6 l_hB_b6 hW5 hB_b5 hB_b6 G2 G3 GE h3 hc_w3 hf_w3 hz_w3
  obtain ⟨m, hm⟩ : ∃ m, (yl + yh) / 2 = m := ⟨_, rfl⟩
  rw [hm] at P5 P6
  have HM := Lib.hid hm
  clear hm
  have c_P5 := P5.cell; have f_P5 := P5.frozen; have l_P5 := P5.lt; have c_P6 := P6.cell; have f_P6 := P6.frozen; have l_P6 := P6.lt
  refine wp_region_forced 4 (Ext _) (Stable.ext _) (Ext.drew (Ext.refl _)) (by kernel_rfl) (by kernel_rfl) ?_
  simp only [List.take_succ_cons, List.take_zero, List.drop_succ_cons, List.drop_zero]
  (repeat' (first | (refine bl_off (by rfl) ?_; simp only [putX]) | (apply bl_op; rfl; (intro w1 h1; obtain ⟨hc, hf, hz⟩ := bcell h1; go_simp; (try go_bits); (first | exact ⟨rfl, Ext.refl _⟩ | (apply gives_call; first | (go_at_call 130; exact oBox_c _ _ _ _ _ _ _ _ _)) | (go_invoke; go_simp; apply gives_call; first | (go_at_call 130; exact oBox_c _ _ _ _ _ _ _ _ _)))); simp only [putX]) | (refine bl_split rfl rfl (fun hx => ?_) (fun hx => ?_) <;> simp only [hx])))
  refine bl_nil ?_
  intro W6 h6
  replace P2 := P2.ext h6
  replace P3 := P3.ext h6
  replace PE := PE.trans h6
  clear c_P5 f_P5 l_P5 c_P6 f_P6 l_P6 P5 P6 h6
  have c_P2 := P2.cell; have f_P2 := P2.frozen; have l_P2 := P2.lt; have c_P3 := P3.cell; have f_P3 := P3.frozen; have l_P3 := P3.lt
  (try dsimp only); repeat' (first | go_values | go_skip | go_guarded | go_step | go_upon | go_in | go_at_K)
  refine name_world _ ?_
  intro W9 hW9
  have Q2 : Blk W9 (w.heap.size + 1) 38 #[.int .i64 xl, .int .i64 xh, .int .i64 yl, .int .i64 m, .int .i64 ul, .int .i64 uh, .int .i64 vl, .int .i64 vh] := by rw [hW9]; exact blk_far2 (blk_far2 (blk_far2 (blk_far2 (blk_set2 (blk_set2 (blk_set2 (blk_set2 P2 rfl) rfl) rfl) rfl) (by omega)) (by omega)) (by omega)) (by omega)
  have Q3 : Blk W9 (w.heap.size + 1 + 1) 38 #[.int .i64 xl, .int .i64 xh, .int .i64 (m + 1), .int .i64 yh, .int .i64 ul, .int .i64 uh, .int .i64 vl, .int .i64 vh] := by rw [hW9]; exact blk_set2 (blk_set2 (blk_set2 (blk_set2 (blk_far2 (blk_far2 (blk_far2 (blk_far2 P3 (by omega)) (by omega)) (by omega)) (by omega)) rfl) rfl) rfl) rfl
  have QE : Ext w W9 := by rw [hW9]; exact ext_set2 (ext_set2 (ext_set2 (ext_set2 (ext_set2 (ext_set2 (ext_set2 (ext_set2 PE (by omega)) (by omega)) (by omega)) (by omega)) (by omega)) (by omega)) (by omega)) (by omega)
  clear hW9
  have c_Q2 := Q2.cell; have f_Q2 := Q2.frozen; have l_Q2 := Q2.lt; have c_Q3 := Q3.cell; have f_Q3 := Q3.frozen; have l_Q3 := Q3.lt
  (try simp only [Exit.inBlock, Exit.then]); apply bodyPost_ret; (focus (simp only [results, Tryz.results90]; go_simp; try rfl)); rfl
  rw [HM.out]
  exact ⟨rfl, QE⟩
set_option maxRecDepth 20000 in
set_option maxHeartbeats 8000000 in
theorem oCut_2 (xl xh yl yh ul uh vl vh N : Int) (w : World) (hb : -33554432 ≤ ul ∧ ul ≤ 33554432) (hb2 : -33554432 ≤ uh ∧ uh ≤ 33554432)
    (hw : ∀ W, Calls Tryz.prog 89 #[.agg #[.int .i64 xl, .int .i64 xh, .int .i64 yl, .int .i64 yh, .int .i64 ul, .int .i64 uh, .int .i64 vl, .int .i64 vh]] W fun e w' => e = .returned (.tuple #[.int .i64 2, .int .i64 N]) ∧ Ext W w') :
    Calls Tryz.prog 90 #[.agg #[.int .i64 xl, .int .i64 xh, .int .i64 yl, .int .i64 yh, .int .i64 ul, .int .i64 uh, .int .i64 vl, .int .i64 vh]] w fun e w' => e = .returned (.tuple #[.agg #[.int .i64 xl, .int .i64 xh, .int .i64 yl, .int .i64 yh, .int .i64 ul, .int .i64 ((ul + uh) / 2), .int .i64 vl, .int .i64 vh], .agg #[.int .i64 xl, .int .i64 xh, .int .i64 yl, .int .i64 yh, .int .i64 ((ul + uh) / 2 + 1), .int .i64 uh, .int .i64 vl, .int .i64 vh]]) ∧ Ext w w' := by
  have HW := Lib.hid hw
  clear hw
  go_enter Tryz.func90, Tryz.ntmps90
  go_wp2_with fail
  refine (HW.out _).mono ?_
  rintro e w1 ⟨rfl, h1⟩
  obtain ⟨hc_w1, hf_w1, hz_w1⟩ := bcell h1; (try simp only [szA] at hz_w1); (try have := wz0 w w1); (try have := wz1 w w1); (try have := wz2 w w1); (try have := wz3 w w1); (try have := wz4 w w1)
  go_wp2_with fail
  have G1 : Blk w1 w.heap.size 38 #[.int .i64 xl, .int .i64 xh, .int .i64 yl, .int .i64 yh, .int .i64 ul, .int .i64 uh, .int .i64 vl, .int .i64 vh] := (((Blk.new w _ _).alloc _).alloc _).ext h1
  have G2 : Blk w1 (w.heap.size + 1) 38 #[.int .i64 0, .int .i64 0, .int .i64 0, .int .i64 0, .int .i64 0, .int .i64 0, .int .i64 0, .int .i64 0] := ((Blk.newAt (by simp)).alloc _).ext h1
  have G3 : Blk w1 (w.heap.size + 1 + 1) 38 #[.int .i64 0, .int .i64 0, .int .i64 0, .int .i64 0, .int .i64 0, .int .i64 0, .int .i64 0, .int .i64 0] := (Blk.newAt (by simp)).ext h1
  have GE : Ext w w1 := ext_by
  refine wp_region_gen [0, 1, 2, 3] [4, 5] [6, 7] (Ext _) (Ext _) (Stable.ext _) (fun _ h => h) (Ext.drew (Ext.refl _)) (by kernel_rfl) (by kernel_rfl) ?_; simp only [pick, List.drop_succ_cons, List.drop_zero]; (repeat' (first | (refine bl_off (by rfl) ?_; simp only [putX]) | (apply bl_op; rfl; (intro w1 h1; obtain ⟨hc, hf, hz⟩ := bcell h1; go_simp; (try go_bits); (first | exact ⟨rfl, Ext.refl _⟩ | (apply gives_call; go_at_call 88; exact oOf_c _ _ _ _ _ _ _ _ _) | (go_invoke; go_simp; apply gives_call; go_at_call 88; exact oOf_c _ _ _ _ _ _ _ _ _))); simp only [putX]) | (refine bl_split rfl rfl (fun hx => ?_) (fun hx => ?_) <;> simp only [hx]))); refine bl_nil ?_; refine ag_two (e1 := 119) (e2 := 119) (zs1 := #[.int .i64 0, .int .i64 0, .int .i64 0, .int .i64 0, .int .i64 0, .int .i64 0, .int .i64 0, .int .i64 0]) (zs2 := #[.int .i64 0, .int .i64 0, .int .i64 0, .int .i64 0, .int .i64 0, .int .i64 0, .int .i64 0, .int .i64 0]) (Stable.ext _) (fun _ h => h) (by decide) rfl rfl (fun u v => rfl) (fun v w => ⟨by simp only [opAt]; go_simp, by simp only [opAt]; go_simp⟩) (fun v w => ⟨by simp only [opAt]; go_simp, by simp only [opAt]; go_simp⟩) (fun b5 b6 hb_b5 hb_b6 hne_b5 => ?_); (try simp only [opAt]); (try simp only [Act.put, List.setIfInBounds_toArray]); refine tg_skip (fun w => Ext _ w ∧ Blk w b5 119 #[.int .i64 xl, .int .i64 xh, .int .i64 yl, .int .i64 yh, .int .i64 ul, .int .i64 uh, .int .i64 vl, .int .i64 vh] ∧ Blk w b6 119 #[.int .i64 0, .int .i64 0, .int .i64 0, .int .i64 0, .int .i64 0, .int .i64 0, .int .i64 0, .int .i64 0]) rfl rfl ((Stable.ext _).and ((Stable.blk _ _ _).and (Stable.blk _ _ _))) (fun _ h => h.1) (fun wx hx => ?_) ?_; (focus (obtain ⟨hx, hB1, hB2⟩ := hx; have hcB := hB1.cell; have hfB := hB1.frozen; have hlB := hB1.lt; exact ⟨putC b5 wx 0 [.int .i64 xl, .int .i64 xh, .int .i64 yl, .int .i64 yh, .int .i64 ul, .int .i64 uh, .int .i64 vl, .int .i64 vh], (by simp only [putC, Nat.reduceAdd]; go_simp; try rfl), Ext.putC (by omega) _ 0 hx, (Blk.putAt hB1 rfl), (Blk.putFar (by omega) _ 0 hB2)⟩)); refine tg_skip (fun w => Ext _ w ∧ Blk w b5 119 #[.int .i64 xl, .int .i64 xh, .int .i64 yl, .int .i64 yh, .int .i64 ul, .int .i64 uh, .int .i64 vl, .int .i64 vh] ∧ Blk w b6 119 #[.int .i64 xl, .int .i64 xh, .int .i64 yl, .int .i64 yh, .int .i64 ul, .int .i64 uh, .int .i64 vl, .int .i64 vh]) rfl rfl ((Stable.ext _).and ((Stable.blk _ _ _).and (Stable.blk _ _ _))) (fun _ h => h.1) (fun wx hx => ?_) ?_; (focus (obtain ⟨hx, hB1, hB2⟩ := hx; have hcB := hB2.cell; have hfB := hB2.frozen; have hlB := hB2.lt; exact ⟨putC b6 wx 0 [.int .i64 xl, .int .i64 xh, .int .i64 yl, .int .i64 yh, .int .i64 ul, .int .i64 uh, .int .i64 vl, .int .i64 vh], (by simp only [putC, Nat.reduceAdd]; go_simp; try rfl), Ext.putC (by omega) _ 0 hx, (Blk.putFar (by omega) _ 0 hB1), (Blk.putAt hB2 rfl)⟩)); refine tg_nil ?_; rintro w2 ⟨hE_w2, hB_b5, hB_b6⟩
  simp only [Array.getD_eq_getD_getElem?, List.getElem?_toArray, List.getElem?_cons_succ, List.getElem?_cons_zero, Option.getD_some, List.setIfInBounds_toArray, List.set_cons_zero, List.set_cons_succ]
  replace G2 := G2.ext hE_w2
  replace G3 := G3.ext hE_w2
  replace GE := GE.trans hE_w2
  have o1 : w.heap.size + 1 + 1 < b5 := by omega
  have o2 : w.heap.size + 1 + 1 < b6 := by omega
  clear hE_w2 h1 hc_w1 hf_w1 hz_w1 hb_b5 hb_b6 G1
  have c_hB_b5 := hB_b5.cell; have f_hB_b5 := hB_b5.frozen; have l_hB_b5 := hB_b5.lt; have c_hB_b6 := hB_b6.cell; have f_hB_b6 := hB_b6.frozen; have l_hB_b6 := hB_b6.lt
  go_wp2_with fail
  refine wp_region_text (by kernel_rfl) (by kernel_rfl) ?_
  (repeat' (first | (refine bl_off (by rfl) ?_; simp only [putX]) | (apply bl_op; rfl; (intro w1 h1; obtain ⟨hc, hf, hz⟩ := bcell h1; go_simp; (try go_bits); (first | exact ⟨rfl, Ext.refl _⟩)); simp only [putX]) | (refine bl_split rfl rfl (fun hx => ?_) (fun hx => ?_) <;> simp only [hx])))
  refine bl_nil ?_
  intro w3 h3
  obtain ⟨hc_w3, hf_w3, hz_w3⟩ := bcell h3; (try simp only [szA] at hz_w3); (try have := wz0 w w3); (try have := wz1 w w3); (try have := wz2 w w3); (try have := wz3 w w3); (try have := wz4 w w3)
  go_wp2_with fail
  refine name_world _ ?_
  intro W5 hW5
  have P5 : Blk W5 b5 119 #[.int .i64 xl, .int .i64 xh, .int .i64 yl, .int .i64 yh, .int .i64 ul, .int .i64 ((ul + uh) / 2), .int .i64 vl, .int .i64 vh] := by rw [hW5]; exact ((hB_b5.ext h3).set_ 5 _).far (by dsimp only; omega) _
  have P6 : Blk W5 b6 119 #[.int .i64 xl, .int .i64 xh, .int .i64 yl, .int .i64 yh, .int .i64 ((ul + uh) / 2 + 1), .int .i64 uh, .int .i64 vl, .int .i64 vh] := by rw [hW5]; exact ((hB_b6.ext h3).far (by dsimp only; omega) _).set_ 4 _
  have P2 : Blk W5 (w.heap.size + 1) 38 #[.int .i64 0, .int .i64 0, .int .i64 0, .int .i64 0, .int .i64 0, .int .i64 0, .int .i64 0, .int .i64 0] := by rw [hW5]; exact ((G2.ext h3).far (by dsimp only; omega) _).far (by dsimp only; omega) _
  have P3 : Blk W5 (w.heap.size + 1 + 1) 38 #[.int .i64 0, .int .i64 0, .int .i64 0, .int .i64 0, .int .i64 0, .int .i64 0, .int .i64 0, .int .i64 0] := by rw [hW5]; exact ((G3.ext h3).far (by dsimp only; omega) _).far (by dsimp only; omega) _
  have PE : Ext w W5 := by rw [hW5]; exact Ext.set (Ext.set (GE.trans h3) (by dsimp only; omega) _) (by dsimp only; omega) _
  clear c_hB_b5 f_hB_b5 l_hB_b5 c_hB_b6 f_hB_b6 l_hB_b6 hW5 hB_b5 hB_b6 G2 G3 GE h3 hc_w3 hf_w3 hz_w3
  obtain ⟨m, hm⟩ : ∃ m, (ul + uh) / 2 = m := ⟨_, rfl⟩
  rw [hm] at P5 P6
  have HM := Lib.hid hm
  clear hm
  have c_P5 := P5.cell; have f_P5 := P5.frozen; have l_P5 := P5.lt; have c_P6 := P6.cell; have f_P6 := P6.frozen; have l_P6 := P6.lt
  refine wp_region_forced 4 (Ext _) (Stable.ext _) (Ext.drew (Ext.refl _)) (by kernel_rfl) (by kernel_rfl) ?_
  simp only [List.take_succ_cons, List.take_zero, List.drop_succ_cons, List.drop_zero]
  (repeat' (first | (refine bl_off (by rfl) ?_; simp only [putX]) | (apply bl_op; rfl; (intro w1 h1; obtain ⟨hc, hf, hz⟩ := bcell h1; go_simp; (try go_bits); (first | exact ⟨rfl, Ext.refl _⟩ | (apply gives_call; first | (go_at_call 130; exact oBox_c _ _ _ _ _ _ _ _ _)) | (go_invoke; go_simp; apply gives_call; first | (go_at_call 130; exact oBox_c _ _ _ _ _ _ _ _ _)))); simp only [putX]) | (refine bl_split rfl rfl (fun hx => ?_) (fun hx => ?_) <;> simp only [hx])))
  refine bl_nil ?_
  intro W6 h6
  replace P2 := P2.ext h6
  replace P3 := P3.ext h6
  replace PE := PE.trans h6
  clear c_P5 f_P5 l_P5 c_P6 f_P6 l_P6 P5 P6 h6
  have c_P2 := P2.cell; have f_P2 := P2.frozen; have l_P2 := P2.lt; have c_P3 := P3.cell; have f_P3 := P3.frozen; have l_P3 := P3.lt
  (try dsimp only); repeat' (first | go_values | go_skip | go_guarded | go_step | go_upon | go_in | go_at_K)
  refine name_world _ ?_
  intro W9 hW9
  have Q2 : Blk W9 (w.heap.size + 1) 38 #[.int .i64 xl, .int .i64 xh, .int .i64 yl, .int .i64 yh, .int .i64 ul, .int .i64 m, .int .i64 vl, .int .i64 vh] := by rw [hW9]; exact blk_far2 (blk_far2 (blk_far2 (blk_far2 (blk_set2 (blk_set2 (blk_set2 (blk_set2 P2 rfl) rfl) rfl) rfl) (by omega)) (by omega)) (by omega)) (by omega)
  have Q3 : Blk W9 (w.heap.size + 1 + 1) 38 #[.int .i64 xl, .int .i64 xh, .int .i64 yl, .int .i64 yh, .int .i64 (m + 1), .int .i64 uh, .int .i64 vl, .int .i64 vh] := by rw [hW9]; exact blk_set2 (blk_set2 (blk_set2 (blk_set2 (blk_far2 (blk_far2 (blk_far2 (blk_far2 P3 (by omega)) (by omega)) (by omega)) (by omega)) rfl) rfl) rfl) rfl
  have QE : Ext w W9 := by rw [hW9]; exact ext_set2 (ext_set2 (ext_set2 (ext_set2 (ext_set2 (ext_set2 (ext_set2 (ext_set2 PE (by omega)) (by omega)) (by omega)) (by omega)) (by omega)) (by omega)) (by omega)) (by omega)
  clear hW9
  have c_Q2 := Q2.cell; have f_Q2 := Q2.frozen; have l_Q2 := Q2.lt; have c_Q3 := Q3.cell; have f_Q3 := Q3.frozen; have l_Q3 := Q3.lt
  (try simp only [Exit.inBlock, Exit.then]); apply bodyPost_ret; (focus (simp only [results, Tryz.results90]; go_simp; try rfl)); rfl
  rw [HM.out]
  exact ⟨rfl, QE⟩
set_option maxRecDepth 20000 in
set_option maxHeartbeats 8000000 in
theorem oCut_3 (xl xh yl yh ul uh vl vh N : Int) (w : World) (hb : -33554432 ≤ vl ∧ vl ≤ 33554432) (hb2 : -33554432 ≤ vh ∧ vh ≤ 33554432)
    (hw : ∀ W, Calls Tryz.prog 89 #[.agg #[.int .i64 xl, .int .i64 xh, .int .i64 yl, .int .i64 yh, .int .i64 ul, .int .i64 uh, .int .i64 vl, .int .i64 vh]] W fun e w' => e = .returned (.tuple #[.int .i64 3, .int .i64 N]) ∧ Ext W w') :
    Calls Tryz.prog 90 #[.agg #[.int .i64 xl, .int .i64 xh, .int .i64 yl, .int .i64 yh, .int .i64 ul, .int .i64 uh, .int .i64 vl, .int .i64 vh]] w fun e w' => e = .returned (.tuple #[.agg #[.int .i64 xl, .int .i64 xh, .int .i64 yl, .int .i64 yh, .int .i64 ul, .int .i64 uh, .int .i64 vl, .int .i64 ((vl + vh) / 2)], .agg #[.int .i64 xl, .int .i64 xh, .int .i64 yl, .int .i64 yh, .int .i64 ul, .int .i64 uh, .int .i64 ((vl + vh) / 2 + 1), .int .i64 vh]]) ∧ Ext w w' := by
  have HW := Lib.hid hw
  clear hw
  go_enter Tryz.func90, Tryz.ntmps90
  go_wp2_with fail
  refine (HW.out _).mono ?_
  rintro e w1 ⟨rfl, h1⟩
  obtain ⟨hc_w1, hf_w1, hz_w1⟩ := bcell h1; (try simp only [szA] at hz_w1); (try have := wz0 w w1); (try have := wz1 w w1); (try have := wz2 w w1); (try have := wz3 w w1); (try have := wz4 w w1)
  go_wp2_with fail
  have G1 : Blk w1 w.heap.size 38 #[.int .i64 xl, .int .i64 xh, .int .i64 yl, .int .i64 yh, .int .i64 ul, .int .i64 uh, .int .i64 vl, .int .i64 vh] := (((Blk.new w _ _).alloc _).alloc _).ext h1
  have G2 : Blk w1 (w.heap.size + 1) 38 #[.int .i64 0, .int .i64 0, .int .i64 0, .int .i64 0, .int .i64 0, .int .i64 0, .int .i64 0, .int .i64 0] := ((Blk.newAt (by simp)).alloc _).ext h1
  have G3 : Blk w1 (w.heap.size + 1 + 1) 38 #[.int .i64 0, .int .i64 0, .int .i64 0, .int .i64 0, .int .i64 0, .int .i64 0, .int .i64 0, .int .i64 0] := (Blk.newAt (by simp)).ext h1
  have GE : Ext w w1 := ext_by
  refine wp_region_gen [0, 1, 2, 3] [4, 5] [6, 7] (Ext _) (Ext _) (Stable.ext _) (fun _ h => h) (Ext.drew (Ext.refl _)) (by kernel_rfl) (by kernel_rfl) ?_; simp only [pick, List.drop_succ_cons, List.drop_zero]; (repeat' (first | (refine bl_off (by rfl) ?_; simp only [putX]) | (apply bl_op; rfl; (intro w1 h1; obtain ⟨hc, hf, hz⟩ := bcell h1; go_simp; (try go_bits); (first | exact ⟨rfl, Ext.refl _⟩ | (apply gives_call; go_at_call 88; exact oOf_c _ _ _ _ _ _ _ _ _) | (go_invoke; go_simp; apply gives_call; go_at_call 88; exact oOf_c _ _ _ _ _ _ _ _ _))); simp only [putX]) | (refine bl_split rfl rfl (fun hx => ?_) (fun hx => ?_) <;> simp only [hx]))); refine bl_nil ?_; refine ag_two (e1 := 119) (e2 := 119) (zs1 := #[.int .i64 0, .int .i64 0, .int .i64 0, .int .i64 0, .int .i64 0, .int .i64 0, .int .i64 0, .int .i64 0]) (zs2 := #[.int .i64 0, .int .i64 0, .int .i64 0, .int .i64 0, .int .i64 0, .int .i64 0, .int .i64 0, .int .i64 0]) (Stable.ext _) (fun _ h => h) (by decide) rfl rfl (fun u v => rfl) (fun v w => ⟨by simp only [opAt]; go_simp, by simp only [opAt]; go_simp⟩) (fun v w => ⟨by simp only [opAt]; go_simp, by simp only [opAt]; go_simp⟩) (fun b5 b6 hb_b5 hb_b6 hne_b5 => ?_); (try simp only [opAt]); (try simp only [Act.put, List.setIfInBounds_toArray]); refine tg_skip (fun w => Ext _ w ∧ Blk w b5 119 #[.int .i64 xl, .int .i64 xh, .int .i64 yl, .int .i64 yh, .int .i64 ul, .int .i64 uh, .int .i64 vl, .int .i64 vh] ∧ Blk w b6 119 #[.int .i64 0, .int .i64 0, .int .i64 0, .int .i64 0, .int .i64 0, .int .i64 0, .int .i64 0, .int .i64 0]) rfl rfl ((Stable.ext _).and ((Stable.blk _ _ _).and (Stable.blk _ _ _))) (fun _ h => h.1) (fun wx hx => ?_) ?_; (focus (obtain ⟨hx, hB1, hB2⟩ := hx; have hcB := hB1.cell; have hfB := hB1.frozen; have hlB := hB1.lt; exact ⟨putC b5 wx 0 [.int .i64 xl, .int .i64 xh, .int .i64 yl, .int .i64 yh, .int .i64 ul, .int .i64 uh, .int .i64 vl, .int .i64 vh], (by simp only [putC, Nat.reduceAdd]; go_simp; try rfl), Ext.putC (by omega) _ 0 hx, (Blk.putAt hB1 rfl), (Blk.putFar (by omega) _ 0 hB2)⟩)); refine tg_skip (fun w => Ext _ w ∧ Blk w b5 119 #[.int .i64 xl, .int .i64 xh, .int .i64 yl, .int .i64 yh, .int .i64 ul, .int .i64 uh, .int .i64 vl, .int .i64 vh] ∧ Blk w b6 119 #[.int .i64 xl, .int .i64 xh, .int .i64 yl, .int .i64 yh, .int .i64 ul, .int .i64 uh, .int .i64 vl, .int .i64 vh]) rfl rfl ((Stable.ext _).and ((Stable.blk _ _ _).and (Stable.blk _ _ _))) (fun _ h => h.1) (fun wx hx => ?_) ?_; (focus (obtain ⟨hx, hB1, hB2⟩ := hx; have hcB := hB2.cell; have hfB := hB2.frozen; have hlB := hB2.lt; exact ⟨putC b6 wx 0 [.int .i64 xl, .int .i64 xh, .int .i64 yl, .int .i64 yh, .int .i64 ul, .int .i64 uh, .int .i64 vl, .int .i64 vh], (by simp only [putC, Nat.reduceAdd]; go_simp; try rfl), Ext.putC (by omega) _ 0 hx, (Blk.putFar (by omega) _ 0 hB1), (Blk.putAt hB2 rfl)⟩)); refine tg_nil ?_; rintro w2 ⟨hE_w2, hB_b5, hB_b6⟩
  simp only [Array.getD_eq_getD_getElem?, List.getElem?_toArray, List.getElem?_cons_succ, List.getElem?_cons_zero, Option.getD_some, List.setIfInBounds_toArray, List.set_cons_zero, List.set_cons_succ]
  replace G2 := G2.ext hE_w2
  replace G3 := G3.ext hE_w2
  replace GE := GE.trans hE_w2
  have o1 : w.heap.size + 1 + 1 < b5 := by omega
  have o2 : w.heap.size + 1 + 1 < b6 := by omega
  clear hE_w2 h1 hc_w1 hf_w1 hz_w1 hb_b5 hb_b6 G1
  have c_hB_b5 := hB_b5.cell; have f_hB_b5 := hB_b5.frozen; have l_hB_b5 := hB_b5.lt; have c_hB_b6 := hB_b6.cell; have f_hB_b6 := hB_b6.frozen; have l_hB_b6 := hB_b6.lt
  go_wp2_with fail
  refine wp_region_text (by kernel_rfl) (by kernel_rfl) ?_
  (repeat' (first | (refine bl_off (by rfl) ?_; simp only [putX]) | (apply bl_op; rfl; (intro w1 h1; obtain ⟨hc, hf, hz⟩ := bcell h1; go_simp; (try go_bits); (first | exact ⟨rfl, Ext.refl _⟩)); simp only [putX]) | (refine bl_split rfl rfl (fun hx => ?_) (fun hx => ?_) <;> simp only [hx])))
  refine bl_nil ?_
  intro w3 h3
  obtain ⟨hc_w3, hf_w3, hz_w3⟩ := bcell h3; (try simp only [szA] at hz_w3); (try have := wz0 w w3); (try have := wz1 w w3); (try have := wz2 w w3); (try have := wz3 w w3); (try have := wz4 w w3)
  go_wp2_with fail
  refine name_world _ ?_
  intro W5 hW5
  have P5 : Blk W5 b5 119 #[.int .i64 xl, .int .i64 xh, .int .i64 yl, .int .i64 yh, .int .i64 ul, .int .i64 uh, .int .i64 vl, .int .i64 ((vl + vh) / 2)] := by rw [hW5]; exact ((hB_b5.ext h3).set_ 7 _).far (by dsimp only; omega) _
  have P6 : Blk W5 b6 119 #[.int .i64 xl, .int .i64 xh, .int .i64 yl, .int .i64 yh, .int .i64 ul, .int .i64 uh, .int .i64 ((vl + vh) / 2 + 1), .int .i64 vh] := by rw [hW5]; exact ((hB_b6.ext h3).far (by dsimp only; omega) _).set_ 6 _
  have P2 : Blk W5 (w.heap.size + 1) 38 #[.int .i64 0, .int .i64 0, .int .i64 0, .int .i64 0, .int .i64 0, .int .i64 0, .int .i64 0, .int .i64 0] := by rw [hW5]; exact ((G2.ext h3).far (by dsimp only; omega) _).far (by dsimp only; omega) _
  have P3 : Blk W5 (w.heap.size + 1 + 1) 38 #[.int .i64 0, .int .i64 0, .int .i64 0, .int .i64 0, .int .i64 0, .int .i64 0, .int .i64 0, .int .i64 0] := by rw [hW5]; exact ((G3.ext h3).far (by dsimp only; omega) _).far (by dsimp only; omega) _
  have PE : Ext w W5 := by rw [hW5]; exact Ext.set (Ext.set (GE.trans h3) (by dsimp only; omega) _) (by dsimp only; omega) _
  clear c_hB_b5 f_hB_b5 l_hB_b5 c_hB_b6 f_hB_b6 l_hB_b6 hW5 hB_b5 hB_b6 G2 G3 GE h3 hc_w3 hf_w3 hz_w3
  obtain ⟨m, hm⟩ : ∃ m, (vl + vh) / 2 = m := ⟨_, rfl⟩
  rw [hm] at P5 P6
  have HM := Lib.hid hm
  clear hm
  have c_P5 := P5.cell; have f_P5 := P5.frozen; have l_P5 := P5.lt; have c_P6 := P6.cell; have f_P6 := P6.frozen; have l_P6 := P6.lt
  refine wp_region_forced 4 (Ext _) (Stable.ext _) (Ext.drew (Ext.refl _)) (by kernel_rfl) (by kernel_rfl) ?_
  simp only [List.take_succ_cons, List.take_zero, List.drop_succ_cons, List.drop_zero]
  (repeat' (first | (refine bl_off (by rfl) ?_; simp only [putX]) | (apply bl_op; rfl; (intro w1 h1; obtain ⟨hc, hf, hz⟩ := bcell h1; go_simp; (try go_bits); (first | exact ⟨rfl, Ext.refl _⟩ | (apply gives_call; first | (go_at_call 130; exact oBox_c _ _ _ _ _ _ _ _ _)) | (go_invoke; go_simp; apply gives_call; first | (go_at_call 130; exact oBox_c _ _ _ _ _ _ _ _ _)))); simp only [putX]) | (refine bl_split rfl rfl (fun hx => ?_) (fun hx => ?_) <;> simp only [hx])))
  refine bl_nil ?_
  intro W6 h6
  replace P2 := P2.ext h6
  replace P3 := P3.ext h6
  replace PE := PE.trans h6
  clear c_P5 f_P5 l_P5 c_P6 f_P6 l_P6 P5 P6 h6
  have c_P2 := P2.cell; have f_P2 := P2.frozen; have l_P2 := P2.lt; have c_P3 := P3.cell; have f_P3 := P3.frozen; have l_P3 := P3.lt
  (try dsimp only); repeat' (first | go_values | go_skip | go_guarded | go_step | go_upon | go_in | go_at_K)
  refine name_world _ ?_
  intro W9 hW9
  have Q2 : Blk W9 (w.heap.size + 1) 38 #[.int .i64 xl, .int .i64 xh, .int .i64 yl, .int .i64 yh, .int .i64 ul, .int .i64 uh, .int .i64 vl, .int .i64 m] := by rw [hW9]; exact blk_far2 (blk_far2 (blk_far2 (blk_far2 (blk_set2 (blk_set2 (blk_set2 (blk_set2 P2 rfl) rfl) rfl) rfl) (by omega)) (by omega)) (by omega)) (by omega)
  have Q3 : Blk W9 (w.heap.size + 1 + 1) 38 #[.int .i64 xl, .int .i64 xh, .int .i64 yl, .int .i64 yh, .int .i64 ul, .int .i64 uh, .int .i64 (m + 1), .int .i64 vh] := by rw [hW9]; exact blk_set2 (blk_set2 (blk_set2 (blk_set2 (blk_far2 (blk_far2 (blk_far2 (blk_far2 P3 (by omega)) (by omega)) (by omega)) (by omega)) rfl) rfl) rfl) rfl
  have QE : Ext w W9 := by rw [hW9]; exact ext_set2 (ext_set2 (ext_set2 (ext_set2 (ext_set2 (ext_set2 (ext_set2 (ext_set2 PE (by omega)) (by omega)) (by omega)) (by omega)) (by omega)) (by omega)) (by omega)) (by omega)
  clear hW9
  have c_Q2 := Q2.cell; have f_Q2 := Q2.frozen; have l_Q2 := Q2.lt; have c_Q3 := Q3.cell; have f_Q3 := Q3.frozen; have l_Q3 := Q3.lt
  (try simp only [Exit.inBlock, Exit.then]); apply bodyPost_ret; (focus (simp only [results, Tryz.results90]; go_simp; try rfl)); rfl
  rw [HM.out]
  exact ⟨rfl, QE⟩
end Go.Proofs.YtfniicgoeljmdaaGreat
