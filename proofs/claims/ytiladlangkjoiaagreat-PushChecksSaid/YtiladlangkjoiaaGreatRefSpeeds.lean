/- Speeds of flights: the reference. No condition. -/
import Derived.Test.YtiladlangkjoiaaGreatRefCamp
import Derived.Test.YtiladlangkjoiaaGreatRefArith
import Derived.Test.YtiladlangkjoiaaGreatRefSpan
import Derived.Test.YtiladlangkjoiaaGreatRefExcl
import Derived.Test.YtiladlangkjoiaaGreatMeetMay
import Derived.Test.YtiladlangkjoiaaGreatPushChange
namespace Go.Proofs.YtiladlangkjoiaaGreat
open Go.RowKit

set_option maxHeartbeats 1000000 in
theorem qOne_c (a : Int) (w : World) : Calls Tryz.prog 117 #[.int .i64 a] w fun e w' => e = .returned (.agg #[.int .i64 a, .int .i64 a]) ∧ Ext w w' := by
  go_enter Tryz.func117, Tryz.ntmps117
  go_wp2_with fail
  (try simp only [Exit.inBlock, Exit.then]); apply bodyPost_ret; (focus (simp only [results, Tryz.results117]; go_simp; try rfl)); rfl
  exact ⟨rfl, ext_by⟩
set_option maxHeartbeats 1000000 in
theorem qSub_c (al ah bl bh : Int) (w : World) :
    Calls Tryz.prog 180 #[.agg #[.int .i64 al, .int .i64 ah], .agg #[.int .i64 bl, .int .i64 bh]] w fun e w' => e = .returned (.agg #[.int .i64 (subS ⟨al, ah⟩ ⟨bl, bh⟩).lo, .int .i64 (subS ⟨al, ah⟩ ⟨bl, bh⟩).hi]) ∧ Ext w w' := by
  have H := Lib.hid fun W => rSub_c al ah bl bh W
  unfold subS
  generalize subM _ _ = R at *
  obtain ⟨⟨rl, rh⟩, re⟩ := R
  go_enter Tryz.func180, Tryz.ntmps180
  go_wp2_with fail
  refine (H.out _).mono ?_
  rintro e w1 ⟨rfl, h1⟩
  obtain ⟨hc_w1, hf_w1, hz_w1⟩ := bcell h1; (try simp only [szA] at hz_w1); (try have := wz0 w w1); (try have := wz1 w w1); (try have := wz2 w w1); (try have := wz3 w w1); (try have := wz4 w w1)
  go_wp2_with fail
  (try simp only [Exit.inBlock, Exit.then]); apply bodyPost_ret; (focus (simp only [results, Tryz.results180]; go_simp; try rfl)); rfl
  exact ⟨rfl, ext_by⟩
set_option maxHeartbeats 1000000 in
theorem qQuot_c (al ah bl bh : Int) (w : World) :
    Calls Tryz.prog 179 #[.agg #[.int .i64 al, .int .i64 ah], .agg #[.int .i64 bl, .int .i64 bh]] w fun e w' => e = .returned (.agg #[.int .i64 (quotS ⟨al, ah⟩ ⟨bl, bh⟩).lo, .int .i64 (quotS ⟨al, ah⟩ ⟨bl, bh⟩).hi]) ∧ Ext w w' := by
  have H := Lib.hid fun W => rQuot_c al ah bl bh W
  unfold quotS
  generalize quotM _ _ = R at *
  obtain ⟨⟨rl, rh⟩, re⟩ := R
  go_enter Tryz.func179, Tryz.ntmps179
  go_wp2_with fail
  refine (H.out _).mono ?_
  rintro e w1 ⟨rfl, h1⟩
  obtain ⟨hc_w1, hf_w1, hz_w1⟩ := bcell h1; (try simp only [szA] at hz_w1); (try have := wz0 w w1); (try have := wz1 w w1); (try have := wz2 w w1); (try have := wz3 w w1); (try have := wz4 w w1)
  go_wp2_with fail
  (try simp only [Exit.inBlock, Exit.then]); apply bodyPost_ret; (focus (simp only [results, Tryz.results179]; go_simp; try rfl)); rfl
  exact ⟨rfl, ext_by⟩
set_option maxRecDepth 20000 in
set_option maxHeartbeats 4000000 in
theorem qReachesL_c (a : Ar) (fast : Int) (w : World) (hf : 1 ≤ fast ∧ fast ≤ 1048576) :
    Calls Tryz.prog 96 #[.agg #[.int .i64 a.x.lo, .int .i64 a.x.hi, .int .i64 a.y.lo, .int .i64 a.y.hi], .int .i64 fast] w fun e w' => e = .returned (.bool (slowR a fast)) ∧ Ext w w' := by
  unfold slowR
  go_enter Tryz.func96, Tryz.ntmps96
  go_wp2_with fail
  all_goals go_ret
  all_goals exact ⟨ret_b (by simp [*] <;> omega), ext_by⟩
section
variable (m : Mis) (A : Option Addr) (n c : Nat) (home : Int) (l : List Body) (w : World)
set_option maxRecDepth 20000 in
set_option maxHeartbeats 8000000 in
theorem qSpeedsL_c (xl xh yl yh : Int) (hl : Bodies w A n l) (hm : 0 ≤ m.launch ∧ m.launch ≤ m.arrive ∧ m.arrive ≤ 1073741824) :
    Calls Tryz.prog 89 #[.agg #[.slice A n c, .int .i64 home], .agg #[.int .i64 m.kind, .int .i64 m.launch, .int .i64 m.arrive, .int .i64 m.dur, .int .i64 m.mass.lo, .int .i64 m.mass.hi, .int .i64 m.power.lo, .int .i64 m.power.hi, .int .i64 m.mult.lo, .int .i64 m.mult.hi, .int .i64 m.dir.x, .int .i64 m.dir.y, .bool m.reserve, .int .i64 m.cost], .agg #[.int .i64 xl, .int .i64 xh, .int .i64 yl, .int .i64 yh]] w fun e w' => e = .returned (arV (speedsM (atM l home home m.launch) ⟨⟨xl, xh⟩, ⟨yl, yh⟩⟩ (m.arrive - m.launch))) ∧ Ext w w' := by
  have HA := Lib.hid fun W (hW : Ext w W) => refAt_c A n c home home m.launch l W (Bodies.ext hW hl)
  have HO := Lib.hid fun a W => qOne_c a W
  have HS := Lib.hid fun al ah bl bh W => qSub_c al ah bl bh W
  have HQ := Lib.hid fun al ah bl bh W => qQuot_c al ah bl bh W
  generalize atM l home home m.launch = h at *
  obtain ⟨hx, hy⟩ := h
  obtain ⟨q1, q2, q3⟩ := hm
  dsimp only at HA
  unfold speedsM
  dsimp only [arV]
  clear hl
  generalize @subS = FS at *
  generalize @quotS = FQ at *
  go_enter Tryz.func89, Tryz.ntmps89
  go_wp2_with fail
  refine (HA.out _ ext_by).mono ?_
  rintro e w1 ⟨rfl, h1⟩
  have B4 : Blk w1 (w.heap.size + 1) 30 #[.int .i64 m.kind, .int .i64 m.launch, .int .i64 m.arrive, .int .i64 m.dur, .int .i64 m.mass.lo, .int .i64 m.mass.hi, .int .i64 m.power.lo, .int .i64 m.power.hi, .int .i64 m.mult.lo, .int .i64 m.mult.hi, .int .i64 m.dir.x, .int .i64 m.dir.y, .bool m.reserve, .int .i64 m.cost] := ((((Blk.newAt (by simp)).alloc _).alloc _)).ext h1
  have B5 : Blk w1 (w.heap.size + 1 + 1) 32 #[.int .i64 xl, .int .i64 xh, .int .i64 yl, .int .i64 yh] := (((Blk.newAt (by simp)).alloc _)).ext h1
  have B6 : Blk w1 (w.heap.size + 1 + 1 + 1) 32 #[.int .i64 0, .int .i64 0, .int .i64 0, .int .i64 0] := ((Blk.newAt (by simp))).ext h1
  have E : Ext w w1 := ext_by
  have zz : w.heap.size + 1 + 1 + 1 < w1.heap.size := B6.lt
  have z2 : w.heap.size + 1 + 1 < w1.heap.size := by omega
  have z1 : w.heap.size + 1 < w1.heap.size := by omega
  have z0 : w.heap.size < w1.heap.size := by omega
  clear h1 HA
  have c_B4 := B4.cell; have f_B4 := B4.frozen; have l_B4 := B4.lt; have c_B5 := B5.cell; have f_B5 := B5.frozen; have l_B5 := B5.lt; have c_B6 := B6.cell; have f_B6 := B6.frozen; have l_B6 := B6.lt
  go_wp2_with fail
  refine (HO.out _ _).mono ?_
  rintro e w2 ⟨rfl, h2⟩
  have B7 : Blk w2 w1.heap.size 28 #[.int .i64 hx, .int .i64 hy] := (Blk.newAt rfl).ext h2
  clear c_B4 f_B4 l_B4 c_B5 f_B5 l_B5 c_B6 f_B6 l_B6
  replace B5 := (B5.alloc _).ext h2
  replace B6 := (B6.alloc _).ext h2
  replace E := (E.alloc _).trans h2
  clear h2 B4
  go_wp2_with fail
  refine name_world _ ?_
  intro w3 hw3
  have C5 : Blk w3 (w.heap.size + 1 + 1) 32 #[.int .i64 xl, .int .i64 xh, .int .i64 yl, .int .i64 yh] := by rw [hw3]; exact B5.alloc _
  have C6 : Blk w3 (w.heap.size + 1 + 1 + 1) 32 #[.int .i64 0, .int .i64 0, .int .i64 0, .int .i64 0] := by rw [hw3]; exact B6.alloc _
  have C7 : Blk w3 w1.heap.size 28 #[.int .i64 hx, .int .i64 hy] := by rw [hw3]; exact B7.alloc _
  have C8 : Blk w3 w2.heap.size 26 #[.int .i64 (m.arrive - m.launch), .int .i64 (m.arrive - m.launch)] := by rw [hw3]; exact Blk.newAt rfl
  have E3 : Ext w w3 := by rw [hw3]; exact E.alloc _
  obtain ⟨g8, hg8⟩ : ∃ g, g = w2.heap.size := ⟨_, rfl⟩
  rw [← hg8] at C8 ⊢
  clear hw3 B5 B6 B7 E zz z0 z1 z2 hg8
  have c_C5 := C5.cell; have f_C5 := C5.frozen; have l_C5 := C5.lt; have c_C6 := C6.cell; have f_C6 := C6.frozen; have l_C6 := C6.lt; have c_C7 := C7.cell; have f_C7 := C7.frozen; have l_C7 := C7.lt; have c_C8 := C8.cell; have f_C8 := C8.frozen; have l_C8 := C8.lt
  refine wp_region_freeL 16 (by kernel_rfl) (by kernel_rfl) ?_
  simp only [List.take_succ_cons, List.take_zero, List.drop_succ_cons, List.drop_zero]
  (repeat' (first | (refine fb_off (by rfl) (by rfl) ?_; simp only [putX]) | (apply fb_op; rfl; rfl; (intro w1 h1; obtain ⟨hc, hf, hz⟩ := bcell h1; go_simp; (try go_bits); (first | exact ⟨rfl, Ext.refl _⟩ | (apply gives_call; first | (go_at_call 117; exact HO.out _ _) | (go_at_call 180; exact HS.out _ _ _ _ _) | (go_at_call 179; exact HQ.out _ _ _ _ _)) | (go_invoke; go_simp; apply gives_call; first | (go_at_call 117; exact HO.out _ _) | (go_at_call 180; exact HS.out _ _ _ _ _) | (go_at_call 179; exact HQ.out _ _ _ _ _)))); simp only [putX]) | (apply fb_slice; rfl; rfl; (intro w1 h1; obtain ⟨hc, hf, hz⟩ := bcell h1; go_simp; first | rfl | exact ⟨⟨rfl, rfl⟩, rfl⟩)) | (apply fb_use; rfl; (intro u; rfl); (rintro u w1 h1 ⟨b, rfl, hB⟩; obtain ⟨hc, hf, hz⟩ := bcell h1; go_simp; (first | exact ⟨rfl, Ext.refl _⟩)); simp only [putX]) | (refine fb_split rfl rfl (fun hx => ?_) (fun hx => ?_) <;> simp only [hx])))
  refine fb_nil ?_
  (intro val w4 h4 hg; clear hg; simp only [putV])
  obtain ⟨hc_w4, hf_w4, hz_w4⟩ := bcell h4; (try simp only [szA] at hz_w4); (try have := wz0 w w4); (try have := wz1 w w4); (try have := wz2 w w4); (try have := wz3 w w4); (try have := wz4 w w4)
  go_wp2_with fail
  refine name_world _ ?_
  intro W9 hW9
  have D6 := C6.ext h4
  have E6 := E3.trans h4
  have Q6 : Blk W9 (w.heap.size + 1 + 1 + 1) 32 #[.int .i64 (FQ (FS ⟨xl, xh⟩ ⟨hx, hx⟩) ⟨m.arrive - m.launch, m.arrive - m.launch⟩).lo, .int .i64 (FQ (FS ⟨xl, xh⟩ ⟨hx, hx⟩) ⟨m.arrive - m.launch, m.arrive - m.launch⟩).hi, .int .i64 (FQ (FS ⟨yl, yh⟩ ⟨hy, hy⟩) ⟨m.arrive - m.launch, m.arrive - m.launch⟩).lo, .int .i64 (FQ (FS ⟨yl, yh⟩ ⟨hy, hy⟩) ⟨m.arrive - m.launch, m.arrive - m.launch⟩).hi] := by
    rw [hW9]; exact blk_set2 (blk_set2 D6 rfl) rfl
  have QE : Ext w W9 := by rw [hW9]; exact ext_set2 (ext_set2 E6 (by omega)) (by omega)
  clear hW9
  have c_Q6 := Q6.cell; have f_Q6 := Q6.frozen; have l_Q6 := Q6.lt
  (try simp only [Exit.inBlock, Exit.then]); apply bodyPost_ret; (focus (simp only [results, Tryz.results89]; go_simp; try rfl)); rfl
  exact ⟨rfl, QE⟩
set_option maxRecDepth 20000 in
set_option maxHeartbeats 8000000 in
theorem qSpeedsT_c (xl xh yl yh : Int) (hl : Bodies w A n l) :
    Calls Tryz.prog 23 #[.agg #[.slice A n c, .int .i64 home], .agg #[.int .i64 m.kind, .int .i64 m.launch, .int .i64 m.arrive, .int .i64 m.dur, .int .i64 m.mass.lo, .int .i64 m.mass.hi, .int .i64 m.power.lo, .int .i64 m.power.hi, .int .i64 m.mult.lo, .int .i64 m.mult.hi, .int .i64 m.dir.x, .int .i64 m.dir.y, .bool m.reserve, .int .i64 m.cost], .agg #[.int .i64 xl, .int .i64 xh, .int .i64 yl, .int .i64 yh]] w fun e w' => e = .returned (.tuple #[arV (spdA l home m ⟨⟨xl, xh⟩, ⟨yl, yh⟩⟩), .int .i64 (spdErr l home m ⟨⟨xl, xh⟩, ⟨yl, yh⟩⟩)]) ∧ Ext w w' := by
  have HW := Lib.hid fun W (hW : Ext w W) => refWorld_c A n c home l W (Bodies.ext hW hl)
  have HM := Lib.hid fun W => qCheckMission_c m W
  have HP := Lib.hid fun W => refCheckArea_c xl xh yl yh W
  have hrp := right_places ⟨⟨xl, xh⟩, ⟨yl, yh⟩⟩
  dsimp only at hrp
  rw [hrp] at HP
  have hmok := fun h => (misErr_ok (m := m)).1 h
  have HS := Lib.hid fun (h : misErr m = 0) W (hW : Ext w W) => qSpeedsL_c m A n c home l W xl xh yl yh (Bodies.ext hW hl) (by have := (hmok h).2.1; omega)
  unfold spdA spdErr
  generalize wldErr ⟨l, home⟩ = E0 at *
  generalize misErr m = E1 at *
  generalize placesB ⟨⟨xl, xh⟩, ⟨yl, yh⟩⟩ = P at *
  generalize speedsM _ ⟨⟨xl, xh⟩, ⟨yl, yh⟩⟩ (m.arrive - m.launch) = S at *
  obtain ⟨⟨s1, s2⟩, s3, s4⟩ := S
  dsimp only [arV] at HS ⊢
  clear hl hmok hrp
  by_cases g0 : E0 = 0
  · subst g0
    by_cases g1 : E1 = 0
    · subst g1
      have HS2 := Lib.hid (HS.out rfl)
      clear HS
      cases P
      · simp only [ne_eq, not_true, if_false, Bool.false_eq_true, zeroA, if_neg (show ¬ (2 : Int) = 0 by decide)]
        clear HS2
        go_enter Tryz.func23, Tryz.ntmps23
        go_wp2_with fail
        refine (HW.out _ ext_by).mono ?_
        rintro e w1 ⟨rfl, h1⟩
        have B4 : Blk w1 (w.heap.size + 1) 30 #[.int .i64 m.kind, .int .i64 m.launch, .int .i64 m.arrive, .int .i64 m.dur, .int .i64 m.mass.lo, .int .i64 m.mass.hi, .int .i64 m.power.lo, .int .i64 m.power.hi, .int .i64 m.mult.lo, .int .i64 m.mult.hi, .int .i64 m.dir.x, .int .i64 m.dir.y, .bool m.reserve, .int .i64 m.cost] := ((((Blk.newAt (by simp)).alloc _).alloc _)).ext h1
        have B5 : Blk w1 (w.heap.size + 1 + 1) 32 #[.int .i64 xl, .int .i64 xh, .int .i64 yl, .int .i64 yh] := (((Blk.newAt (by simp)).alloc _)).ext h1
        have B6 : Blk w1 (w.heap.size + 1 + 1 + 1) 32 #[.int .i64 0, .int .i64 0, .int .i64 0, .int .i64 0] := ((Blk.newAt (by simp))).ext h1
        have E : Ext w w1 := ext_by
        clear h1
        have c_B4 := B4.cell; have f_B4 := B4.frozen; have l_B4 := B4.lt; have c_B5 := B5.cell; have f_B5 := B5.frozen; have l_B5 := B5.lt; have c_B6 := B6.cell; have f_B6 := B6.frozen; have l_B6 := B6.lt
        go_wp2_with fail
        refine (HM.out _).mono ?_
        rintro e w2 ⟨rfl, h2⟩
        clear c_B4 f_B4 l_B4 c_B5 f_B5 l_B5 c_B6 f_B6 l_B6
        replace B5 := B5.ext h2; replace B6 := B6.ext h2; have c_B5 := B5.cell; have f_B5 := B5.frozen; have l_B5 := B5.lt; have c_B6 := B6.cell; have f_B6 := B6.frozen; have l_B6 := B6.lt
        replace E := E.trans h2
        clear h2 B4
        go_wp2_with fail
        refine (HP.out _).mono ?_
        rintro e w3 ⟨rfl, h3⟩
        clear c_B5 f_B5 l_B5 c_B6 f_B6 l_B6
        replace B6 := B6.ext h3; have c_B6 := B6.cell; have f_B6 := B6.frozen; have l_B6 := B6.lt
        replace E := E.trans h3
        clear h3 B5
        (try dsimp only); repeat' (first | go_values | go_skip | go_guarded | go_step | go_upon | go_in | go_at_K)
        refine name_world _ ?_
        intro W9 hW9
        have Q8 : Blk W9 (w.heap.size + 1 + 1 + 1) 32 #[.int .i64 0, .int .i64 0, .int .i64 0, .int .i64 0] := by rw [hW9]; exact blk_set2 (blk_set2 B6 rfl) rfl
        have QE : Ext w W9 := by rw [hW9]; exact ext_set2 (ext_set2 E (by omega)) (by omega)
        clear hW9
        have c_Q8 := Q8.cell; have f_Q8 := Q8.frozen; have l_Q8 := Q8.lt
        (try simp only [Exit.inBlock, Exit.then]); apply bodyPost_ret; (focus (simp only [results, Tryz.results23]; go_simp; try rfl)); rfl
        exact ⟨rfl, QE⟩
      · simp only [ne_eq, not_true, if_false, if_true]
        go_enter Tryz.func23, Tryz.ntmps23
        go_wp2_with fail
        refine (HW.out _ ext_by).mono ?_
        rintro e w1 ⟨rfl, h1⟩
        have B3 : Blk w1 (w.heap.size) 24 #[.slice A n c, .int .i64 home] := (((((Blk.newAt (by simp)).alloc _).alloc _).alloc _)).ext h1
        have B4 : Blk w1 (w.heap.size + 1) 30 #[.int .i64 m.kind, .int .i64 m.launch, .int .i64 m.arrive, .int .i64 m.dur, .int .i64 m.mass.lo, .int .i64 m.mass.hi, .int .i64 m.power.lo, .int .i64 m.power.hi, .int .i64 m.mult.lo, .int .i64 m.mult.hi, .int .i64 m.dir.x, .int .i64 m.dir.y, .bool m.reserve, .int .i64 m.cost] := ((((Blk.newAt (by simp)).alloc _).alloc _)).ext h1
        have B5 : Blk w1 (w.heap.size + 1 + 1) 32 #[.int .i64 xl, .int .i64 xh, .int .i64 yl, .int .i64 yh] := (((Blk.newAt (by simp)).alloc _)).ext h1
        have B6 : Blk w1 (w.heap.size + 1 + 1 + 1) 32 #[.int .i64 0, .int .i64 0, .int .i64 0, .int .i64 0] := ((Blk.newAt (by simp))).ext h1
        have E : Ext w w1 := ext_by
        clear h1
        have c_B3 := B3.cell; have f_B3 := B3.frozen; have l_B3 := B3.lt; have c_B4 := B4.cell; have f_B4 := B4.frozen; have l_B4 := B4.lt; have c_B5 := B5.cell; have f_B5 := B5.frozen; have l_B5 := B5.lt; have c_B6 := B6.cell; have f_B6 := B6.frozen; have l_B6 := B6.lt
        go_wp2_with fail
        refine (HM.out _).mono ?_
        rintro e w2 ⟨rfl, h2⟩
        clear c_B3 f_B3 l_B3 c_B4 f_B4 l_B4 c_B5 f_B5 l_B5 c_B6 f_B6 l_B6
        replace B3 := B3.ext h2; replace B4 := B4.ext h2; replace B5 := B5.ext h2; replace B6 := B6.ext h2; have c_B3 := B3.cell; have f_B3 := B3.frozen; have l_B3 := B3.lt; have c_B4 := B4.cell; have f_B4 := B4.frozen; have l_B4 := B4.lt; have c_B5 := B5.cell; have f_B5 := B5.frozen; have l_B5 := B5.lt; have c_B6 := B6.cell; have f_B6 := B6.frozen; have l_B6 := B6.lt
        replace E := E.trans h2
        clear h2
        go_wp2_with fail
        refine (HP.out _).mono ?_
        rintro e w3 ⟨rfl, h3⟩
        clear c_B3 f_B3 l_B3 c_B4 f_B4 l_B4 c_B5 f_B5 l_B5 c_B6 f_B6 l_B6
        replace B3 := B3.ext h3; replace B4 := B4.ext h3; replace B5 := B5.ext h3; replace B6 := B6.ext h3; have c_B3 := B3.cell; have f_B3 := B3.frozen; have l_B3 := B3.lt; have c_B4 := B4.cell; have f_B4 := B4.frozen; have l_B4 := B4.lt; have c_B5 := B5.cell; have f_B5 := B5.frozen; have l_B5 := B5.lt; have c_B6 := B6.cell; have f_B6 := B6.frozen; have l_B6 := B6.lt
        replace E := E.trans h3
        clear h3 HW HM HP
        go_wp2_with fail
        refine (HS2.out _ ext_by).mono ?_
        rintro e w4 ⟨rfl, h4⟩
        clear c_B3 f_B3 l_B3 c_B4 f_B4 l_B4 c_B5 f_B5 l_B5 c_B6 f_B6 l_B6
        replace B6 := B6.ext h4; have c_B6 := B6.cell; have f_B6 := B6.frozen; have l_B6 := B6.lt
        replace E := E.trans h4
        clear h4 B3 B4 B5
        (try dsimp only); repeat' (first | go_values | go_skip | go_guarded | go_step | go_upon | go_in | go_at_K)
        refine name_world _ ?_
        intro W9 hW9
        have Q8 : Blk W9 (w.heap.size + 1 + 1 + 1) 32 #[.int .i64 s1, .int .i64 s2, .int .i64 s3, .int .i64 s4] := by rw [hW9]; exact blk_set2 (blk_set2 B6 rfl) rfl
        have QE : Ext w W9 := by rw [hW9]; exact ext_set2 (ext_set2 E (by omega)) (by omega)
        clear hW9
        have c_Q8 := Q8.cell; have f_Q8 := Q8.frozen; have l_Q8 := Q8.lt
        (try simp only [Exit.inBlock, Exit.then]); apply bodyPost_ret; (focus (simp only [results, Tryz.results23]; go_simp; try rfl)); rfl
        exact ⟨rfl, QE⟩
    · simp only [ne_eq, not_true, if_false, if_pos g1, if_neg g1, zeroA]
      clear HS HP
      go_enter Tryz.func23, Tryz.ntmps23
      go_wp2_with fail
      refine (HW.out _ ext_by).mono ?_
      rintro e w1 ⟨rfl, h1⟩
      have B4 : Blk w1 (w.heap.size + 1) 30 #[.int .i64 m.kind, .int .i64 m.launch, .int .i64 m.arrive, .int .i64 m.dur, .int .i64 m.mass.lo, .int .i64 m.mass.hi, .int .i64 m.power.lo, .int .i64 m.power.hi, .int .i64 m.mult.lo, .int .i64 m.mult.hi, .int .i64 m.dir.x, .int .i64 m.dir.y, .bool m.reserve, .int .i64 m.cost] := ((((Blk.newAt (by simp)).alloc _).alloc _)).ext h1
      have B6 : Blk w1 (w.heap.size + 1 + 1 + 1) 32 #[.int .i64 0, .int .i64 0, .int .i64 0, .int .i64 0] := ((Blk.newAt (by simp))).ext h1
      have E : Ext w w1 := ext_by
      clear h1
      have c_B4 := B4.cell; have f_B4 := B4.frozen; have l_B4 := B4.lt; have c_B6 := B6.cell; have f_B6 := B6.frozen; have l_B6 := B6.lt
      go_wp2_with fail
      refine (HM.out _).mono ?_
      rintro e w2 ⟨rfl, h2⟩
      clear c_B4 f_B4 l_B4 c_B6 f_B6 l_B6
      replace B6 := B6.ext h2; have c_B6 := B6.cell; have f_B6 := B6.frozen; have l_B6 := B6.lt
      replace E := E.trans h2
      clear h2 B4
      (try dsimp only); repeat' (first | go_values | go_skip | go_guarded | go_step | go_upon | go_in | go_at_K)
      refine name_world _ ?_
      intro W9 hW9
      have Q8 : Blk W9 (w.heap.size + 1 + 1 + 1) 32 #[.int .i64 0, .int .i64 0, .int .i64 0, .int .i64 0] := by rw [hW9]; exact blk_set2 (blk_set2 B6 rfl) rfl
      have QE : Ext w W9 := by rw [hW9]; exact ext_set2 (ext_set2 E (by omega)) (by omega)
      clear hW9
      have c_Q8 := Q8.cell; have f_Q8 := Q8.frozen; have l_Q8 := Q8.lt
      (try simp only [Exit.inBlock, Exit.then]); apply bodyPost_ret; (focus (simp only [results, Tryz.results23]; go_simp; try rfl)); rfl
      exact ⟨rfl, QE⟩
  · simp only [ne_eq, if_pos g0, if_neg g0, zeroA]
    clear HS HP HM
    go_enter Tryz.func23, Tryz.ntmps23
    go_wp2_with fail
    refine (HW.out _ ext_by).mono ?_
    rintro e w1 ⟨rfl, h1⟩
    have B6 : Blk w1 (w.heap.size + 1 + 1 + 1) 32 #[.int .i64 0, .int .i64 0, .int .i64 0, .int .i64 0] := ((Blk.newAt (by simp))).ext h1
    have E : Ext w w1 := ext_by
    clear h1
    have c_B6 := B6.cell; have f_B6 := B6.frozen; have l_B6 := B6.lt
    (try dsimp only); repeat' (first | go_values | go_skip | go_guarded | go_step | go_upon | go_in | go_at_K)
    refine name_world _ ?_
    intro W9 hW9
    have Q8 : Blk W9 (w.heap.size + 1 + 1 + 1) 32 #[.int .i64 0, .int .i64 0, .int .i64 0, .int .i64 0] := by rw [hW9]; exact blk_set2 (blk_set2 B6 rfl) rfl
    have QE : Ext w W9 := by rw [hW9]; exact ext_set2 (ext_set2 E (by omega)) (by omega)
    clear hW9
    have c_Q8 := Q8.cell; have f_Q8 := Q8.frozen; have l_Q8 := Q8.lt
    (try simp only [Exit.inBlock, Exit.then]); apply bodyPost_ret; (focus (simp only [results, Tryz.results23]; go_simp; try rfl)); rfl
    exact ⟨rfl, QE⟩
set_option maxRecDepth 20000 in
set_option maxHeartbeats 4000000 in
theorem qReaches_c (xl xh yl yh fast : Int) (hl : Bodies w A n l) :
    Calls Tryz.prog 29 #[.agg #[.slice A n c, .int .i64 home], .agg #[.int .i64 m.kind, .int .i64 m.launch, .int .i64 m.arrive, .int .i64 m.dur, .int .i64 m.mass.lo, .int .i64 m.mass.hi, .int .i64 m.power.lo, .int .i64 m.power.hi, .int .i64 m.mult.lo, .int .i64 m.mult.hi, .int .i64 m.dir.x, .int .i64 m.dir.y, .bool m.reserve, .int .i64 m.cost], .agg #[.int .i64 xl, .int .i64 xh, .int .i64 yl, .int .i64 yh], .int .i64 fast] w fun e w' => e = .returned (.bool (reachB l home m ⟨⟨xl, xh⟩, ⟨yl, yh⟩⟩ fast)) ∧ Ext w w' := by
  have HS := Lib.hid fun W (hW : Ext w W) => qSpeedsT_c m A n c home l W xl xh yl yh (Bodies.ext hW hl)
  have HW := Lib.hid fun W => qBetween_c fast 1 1048576 W
  have hfi := Lib.hid (within_iff fast 1 1048576)
  unfold reachB
  generalize spdA l home m ⟨⟨xl, xh⟩, ⟨yl, yh⟩⟩ = S at *
  generalize spdErr l home m ⟨⟨xl, xh⟩, ⟨yl, yh⟩⟩ = E0 at *
  generalize within fast 1 1048576 = q at *
  have HL := Lib.hid fun (h : q = true) W => qReachesL_c S fast W (hfi.out.1 h)
  rw [slow_eq] at HL
  generalize slowB S fast = R at *
  clear hl hfi
  by_cases g0 : E0 = 0
  · subst g0
    cases q
    · go_enter Tryz.func29, Tryz.ntmps29
      go_wp2_with fail
      refine (HS.out _ ext_by).mono ?_
      rintro e w1 ⟨rfl, h1⟩
      dsimp only [arV]
      go_wp2_with fail
      refine (HW.out _).mono ?_
      rintro e w2 ⟨rfl, h2⟩
      go_wp2_with fail
      go_ret
      exact ⟨ret_b (by simp), ext_by⟩
    · have HL2 := Lib.hid (HL.out rfl)
      clear HL
      go_enter Tryz.func29, Tryz.ntmps29
      go_wp2_with fail
      refine (HS.out _ ext_by).mono ?_
      rintro e w1 ⟨rfl, h1⟩
      have E1 : Ext w w1 := ext_by
      clear h1
      dsimp only [arV]
      go_wp2_with fail
      refine (HW.out _).mono ?_
      rintro e w2 ⟨rfl, h2⟩
      have BS : Blk w2 w1.heap.size 32 #[.int .i64 S.x.lo, .int .i64 S.x.hi, .int .i64 S.y.lo, .int .i64 S.y.hi] := (Blk.newAt rfl).ext h2
      have E2 := (E1.alloc _).trans h2
      clear h2
      have c_BS := BS.cell; have f_BS := BS.frozen; have l_BS := BS.lt
      go_wp2_with fail
      refine (HL2.out _).mono ?_
      rintro e w3 ⟨rfl, h3⟩
      go_wp2_with fail
      go_ret
      exact ⟨ret_b (by simp), E2.trans h3⟩
  · go_enter Tryz.func29, Tryz.ntmps29
    go_wp2_with fail
    refine (HS.out _ ext_by).mono ?_
    rintro e w1 ⟨rfl, h1⟩
    dsimp only [arV]
    go_wp2_with fail
    go_ret
    exact ⟨ret_b (by simp [g0]), ext_by⟩
end
end Go.Proofs.YtiladlangkjoiaaGreat
