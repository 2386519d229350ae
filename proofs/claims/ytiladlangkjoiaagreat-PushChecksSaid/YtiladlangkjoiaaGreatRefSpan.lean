/- Spans: the reference's checks, sums and differences. No condition. -/
import Derived.Test.YtiladlangkjoiaaGreatBig
namespace Go.Proofs.YtiladlangkjoiaaGreat
open Go.RowKit

set_option maxHeartbeats 400000 in
theorem rsp_between_c (a b c : Int) (w : World) :
    Calls Tryz.prog 345 #[.int .i64 a, .int .i64 b, .int .i64 c] w fun e w' => e = .returned (.bool (within a b c)) ∧ w = w' := by
  go_enter Tryz.func345, Tryz.ntmps345
  go_wp2
  all_goals go_ret
  all_goals exact ⟨ret_b (by simp [within, *] <;> omega), rfl⟩
set_option maxHeartbeats 400000 in
theorem rfits_c (a : Int) (w : World) :
    Calls Tryz.prog 321 #[.int .i64 a] w fun e w' => e = .returned (.bool (fitsP a)) ∧ w = w' := by
  go_enter Tryz.func321, Tryz.ntmps321
  go_wp2_with (go_at_call 345; refine (rsp_between_c _ _ _ _).mono ?_; rintro e w' ⟨rfl, rfl⟩)
  go_ret
  exact ⟨rfl, rfl⟩
set_option maxHeartbeats 400000 in
theorem rspCheck_c (lo hi : Int) (w : World) :
    Calls Tryz.prog 318 #[.agg #[.int .i64 lo, .int .i64 hi]] w fun e w' => e = .returned (.int .i64 (spErr ⟨lo, hi⟩)) ∧ Ext w w' := by
  unfold spErr
  dsimp only
  have H1 := Lib.hid fun W => rfits_c lo W
  have H2 := Lib.hid fun W => rfits_c hi W
  generalize fitsP lo = f1 at *
  generalize fitsP hi = f2 at *
  go_enter Tryz.func318, Tryz.ntmps318
  cases f1 <;> cases f2
  all_goals go_wp2_with fail
  all_goals refine (H1.out _).mono ?_
  all_goals rintro e _ ⟨rfl, rfl⟩
  all_goals go_wp2_with fail
  all_goals try (refine (H2.out _).mono ?_; rintro e _ ⟨rfl, rfl⟩; go_wp2_with fail)
  all_goals go_ret
  all_goals refine ⟨ret_i ?_, ext_by⟩
  all_goals simp <;> omega
set_option maxHeartbeats 400000 in
theorem rspBoth_c (al ah bl bh : Int) (w : World) :
    Calls Tryz.prog 286 #[.agg #[.int .i64 al, .int .i64 ah], .agg #[.int .i64 bl, .int .i64 bh]] w fun e w' => e = .returned (.int .i64 (sp2Err ⟨al, ah⟩ ⟨bl, bh⟩)) ∧ Ext w w' := by
  unfold sp2Err
  have H1 := Lib.hid fun W => rspCheck_c al ah W
  have H2 := Lib.hid fun W => rspCheck_c bl bh W
  generalize spErr ⟨al, ah⟩ = f1 at *
  generalize spErr ⟨bl, bh⟩ = f2 at *
  by_cases h : f1 = 0
  · subst h
    go_enter Tryz.func286, Tryz.ntmps286
    go_wp2_with fail
    refine (H1.out _).mono ?_
    rintro e w1 ⟨rfl, h1⟩
    obtain ⟨hc_w1, hf_w1, hz_w1⟩ := bcell h1
    simp only [World.size_alloc] at hz_w1
    go_wp2_with fail
    refine (H2.out _).mono ?_
    rintro e w2 ⟨rfl, h2⟩
    obtain ⟨hc_w2, hf_w2, hz_w2⟩ := bcell h2; (try simp only [szA] at hz_w2); (try have := wz0 w w2); (try have := wz1 w w2); (try have := wz2 w w2); (try have := wz3 w w2); (try have := wz4 w w2)
    go_wp2_with fail
    go_ret
    exact ⟨rfl, ext_by⟩
  · rw [if_neg h]
    go_enter Tryz.func286, Tryz.ntmps286
    go_wp2_with fail
    refine (H1.out _).mono ?_
    rintro e w1 ⟨rfl, h1⟩
    obtain ⟨hc_w1, hf_w1, hz_w1⟩ := bcell h1
    go_wp2_with fail
    go_ret
    exact ⟨rfl, ext_by⟩
set_option maxHeartbeats 400000 in
theorem rends_c (lo hi : Int) (w : World) :
    Calls Tryz.prog 288 #[.int .i64 lo, .int .i64 hi] w fun e w' => e = .returned (spRV (endsM lo hi)) ∧ Ext w w' := by
  unfold endsM noSp
  have H1 := Lib.hid fun W => rfits_c lo W
  have H2 := Lib.hid fun W => rfits_c hi W
  generalize fitsP lo = f1 at *
  generalize fitsP hi = f2 at *
  go_enter Tryz.func288, Tryz.ntmps288
  cases f1 <;> cases f2
  all_goals go_wp2_with fail
  all_goals refine (H1.out _).mono ?_
  all_goals rintro e _ ⟨rfl, rfl⟩
  all_goals go_wp2_with fail
  all_goals try (refine (H2.out _).mono ?_; rintro e _ ⟨rfl, rfl⟩; go_wp2_with fail)
  all_goals ((try simp only [Exit.inBlock, Exit.then]); apply bodyPost_ret; (focus (simp only [results, Tryz.results288]; go_simp; try rfl)); rfl)
  all_goals exact ⟨rfl, ext_by⟩
set_option maxHeartbeats 400000 in
theorem rSub_c (al ah bl bh : Int) (w : World) :
    Calls Tryz.prog 245 #[.agg #[.int .i64 al, .int .i64 ah], .agg #[.int .i64 bl, .int .i64 bh]] w fun e w' => e = .returned (spRV (subM ⟨al, ah⟩ ⟨bl, bh⟩)) ∧ Ext w w' := by
  unfold subM
  have H1 := Lib.hid fun W => rspBoth_c al ah bl bh W
  have H2 := Lib.hid fun W => rends_c (al - bh) (ah - bl) W
  dsimp only
  by_cases h : sp2Err ⟨al, ah⟩ ⟨bl, bh⟩ = 0
  · have hb : (-1152921504606846976 ≤ al ∧ al ≤ ah ∧ ah ≤ 1152921504606846976) ∧ -1152921504606846976 ≤ bl ∧ bl ≤ bh ∧ bh ≤ 1152921504606846976 := by
      unfold sp2Err at h
      by_cases h1 : spErr ⟨al, ah⟩ = 0
      · rw [if_pos h1] at h
        exact ⟨spErr_ok.1 h1, spErr_ok.1 h⟩
      · rw [if_neg h1] at h
        exact absurd h h1
    obtain ⟨⟨h1, h2, h3⟩, h4, h5, h6⟩ := hb
    rw [h] at H1
    rw [if_pos h]
    generalize endsM (al - bh) (ah - bl) = R at *
    obtain ⟨⟨rl, rh⟩, re⟩ := R
    clear h
    go_enter Tryz.func245, Tryz.ntmps245
    go_wp2_with fail
    refine (H1.out _).mono ?_
    rintro e w1 ⟨rfl, h1⟩
    obtain ⟨hc_w1, hf_w1, hz_w1⟩ := bcell h1; (try simp only [szA] at hz_w1); (try have := wz0 w w1); (try have := wz1 w w1); (try have := wz2 w w1); (try have := wz3 w w1); (try have := wz4 w w1)
    go_wp2_with fail
    refine (H2.out _).mono ?_
    rintro e w2 ⟨rfl, h2⟩
    obtain ⟨hc_w2, hf_w2, hz_w2⟩ := bcell h2; (try simp only [szA] at hz_w2); (try have := wz0 w w2); (try have := wz1 w w2); (try have := wz2 w w2); (try have := wz3 w w2); (try have := wz4 w w2)
    go_wp2_with fail
    (try simp only [Exit.inBlock, Exit.then]); apply bodyPost_ret; (focus (simp only [results, Tryz.results245]; go_simp; try rfl)); rfl
    exact ⟨rfl, ext_by⟩
  · rw [if_neg h]
    generalize sp2Err ⟨al, ah⟩ ⟨bl, bh⟩ = f1 at *
    go_enter Tryz.func245, Tryz.ntmps245
    go_wp2_with fail
    refine (H1.out _).mono ?_
    rintro e w1 ⟨rfl, h1⟩
    obtain ⟨hc_w1, hf_w1, hz_w1⟩ := bcell h1; (try simp only [szA] at hz_w1); (try have := wz0 w w1); (try have := wz1 w w1); (try have := wz2 w w1); (try have := wz3 w w1); (try have := wz4 w w1)
    go_wp2_with fail
    (try simp only [Exit.inBlock, Exit.then]); apply bodyPost_ret; (focus (simp only [results, Tryz.results245]; go_simp; try rfl)); rfl
    exact ⟨rfl, ext_by⟩
end Go.Proofs.YtiladlangkjoiaaGreat
