/- Products, quotients, squares of spans: the reference. No condition. -/
import Derived.Test.YtiladlangkjoiaaGreatRefCorners
import Derived.Test.YtiladlangkjoiaaGreatForceOps
namespace Go.Proofs.YtiladlangkjoiaaGreat
open Go.RowKit

theorem sp2_ok {a b : Sp} (h : sp2Err a b = 0) : (-1152921504606846976 ≤ a.lo ∧ a.lo ≤ a.hi ∧ a.hi ≤ 1152921504606846976) ∧ -1152921504606846976 ≤ b.lo ∧ b.lo ≤ b.hi ∧ b.hi ≤ 1152921504606846976 := by
  unfold sp2Err at h
  by_cases h1 : spErr a = 0
  · rw [if_pos h1] at h
    exact ⟨spErr_ok.1 h1, spErr_ok.1 h⟩
  · rw [if_neg h1] at h
    exact absurd h h1
set_option maxHeartbeats 1000000 in
theorem rQuot_c (al ah bl bh : Int) (w : World) :
    Calls Tryz.prog 244 #[.agg #[.int .i64 al, .int .i64 ah], .agg #[.int .i64 bl, .int .i64 bh]] w fun e w' => e = .returned (spRV (quotM ⟨al, ah⟩ ⟨bl, bh⟩)) ∧ Ext w w' := by
  have H1 := Lib.hid fun W => rspBoth_c al ah bl bh W
  by_cases h : sp2Err ⟨al, ah⟩ ⟨bl, bh⟩ = 0
  · obtain ⟨⟨h1, h2, h3⟩, h4, h5, h6⟩ := sp2_ok h
    dsimp only at h1 h2 h3 h4 h5 h6
    by_cases hz : bl ≤ 0 ∧ 0 ≤ bh
    · have e : quotM ⟨al, ah⟩ ⟨bl, bh⟩ = noSp 2 := by
        unfold quotM
        rw [if_pos h, if_pos (by rw [within_iff]; exact hz)]
      rw [e]
      rw [h] at H1
      obtain ⟨hz1, hz2⟩ := hz
      clear h e
      go_enter Tryz.func244, Tryz.ntmps244
      go_wp2_with fail
      refine (H1.out _).mono ?_
      rintro e w1 ⟨rfl, h1⟩
      obtain ⟨hc_w1, hf_w1, hz_w1⟩ := bcell h1; (try simp only [szA] at hz_w1); (try have := wz0 w w1); (try have := wz1 w w1); (try have := wz2 w w1); (try have := wz3 w w1); (try have := wz4 w w1)
      go_wp2_with fail
      (try simp only [Exit.inBlock, Exit.then]); apply bodyPost_ret; (focus (simp only [results, Tryz.results244]; go_simp; try rfl)); rfl
      exact ⟨rfl, ext_by⟩
    · have H2 := Lib.hid fun W => rCorners_c al ah bl bh true W ⟨by omega, by omega⟩ ⟨by omega, by omega⟩ ⟨by omega, by omega⟩ ⟨by omega, by omega⟩ (by intro _; omega)
      have e : joinR (cornQ (opF true) ⟨al, ah⟩ ⟨bl, bh⟩) ⟨0, 0⟩ true = quotM ⟨al, ah⟩ ⟨bl, bh⟩ := by
        unfold quotM combM
        rw [if_pos h, if_neg (by rw [within_iff]; exact hz), if_pos h]
        exact corners_eq (fun x y => mulDiv_ok x 1 y) _ _ _
      rw [e] at H2
      rw [h] at H1
      generalize quotM _ _ = R at *
      obtain ⟨⟨rl, rh⟩, re⟩ := R
      clear h e
      rcases (show 0 < bl ∨ (bl ≤ 0 ∧ bh < 0) by omega) with hc | ⟨hc, hd⟩
      all_goals clear hz
      all_goals go_enter Tryz.func244, Tryz.ntmps244
      all_goals go_wp2_with fail
      all_goals refine (H1.out _).mono ?_
      all_goals rintro e w1 ⟨rfl, h1⟩
      all_goals obtain ⟨hc_w1, hf_w1, hz_w1⟩ := bcell h1; (try simp only [szA] at hz_w1); (try have := wz0 w w1); (try have := wz1 w w1); (try have := wz2 w w1); (try have := wz3 w w1); (try have := wz4 w w1)
      all_goals go_wp2_with fail
      all_goals refine (H2.out _).mono ?_
      all_goals rintro e w2 ⟨rfl, h2⟩
      all_goals obtain ⟨hc_w2, hf_w2, hz_w2⟩ := bcell h2; (try simp only [szA] at hz_w2); (try have := wz0 w w2); (try have := wz1 w w2); (try have := wz2 w w2); (try have := wz3 w w2); (try have := wz4 w w2)
      all_goals go_wp2_with fail
      all_goals (try simp only [Exit.inBlock, Exit.then]); apply bodyPost_ret; (focus (simp only [results, Tryz.results244]; go_simp; try rfl)); rfl
      all_goals exact ⟨rfl, ext_by⟩
  · have e : quotM ⟨al, ah⟩ ⟨bl, bh⟩ = noSp (sp2Err ⟨al, ah⟩ ⟨bl, bh⟩) := by
      unfold quotM
      rw [if_neg h]
    rw [e]
    generalize sp2Err ⟨al, ah⟩ ⟨bl, bh⟩ = E at *
    clear e
    go_enter Tryz.func244, Tryz.ntmps244
    go_wp2_with fail
    refine (H1.out _).mono ?_
    rintro e w1 ⟨rfl, h1⟩
    obtain ⟨hc_w1, hf_w1, hz_w1⟩ := bcell h1; (try simp only [szA] at hz_w1); (try have := wz0 w w1); (try have := wz1 w w1); (try have := wz2 w w1); (try have := wz3 w w1); (try have := wz4 w w1)
    go_wp2_with fail
    (try simp only [Exit.inBlock, Exit.then]); apply bodyPost_ret; (focus (simp only [results, Tryz.results244]; go_simp; try rfl)); rfl
    exact ⟨rfl, ext_by⟩
end Go.Proofs.YtiladlangkjoiaaGreat
