/- Products, quotients, squares of spans: the reference. No condition. -/
import Derived.Test.YtfniicgoeljmdaaGreatRefCorners
import Derived.Test.YtfniicgoeljmdaaGreatForceOps
namespace Go.Proofs.YtfniicgoeljmdaaGreat
open Go.RowKit

theorem sp2_ok {a b : Sp} (h : sp2Err a b = 0) : (-1152921504606846976 ≤ a.lo ∧ a.lo ≤ a.hi ∧ a.hi ≤ 1152921504606846976) ∧ -1152921504606846976 ≤ b.lo ∧ b.lo ≤ b.hi ∧ b.hi ≤ 1152921504606846976 := by
  unfold sp2Err at h
  by_cases h1 : spErr a = 0
  · rw [if_pos h1] at h
    exact ⟨spErr_ok.1 h1, spErr_ok.1 h⟩
  · rw [if_neg h1] at h
    exact absurd h h1
set_option maxHeartbeats 1000000 in
theorem rMul_c (al ah bl bh : Int) (w : World) :
    Calls Tryz.prog 253 #[.agg #[.int .i64 al, .int .i64 ah], .agg #[.int .i64 bl, .int .i64 bh]] w fun e w' => e = .returned (spRV (mulM ⟨al, ah⟩ ⟨bl, bh⟩)) ∧ Ext w w' := by
  have H1 := Lib.hid fun W => rspBoth_c al ah bl bh W
  by_cases h : sp2Err ⟨al, ah⟩ ⟨bl, bh⟩ = 0
  · obtain ⟨⟨h1, h2, h3⟩, h4, h5, h6⟩ := sp2_ok h
    dsimp only at h1 h2 h3 h4 h5 h6
    have H2 := Lib.hid fun W => rCorners_c al ah bl bh false W ⟨by omega, by omega⟩ ⟨by omega, by omega⟩ ⟨by omega, by omega⟩ ⟨by omega, by omega⟩ (by simp)
    have e : joinR (cornQ (opF false) ⟨al, ah⟩ ⟨bl, bh⟩) ⟨0, 0⟩ true = mulM ⟨al, ah⟩ ⟨bl, bh⟩ := by
      unfold mulM combM
      rw [if_pos h]
      exact corners_eq (fun x y => mulDiv_ok x y 1) _ _ _
    rw [e] at H2
    rw [h] at H1
    generalize mulM _ _ = R at *
    obtain ⟨⟨rl, rh⟩, re⟩ := R
    clear h e
    go_enter Tryz.func253, Tryz.ntmps253
    go_wp2_with fail
    refine (H1.out _).mono ?_
    rintro e w1 ⟨rfl, h1⟩
    obtain ⟨hc_w1, hf_w1, hz_w1⟩ := bcell h1; (try simp only [szA] at hz_w1); (try have := wz0 w w1); (try have := wz1 w w1); (try have := wz2 w w1); (try have := wz3 w w1); (try have := wz4 w w1)
    go_wp2_with fail
    refine (H2.out _).mono ?_
    rintro e w2 ⟨rfl, h2⟩
    obtain ⟨hc_w2, hf_w2, hz_w2⟩ := bcell h2; (try simp only [szA] at hz_w2); (try have := wz0 w w2); (try have := wz1 w w2); (try have := wz2 w w2); (try have := wz3 w w2); (try have := wz4 w w2)
    go_wp2_with fail
    (try simp only [Exit.inBlock, Exit.then]); apply bodyPost_ret; (focus (simp only [results, Tryz.results253]; go_simp; try rfl)); rfl
    exact ⟨rfl, ext_by⟩
  · have e : mulM ⟨al, ah⟩ ⟨bl, bh⟩ = noSp (sp2Err ⟨al, ah⟩ ⟨bl, bh⟩) := by
      unfold mulM combM
      rw [if_neg h]
    rw [e]
    generalize sp2Err ⟨al, ah⟩ ⟨bl, bh⟩ = E at *
    clear e
    go_enter Tryz.func253, Tryz.ntmps253
    go_wp2_with fail
    refine (H1.out _).mono ?_
    rintro e w1 ⟨rfl, h1⟩
    obtain ⟨hc_w1, hf_w1, hz_w1⟩ := bcell h1; (try simp only [szA] at hz_w1); (try have := wz0 w w1); (try have := wz1 w w1); (try have := wz2 w w1); (try have := wz3 w w1); (try have := wz4 w w1)
    go_wp2_with fail
    (try simp only [Exit.inBlock, Exit.then]); apply bodyPost_ret; (focus (simp only [results, Tryz.results253]; go_simp; try rfl)); rfl
    exact ⟨rfl, ext_by⟩
set_option maxHeartbeats 1000000 in
theorem rQuot_c (al ah bl bh : Int) (w : World) :
    Calls Tryz.prog 236 #[.agg #[.int .i64 al, .int .i64 ah], .agg #[.int .i64 bl, .int .i64 bh]] w fun e w' => e = .returned (spRV (quotM ⟨al, ah⟩ ⟨bl, bh⟩)) ∧ Ext w w' := by
  have H1 := Lib.hid fun W => rspBoth_c al ah bl bh W
  by_cases h : sp2Err ⟨al, ah⟩ ⟨bl, bh⟩ = 0
  · obtain ⟨⟨h1, h2, h3⟩, h4, h5, h6⟩ := sp2_ok h
    dsimp only at h1 h2 h3 h4 h5 h6
    by_cases hz : bl ≤ 0 ∧ 0 ≤ bh
    · have e : quotM ⟨al, ah⟩ ⟨bl, bh⟩ = noSp 2 := by
        unfold quotM
        rw [if_pos h, if_pos (by rw [within_iff]; exact hz)]
      rw [e]
      rw [h] at H1
      obtain ⟨hz1, hz2⟩ := hz
      clear h e
      go_enter Tryz.func236, Tryz.ntmps236
      go_wp2_with fail
      refine (H1.out _).mono ?_
      rintro e w1 ⟨rfl, h1⟩
      obtain ⟨hc_w1, hf_w1, hz_w1⟩ := bcell h1; (try simp only [szA] at hz_w1); (try have := wz0 w w1); (try have := wz1 w w1); (try have := wz2 w w1); (try have := wz3 w w1); (try have := wz4 w w1)
      go_wp2_with fail
      (try simp only [Exit.inBlock, Exit.then]); apply bodyPost_ret; (focus (simp only [results, Tryz.results236]; go_simp; try rfl)); rfl
      exact ⟨rfl, ext_by⟩
    · have H2 := Lib.hid fun W => rCorners_c al ah bl bh true W ⟨by omega, by omega⟩ ⟨by omega, by omega⟩ ⟨by omega, by omega⟩ ⟨by omega, by omega⟩ (by intro _; omega)
      have e : joinR (cornQ (opF true) ⟨al, ah⟩ ⟨bl, bh⟩) ⟨0, 0⟩ true = quotM ⟨al, ah⟩ ⟨bl, bh⟩ := by
        unfold quotM combM
        rw [if_pos h, if_neg (by rw [within_iff]; exact hz), if_pos h]
        exact corners_eq (fun x y => mulDiv_ok x 1 y) _ _ _
      rw [e] at H2
      rw [h] at H1
      generalize quotM _ _ = R at *
      obtain ⟨⟨rl, rh⟩, re⟩ := R
      clear h e
      rcases (show 0 < bl ∨ (bl ≤ 0 ∧ bh < 0) by omega) with hc | ⟨hc, hd⟩
      all_goals clear hz
      all_goals go_enter Tryz.func236, Tryz.ntmps236
      all_goals go_wp2_with fail
      all_goals refine (H1.out _).mono ?_
      all_goals rintro e w1 ⟨rfl, h1⟩
      all_goals obtain ⟨hc_w1, hf_w1, hz_w1⟩ := bcell h1; (try simp only [szA] at hz_w1); (try have := wz0 w w1); (try have := wz1 w w1); (try have := wz2 w w1); (try have := wz3 w w1); (try have := wz4 w w1)
      all_goals go_wp2_with fail
      all_goals refine (H2.out _).mono ?_
      all_goals rintro e w2 ⟨rfl, h2⟩
      all_goals obtain ⟨hc_w2, hf_w2, hz_w2⟩ := bcell h2; (try simp only [szA] at hz_w2); (try have := wz0 w w2); (try have := wz1 w w2); (try have := wz2 w w2); (try have := wz3 w w2); (try have := wz4 w w2)
      all_goals go_wp2_with fail
      all_goals (try simp only [Exit.inBlock, Exit.then]); apply bodyPost_ret; (focus (simp only [results, Tryz.results236]; go_simp; try rfl)); rfl
      all_goals exact ⟨rfl, ext_by⟩
  · have e : quotM ⟨al, ah⟩ ⟨bl, bh⟩ = noSp (sp2Err ⟨al, ah⟩ ⟨bl, bh⟩) := by
      unfold quotM
      rw [if_neg h]
    rw [e]
    generalize sp2Err ⟨al, ah⟩ ⟨bl, bh⟩ = E at *
    clear e
    go_enter Tryz.func236, Tryz.ntmps236
    go_wp2_with fail
    refine (H1.out _).mono ?_
    rintro e w1 ⟨rfl, h1⟩
    obtain ⟨hc_w1, hf_w1, hz_w1⟩ := bcell h1; (try simp only [szA] at hz_w1); (try have := wz0 w w1); (try have := wz1 w w1); (try have := wz2 w w1); (try have := wz3 w w1); (try have := wz4 w w1)
    go_wp2_with fail
    (try simp only [Exit.inBlock, Exit.then]); apply bodyPost_ret; (focus (simp only [results, Tryz.results236]; go_simp; try rfl)); rfl
    exact ⟨rfl, ext_by⟩
set_option maxRecDepth 20000 in
set_option maxHeartbeats 1000000 in
theorem rSquare_c (al ah : Int) (w : World) :
    Calls Tryz.prog 255 #[.agg #[.int .i64 al, .int .i64 ah]] w fun e w' => e = .returned (spRV (squareM ⟨al, ah⟩)) ∧ Ext w w' := by
  have H1 := Lib.hid fun W => rspCheck_c al ah W
  by_cases h : spErr ⟨al, ah⟩ = 0
  · obtain ⟨h1, h2, h3⟩ := spErr_ok.1 h
    dsimp only at h1 h2 h3
    have hl : 0 ≤ lowM ⟨al, ah⟩ ∧ lowM ⟨al, ah⟩ ≤ highM ⟨al, ah⟩ ∧ highM ⟨al, ah⟩ ≤ 1152921504606846976 := by unfold lowM highM; dsimp only; omega
    have H2 := Lib.hid fun W => rCorners_c (lowM ⟨al, ah⟩) (highM ⟨al, ah⟩) (lowM ⟨al, ah⟩) (highM ⟨al, ah⟩) false W ⟨by omega, by omega⟩ ⟨by omega, by omega⟩ ⟨by omega, by omega⟩ ⟨by omega, by omega⟩ (by simp)
    have e : joinR (cornQ (opF false) ⟨lowM ⟨al, ah⟩, highM ⟨al, ah⟩⟩ ⟨lowM ⟨al, ah⟩, highM ⟨al, ah⟩⟩) ⟨0, 0⟩ true = squareM ⟨al, ah⟩ := by
      rw [← square_eq h]
      exact corners_eq (fun x y => mulDiv_ok x y 1) _ _ _
    rw [e] at H2
    rw [h] at H1
    have hU : highM ⟨al, ah⟩ = max ah (-al) := by unfold highM; dsimp only; omega
    have hc : (0 < al ∧ lowM ⟨al, ah⟩ = al) ∨ (al ≤ 0 ∧ ah < 0 ∧ lowM ⟨al, ah⟩ = -ah) ∨ (al < 0 ∧ 0 < ah ∧ lowM ⟨al, ah⟩ = 0) ∨ (al = 0 ∧ 0 ≤ ah ∧ lowM ⟨al, ah⟩ = 0) ∨ (al < 0 ∧ ah = 0 ∧ lowM ⟨al, ah⟩ = 0) := by unfold lowM; dsimp only; omega
    rw [hU] at H2
    generalize squareM ⟨al, ah⟩ = R at *
    generalize lowM ⟨al, ah⟩ = L at *
    obtain ⟨⟨rl, rh⟩, re⟩ := R
    clear h e hl hU
    rcases hc with ⟨hc, hL⟩ | ⟨hc, hd, hL⟩ | ⟨hc, hd, hL⟩ | ⟨rfl, hd, hL⟩ | ⟨hc, rfl, hL⟩
    all_goals rw [hL] at H2
    all_goals clear hL
    all_goals go_enter Tryz.func255, Tryz.ntmps255
    all_goals go_wp2_with fail
    all_goals refine (H1.out _).mono ?_
    all_goals rintro e w1 ⟨rfl, h1⟩
    all_goals obtain ⟨hc_w1, hf_w1, hz_w1⟩ := bcell h1; (try simp only [szA] at hz_w1); (try have := wz0 w w1); (try have := wz1 w w1); (try have := wz2 w w1); (try have := wz3 w w1); (try have := wz4 w w1)
    all_goals go_wp2_with fail
    all_goals refine (H2.out _).mono ?_
    all_goals rintro e w2 ⟨rfl, h2⟩
    all_goals obtain ⟨hc_w2, hf_w2, hz_w2⟩ := bcell h2; (try simp only [szA] at hz_w2); (try have := wz0 w w2); (try have := wz1 w w2); (try have := wz2 w w2); (try have := wz3 w w2); (try have := wz4 w w2)
    all_goals go_wp2_with fail
    all_goals (try simp only [Exit.inBlock, Exit.then]); apply bodyPost_ret; (focus (simp only [results, Tryz.results255]; go_simp; try rfl)); rfl
    all_goals exact ⟨rfl, ext_by⟩
  · have e : squareM ⟨al, ah⟩ = noSp (spErr ⟨al, ah⟩) := by
      unfold squareM
      rw [if_neg h]
    rw [e]
    generalize spErr ⟨al, ah⟩ = E at *
    clear e
    go_enter Tryz.func255, Tryz.ntmps255
    go_wp2_with fail
    refine (H1.out _).mono ?_
    rintro e w1 ⟨rfl, h1⟩
    obtain ⟨hc_w1, hf_w1, hz_w1⟩ := bcell h1; (try simp only [szA] at hz_w1); (try have := wz0 w w1); (try have := wz1 w w1); (try have := wz2 w w1); (try have := wz3 w w1); (try have := wz4 w w1)
    go_wp2_with fail
    (try simp only [Exit.inBlock, Exit.then]); apply bodyPost_ret; (focus (simp only [results, Tryz.results255]; go_simp; try rfl)); rfl
    exact ⟨rfl, ext_by⟩
set_option maxRecDepth 20000 in
set_option maxHeartbeats 1000000 in
theorem rMulDiv_c (a b c : Int) (w : World) (ha : fitsP a = true) (hb : fitsP b = true) (hc : fitsP c = true) (h0 : c ≠ 0) :
    Calls Tryz.prog 237 #[.int .i64 a, .int .i64 b, .int .i64 c] w fun e w' => e = .returned (quoV (mulDivM a b c)) ∧ Ext w w' := by
  have F1 := Lib.hid fun W => rfits_c a W
  have F2 := Lib.hid fun W => rfits_c b W
  have F3 := Lib.hid fun W => rfits_c c W
  rw [ha] at F1
  rw [hb] at F2
  rw [hc] at F3
  have ha := fitsP_iff.1 ha
  have hb := fitsP_iff.1 hb
  have hc := fitsP_iff.1 hc
  have H1 := Lib.hid fun W => rWideOf_c a b W ⟨by omega, by omega⟩ ⟨by omega, by omega⟩
  have H2 := Lib.hid fun W => rMulDiv_in a b c W ⟨by omega, by omega⟩ h0
  have hok := mulDiv_ok a b c
  generalize mulDivM a b c = R at *
  obtain ⟨rl, rh, re⟩ := R
  generalize negM a b = m1 at *
  generalize ((a.natAbs * b.natAbs / 18446744073709551616 : Nat) : Int) = m2 at *
  generalize ((a.natAbs * b.natAbs % 18446744073709551616 : Nat) : Int) = m3 at *
  unfold QuoOk at hok
  dsimp only at hok
  unfold quoB at H2
  dsimp only at H2
  have hc0 : c ≠ 0 := h0
  clear ha hb hc
  rcases hok with ⟨rfl, _, _, _⟩ | ⟨rfl, rfl, rfl⟩
  · go_enter Tryz.func237, Tryz.ntmps237
    go_wp2_with fail
    refine (F1.out _).mono ?_
    rintro e _ ⟨rfl, rfl⟩
    go_wp2_with fail
    refine (F2.out _).mono ?_
    rintro e _ ⟨rfl, rfl⟩
    go_wp2_with fail
    refine (F3.out _).mono ?_
    rintro e _ ⟨rfl, rfl⟩
    go_wp2_with fail
    refine (H1.out _).mono ?_
    rintro e w1 ⟨rfl, h1⟩
    obtain ⟨hc_w1, hf_w1, hz_w1⟩ := bcell h1; (try simp only [szA] at hz_w1); (try have := wz0 w w1); (try have := wz1 w w1); (try have := wz2 w w1); (try have := wz3 w w1); (try have := wz4 w w1)
    go_wp2_with fail
    refine (H2.out _).mono ?_
    rintro e w2 ⟨rfl, h2⟩
    obtain ⟨hc_w2, hf_w2, hz_w2⟩ := bcell h2; (try simp only [szA] at hz_w2); (try have := wz0 w w2); (try have := wz1 w w2); (try have := wz2 w w2); (try have := wz3 w w2); (try have := wz4 w w2)
    go_wp2_with fail
    (try simp only [Exit.inBlock, Exit.then]); apply bodyPost_ret; (focus (simp only [results, Tryz.results237]; go_simp; try rfl)); rfl
    exact ⟨rfl, ext_by⟩
  · go_enter Tryz.func237, Tryz.ntmps237
    go_wp2_with fail
    refine (F1.out _).mono ?_
    rintro e _ ⟨rfl, rfl⟩
    go_wp2_with fail
    refine (F2.out _).mono ?_
    rintro e _ ⟨rfl, rfl⟩
    go_wp2_with fail
    refine (F3.out _).mono ?_
    rintro e _ ⟨rfl, rfl⟩
    go_wp2_with fail
    refine (H1.out _).mono ?_
    rintro e w1 ⟨rfl, h1⟩
    obtain ⟨hc_w1, hf_w1, hz_w1⟩ := bcell h1; (try simp only [szA] at hz_w1); (try have := wz0 w w1); (try have := wz1 w w1); (try have := wz2 w w1); (try have := wz3 w w1); (try have := wz4 w w1)
    go_wp2_with fail
    refine (H2.out _).mono ?_
    rintro e w2 ⟨rfl, h2⟩
    obtain ⟨hc_w2, hf_w2, hz_w2⟩ := bcell h2; (try simp only [szA] at hz_w2); (try have := wz0 w w2); (try have := wz1 w w2); (try have := wz2 w w2); (try have := wz3 w w2); (try have := wz4 w w2)
    go_wp2_with fail
    (try simp only [Exit.inBlock, Exit.then]); apply bodyPost_ret; (focus (simp only [results, Tryz.results237]; go_simp; try rfl)); rfl
    exact ⟨rfl, ext_by⟩
end Go.Proofs.YtfniicgoeljmdaaGreat
