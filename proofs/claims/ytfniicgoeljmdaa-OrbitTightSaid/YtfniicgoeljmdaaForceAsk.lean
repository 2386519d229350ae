/- Which drifts and questions are valid: the program. No condition. -/
import Derived.Test.YtfniicgoeljmdaaSpanArea
namespace Go.Proofs.Ytfniicgoeljmdaa
open Go.RowKit

set_option maxHeartbeats 400000 in
theorem fWithin_c (a b c : Int) (w : World) :
    Calls Try.prog 36 #[.int .i64 a, .int .i64 b, .int .i64 c] w fun e w' => e = .returned (.bool (within a b c)) ∧ Ext w w' := by
  go_enter Try.func36, Try.ntmps36
  go_wp2
  all_goals go_ret
  all_goals exact ⟨ret_b (by simp [within, *] <;> omega), Ext.refl _⟩
set_option maxHeartbeats 400000 in
theorem fBounded_c (lo hi a b : Int) (w : World) :
    Calls Try.prog 35 #[.agg #[.int .i64 lo, .int .i64 hi], .int .i64 a, .int .i64 b] w fun e w' => e = .returned (.int .i64 (boundErr ⟨lo, hi⟩ a b)) ∧ Ext w w' := by
  unfold boundErr
  dsimp only
  by_cases h1 : hi < lo
  · rw [if_pos h1]
    go_enter Try.func35, Try.ntmps35
    go_wp2_with fail
    go_ret
    exact ⟨rfl, ext_by⟩
  · rw [if_neg h1]
    by_cases h2 : lo < a
    · rw [if_pos (.inl h2)]
      go_enter Try.func35, Try.ntmps35
      go_wp2_with fail
      go_ret
      exact ⟨rfl, ext_by⟩
    · by_cases h3 : b < hi
      · rw [if_pos (.inr h3)]
        go_enter Try.func35, Try.ntmps35
        go_wp2_with fail
        go_ret
        exact ⟨rfl, ext_by⟩
      · rw [if_neg (by omega)]
        go_enter Try.func35, Try.ntmps35
        go_wp2_with fail
        go_ret
        exact ⟨rfl, ext_by⟩
set_option maxHeartbeats 1000000 in
theorem fCheckDrift_c (ll lh hl hh g : Int) (w : World) :
    Calls Try.prog 27 #[.agg #[.int .i64 ll, .int .i64 lh, .int .i64 hl, .int .i64 hh, .int .i64 g]] w fun e w' => e = .returned (.int .i64 (driftErr ⟨⟨ll, lh⟩, ⟨hl, hh⟩, g⟩)) ∧ Ext w w' := by
  have H1 := Lib.hid fun W => fBounded_c ll lh 0 1000 W
  have H2 := Lib.hid fun W => fBounded_c hl hh (-1000) 1000 W
  have H3 := Lib.hid fun W => fWithin_c g 0 1000 W
  unfold driftErr
  dsimp only
  generalize boundErr ⟨ll, lh⟩ 0 1000 = E1 at *
  generalize boundErr ⟨hl, hh⟩ (-1000) 1000 = E2 at *
  generalize within g 0 1000 = B at *
  by_cases h1 : E1 = 0
  · subst h1
    rw [if_pos rfl]
    by_cases h2 : E2 = 0
    · subst h2
      rw [if_pos rfl]
      cases B
      all_goals
        go_enter Try.func27, Try.ntmps27
        go_wp2_with fail
        refine (H1.out _).mono ?_
        rintro e w1 ⟨rfl, h1⟩
        obtain ⟨hc_w1, hf_w1, hz_w1⟩ := bcell h1; (try simp only [szA] at hz_w1); (try have := wz0 w w1); (try have := wz1 w w1); (try have := wz2 w w1); (try have := wz3 w w1); (try have := wz4 w w1)
        go_wp2_with fail
        refine (H2.out _).mono ?_
        rintro e w2 ⟨rfl, h2⟩
        obtain ⟨hc_w2, hf_w2, hz_w2⟩ := bcell h2; (try simp only [szA] at hz_w2); (try have := wz0 w w2); (try have := wz1 w w2); (try have := wz2 w w2); (try have := wz3 w w2); (try have := wz4 w w2)
        go_wp2_with fail
        refine (H3.out _).mono ?_
        rintro e w3 ⟨rfl, h3⟩
        obtain ⟨hc_w3, hf_w3, hz_w3⟩ := bcell h3; (try simp only [szA] at hz_w3); (try have := wz0 w w3); (try have := wz1 w w3); (try have := wz2 w w3); (try have := wz3 w w3); (try have := wz4 w w3)
        go_wp2_with fail
        go_ret
        exact ⟨rfl, ext_by⟩
    · rw [if_neg h2]
      go_enter Try.func27, Try.ntmps27
      go_wp2_with fail
      refine (H1.out _).mono ?_
      rintro e w1 ⟨rfl, h1⟩
      obtain ⟨hc_w1, hf_w1, hz_w1⟩ := bcell h1; (try simp only [szA] at hz_w1); (try have := wz0 w w1); (try have := wz1 w w1); (try have := wz2 w w1); (try have := wz3 w w1); (try have := wz4 w w1)
      go_wp2_with fail
      refine (H2.out _).mono ?_
      rintro e w2 ⟨rfl, h2⟩
      obtain ⟨hc_w2, hf_w2, hz_w2⟩ := bcell h2; (try simp only [szA] at hz_w2); (try have := wz0 w w2); (try have := wz1 w w2); (try have := wz2 w w2); (try have := wz3 w w2); (try have := wz4 w w2)
      go_wp2_with fail
      go_ret
      exact ⟨rfl, ext_by⟩
  · rw [if_neg h1]
    go_enter Try.func27, Try.ntmps27
    go_wp2_with fail
    refine (H1.out _).mono ?_
    rintro e w1 ⟨rfl, h1⟩
    obtain ⟨hc_w1, hf_w1, hz_w1⟩ := bcell h1; (try simp only [szA] at hz_w1); (try have := wz0 w w1); (try have := wz1 w w1); (try have := wz2 w w1); (try have := wz3 w w1); (try have := wz4 w w1)
    go_wp2_with fail
    go_ret
    exact ⟨rfl, ext_by⟩
set_option maxRecDepth 4000 in
set_option maxHeartbeats 2000000 in
theorem fAsked_c (A : Option Addr) (n c : Nat) (home : Int) (l : List Body) (ll lh hl hh g tick xl xh yl yh : Int) (w : World) (hw : Bodies w A n l) :
    Calls Try.prog 37 #[.agg #[.slice A n c, .int .i64 home], .agg #[.int .i64 ll, .int .i64 lh, .int .i64 hl, .int .i64 hh, .int .i64 g], .int .i64 tick, .agg #[.int .i64 xl, .int .i64 xh, .int .i64 yl, .int .i64 yh]] w fun e w' =>
      e = .returned (.int .i64 (fAskErr l home ⟨⟨ll, lh⟩, ⟨hl, hh⟩, g⟩ tick ⟨⟨xl, xh⟩, ⟨yl, yh⟩⟩)) ∧ Ext w w' := by
  have H1 := Lib.hid fun W (hW : Ext w W) => CheckWorld_c A n c home l W (Bodies.ext hW hw)
  have H2 := Lib.hid fun W => fCheckDrift_c ll lh hl hh g W
  have H3 := Lib.hid fun W => fWithin_c tick 0 1073741824 W
  have H4 := Lib.hid fun W => spCheckArea_c xl xh yl yh W
  unfold fAskErr inPlace
  dsimp only
  clear hw
  generalize wldErr ⟨l, home⟩ = E1 at *
  generalize driftErr ⟨⟨ll, lh⟩, ⟨hl, hh⟩, g⟩ = E2 at *
  generalize within tick 0 1073741824 = B at *
  generalize areaErr ⟨⟨xl, xh⟩, ⟨yl, yh⟩⟩ = E4 at *
  by_cases h1 : E1 = 0
  · subst h1
    rw [if_pos rfl]
    by_cases h2 : E2 = 0
    · subst h2
      rw [if_pos rfl]
      cases B
      · go_enter Try.func37, Try.ntmps37
        go_wp2_with fail
        refine (H1.out _ ext_by).mono ?_
        rintro e w1 ⟨rfl, h1⟩
        obtain ⟨hc_w1, hf_w1, hz_w1⟩ := bcell h1; (try simp only [szA] at hz_w1); (try have := wz0 w w1); (try have := wz1 w w1); (try have := wz2 w w1); (try have := wz3 w w1); (try have := wz4 w w1)
        go_wp2_with fail
        refine (H2.out _).mono ?_
        rintro e w2 ⟨rfl, h2⟩
        obtain ⟨hc_w2, hf_w2, hz_w2⟩ := bcell h2; (try simp only [szA] at hz_w2); (try have := wz0 w w2); (try have := wz1 w w2); (try have := wz2 w w2); (try have := wz3 w w2); (try have := wz4 w w2)
        go_wp2_with fail
        refine (H3.out _).mono ?_
        rintro e w3 ⟨rfl, h3⟩
        obtain ⟨hc_w3, hf_w3, hz_w3⟩ := bcell h3; (try simp only [szA] at hz_w3); (try have := wz0 w w3); (try have := wz1 w w3); (try have := wz2 w w3); (try have := wz3 w w3); (try have := wz4 w w3)
        go_wp2_with fail
        go_ret
        exact ⟨rfl, ext_by⟩
      · rw [if_pos rfl]
        by_cases h4 : E4 = 0
        · subst h4
          rw [if_pos rfl]
          obtain ⟨R, hR⟩ : ∃ R : Int, (if (decide (-33554432 ≤ xl) && decide (xh ≤ 33554432) && (decide (-33554432 ≤ yl) && decide (yh ≤ 33554432))) = true then (0 : Int) else 2) = R := ⟨_, rfl⟩
          rw [hR]
          have HR := Lib.hid hR
          clear hR
          go_enter Try.func37, Try.ntmps37
          go_wp2_with fail
          refine (H1.out _ ext_by).mono ?_
          rintro e w1 ⟨rfl, h1⟩
          obtain ⟨hc_w1, hf_w1, hz_w1⟩ := bcell h1; (try simp only [szA] at hz_w1); (try have := wz0 w w1); (try have := wz1 w w1); (try have := wz2 w w1); (try have := wz3 w w1); (try have := wz4 w w1)
          go_wp2_with fail
          refine (H2.out _).mono ?_
          rintro e w2 ⟨rfl, h2⟩
          obtain ⟨hc_w2, hf_w2, hz_w2⟩ := bcell h2; (try simp only [szA] at hz_w2); (try have := wz0 w w2); (try have := wz1 w w2); (try have := wz2 w w2); (try have := wz3 w w2); (try have := wz4 w w2)
          go_wp2_with fail
          refine (H3.out _).mono ?_
          rintro e w3 ⟨rfl, h3⟩
          obtain ⟨hc_w3, hf_w3, hz_w3⟩ := bcell h3; (try simp only [szA] at hz_w3); (try have := wz0 w w3); (try have := wz1 w w3); (try have := wz2 w w3); (try have := wz3 w w3); (try have := wz4 w w3)
          go_wp2_with fail
          refine (H4.out _).mono ?_
          rintro e w4 ⟨rfl, h4⟩
          obtain ⟨hc_w4, hf_w4, hz_w4⟩ := bcell h4; (try simp only [szA] at hz_w4); (try have := wz0 w w4); (try have := wz1 w w4); (try have := wz2 w w4); (try have := wz3 w w4); (try have := wz4 w w4)
          go_wp2_with fail
          have e4 : Ext w w4 := ext_by
          go_loopw [37] (fun i wr => ∃ k : Nat, k ≤ 2 ∧ i = .int .i64 k ∧ Hid ((0 < k → -33554432 ≤ xl ∧ xh ≤ 33554432) ∧ (1 < k → -33554432 ≤ yl ∧ yh ≤ 33554432)) ∧ Ext w wr) (fun i _ => 2 - (intOf i).toNat)
          case atStart => exact ⟨0, Nat.zero_le _, rfl, Lib.hid ⟨by omega, by omega⟩, e4⟩
          case round =>
            obtain ⟨k, hk, rfl, HI, hb⟩ := hrel
            by_cases hk2 : k < 2
            · obtain ⟨X, Y, hX⟩ : ∃ X Y, (k = 0 ∧ X = xl ∧ Y = xh) ∨ (k = 1 ∧ X = yl ∧ Y = yh) := by
                by_cases h : k = 0
                · exact ⟨xl, xh, .inl ⟨h, rfl, rfl⟩⟩
                · exact ⟨yl, yh, .inr ⟨by omega, rfl, rfl⟩⟩
              have ixk : ∀ W, (Instr.index 104 (.agg #[.int .i64 xl, .int .i64 xh, .int .i64 yl, .int .i64 yh]) (.int .i64 (k : Int))).run Try.prog W = .ok (.agg #[.int .i64 X, .int .i64 Y]) W := by
                rcases hX with ⟨rfl, rfl, rfl⟩ | ⟨rfl, rfl, rfl⟩ <;> intro W <;> kernel_rfl
              have HX := Lib.hid hX
              clear hX
              have hkb : (k : Int) < 2 := by omega
              by_cases c1 : X < -33554432
              · go_wp2_with fail
                go_ret
                refine ⟨ret_i ?_, ext_by⟩
                rw [← HR.out, if_neg]
                simp only [Bool.and_eq_true, decide_eq_true_eq]
                have := HX.out
                omega
              · by_cases c2 : 33554432 < Y
                · go_wp2_with fail
                  go_ret
                  refine ⟨ret_i ?_, ext_by⟩
                  rw [← HR.out, if_neg]
                  simp only [Bool.and_eq_true, decide_eq_true_eq]
                  have := HX.out
                  omega
                · go_wp2_with fail
                  go_roundw
                  case rel => exact ⟨k + 1, by omega, by go_num, Lib.hid (by have := HX.out; have := HI.out; omega), ext_by⟩
                  case measure => simp [intOf]; omega
            · obtain rfl : k = 2 := by omega
              go_wp2_with fail
              go_ret
              refine ⟨ret_i ?_, ext_by⟩
              rw [← HR.out, if_pos]
              simp only [Bool.and_eq_true, decide_eq_true_eq]
              have := HI.out
              omega
        · rw [if_neg h4]
          go_enter Try.func37, Try.ntmps37
          go_wp2_with fail
          refine (H1.out _ ext_by).mono ?_
          rintro e w1 ⟨rfl, h1⟩
          obtain ⟨hc_w1, hf_w1, hz_w1⟩ := bcell h1; (try simp only [szA] at hz_w1); (try have := wz0 w w1); (try have := wz1 w w1); (try have := wz2 w w1); (try have := wz3 w w1); (try have := wz4 w w1)
          go_wp2_with fail
          refine (H2.out _).mono ?_
          rintro e w2 ⟨rfl, h2⟩
          obtain ⟨hc_w2, hf_w2, hz_w2⟩ := bcell h2; (try simp only [szA] at hz_w2); (try have := wz0 w w2); (try have := wz1 w w2); (try have := wz2 w w2); (try have := wz3 w w2); (try have := wz4 w w2)
          go_wp2_with fail
          refine (H3.out _).mono ?_
          rintro e w3 ⟨rfl, h3⟩
          obtain ⟨hc_w3, hf_w3, hz_w3⟩ := bcell h3; (try simp only [szA] at hz_w3); (try have := wz0 w w3); (try have := wz1 w w3); (try have := wz2 w w3); (try have := wz3 w w3); (try have := wz4 w w3)
          go_wp2_with fail
          refine (H4.out _).mono ?_
          rintro e w4 ⟨rfl, h4⟩
          obtain ⟨hc_w4, hf_w4, hz_w4⟩ := bcell h4; (try simp only [szA] at hz_w4); (try have := wz0 w w4); (try have := wz1 w w4); (try have := wz2 w w4); (try have := wz3 w w4); (try have := wz4 w w4)
          go_wp2_with fail
          go_ret
          exact ⟨rfl, ext_by⟩
    · rw [if_neg h2]
      go_enter Try.func37, Try.ntmps37
      go_wp2_with fail
      refine (H1.out _ ext_by).mono ?_
      rintro e w1 ⟨rfl, h1⟩
      obtain ⟨hc_w1, hf_w1, hz_w1⟩ := bcell h1; (try simp only [szA] at hz_w1); (try have := wz0 w w1); (try have := wz1 w w1); (try have := wz2 w w1); (try have := wz3 w w1); (try have := wz4 w w1)
      go_wp2_with fail
      refine (H2.out _).mono ?_
      rintro e w2 ⟨rfl, h2⟩
      obtain ⟨hc_w2, hf_w2, hz_w2⟩ := bcell h2; (try simp only [szA] at hz_w2); (try have := wz0 w w2); (try have := wz1 w w2); (try have := wz2 w w2); (try have := wz3 w w2); (try have := wz4 w w2)
      go_wp2_with fail
      go_ret
      exact ⟨rfl, ext_by⟩
  · rw [if_neg h1]
    go_enter Try.func37, Try.ntmps37
    go_wp2_with fail
    refine (H1.out _ ext_by).mono ?_
    rintro e w1 ⟨rfl, h1⟩
    obtain ⟨hc_w1, hf_w1, hz_w1⟩ := bcell h1; (try simp only [szA] at hz_w1); (try have := wz0 w w1); (try have := wz1 w w1); (try have := wz2 w w1); (try have := wz3 w w1); (try have := wz4 w w1)
    go_wp2_with fail
    go_ret
    exact ⟨rfl, ext_by⟩
end Go.Proofs.Ytfniicgoeljmdaa
