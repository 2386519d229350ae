/- Roots of spans, and which areas are valid: the reference. No condition. Which drifts and questions are valid, and the operations on spans: the reference of force. No condition. -/
import Derived.Test.YtfniicgoeljmdaaGreatRefSpan
import Derived.Test.YtfniicgoeljmdaaGreatForceOps
import Derived.Test.YtfniicgoeljmdaaGreatRefArith
namespace Go.Proofs.YtfniicgoeljmdaaGreat
open Go.RowKit

def SInv (n : Nat) (out bit : Int) (k : Nat) : Prop := ∃ o : Nat, out = o ∧ o + 2 ^ k ≤ 4294967296 ∧ rootF n k o = rootN n ∧ bit = bitOf k
theorem sinv_step {n : Nat} {out bit : Int} {k : Nat} (h : SInv n out bit (k + 1)) (hn : n ≤ 9223372036854775807) :
    0 < bit ∧ 0 ≤ out ∧ out + bit ≤ 4294967296 ∧ ∃ b' : Int, bit.tdiv 2 = b' ∧ b' < bit ∧ 0 ≤ b' ∧ ((out + bit ≤ 3037000499 ∧ (out + bit) * (out + bit) ≤ n) → SInv n (out + bit) b' k) ∧ ((3037000499 < out + bit ∨ (n : Int) < (out + bit) * (out + bit)) → SInv n out b' k) := by
  obtain ⟨o, rfl, h2, h3, rfl⟩ := h
  have hp : 0 < 2 ^ k := Nat.pow_pos (by omega)
  have hp2 : 2 ^ (k + 1) = 2 * 2 ^ k := by rw [Nat.pow_succ, Nat.mul_comm]
  rw [show bitOf (k + 1) = 2 ^ k from rfl]
  have hb : ((2 : Int) ^ k) = ((2 ^ k : Nat) : Int) := by push_cast; rfl
  have hb2 : ((2 : Int) ^ k).tdiv 2 = bitOf k := by
    cases k with
    | zero => rfl
    | succ j =>
      rw [show bitOf (j + 1) = 2 ^ j from rfl, Int.pow_succ, Int.mul_tdiv_cancel _ (by omega)]
  have hb3 : bitOf k < 2 ^ k ∧ 0 ≤ bitOf k := by
    cases k with
    | zero => exact ⟨by decide, by decide⟩
    | succ j =>
      rw [show bitOf (j + 1) = 2 ^ j from rfl, Int.pow_succ]
      have : (0 : Int) < 2 ^ j := Int.pow_pos (by omega)
      omega
  refine ⟨by rw [hb]; omega, by omega, by rw [hb]; omega, _, hb2, hb3.1, hb3.2, fun ⟨_, h⟩ => ?_, fun h => ?_⟩
  · rw [hb, ← Int.natCast_add, ← Int.natCast_mul] at h
    refine ⟨o + 2 ^ k, by rw [hb]; rfl, by omega, ?_, rfl⟩
    rw [← h3, rootF_step, if_pos (by omega)]
  · refine ⟨o, rfl, by omega, ?_, rfl⟩
    rw [← h3, rootF_step, if_neg]
    rcases h with h | h
    · rw [hb] at h
      have h5 : 3037000500 ≤ o + 2 ^ k := by omega
      have := Nat.mul_le_mul h5 h5
      omega
    · rw [hb, ← Int.natCast_add, ← Int.natCast_mul] at h
      omega
set_option maxHeartbeats 1000000 in
theorem rRoot_c (n : Int) (w : World) (hn : isI64 n) :
    Calls Tryz.prog 256 #[.int .i64 n] w fun e w' => e = .returned (.int .i64 (rootI n)) ∧ w = w' := by
  by_cases h0 : n < 0
  · have e : rootI n = -1 := by unfold rootI; rw [if_pos h0]
    rw [e]
    clear e
    go_enter Tryz.func256, Tryz.ntmps256
    go_wp2_with fail
    go_ret
    exact ⟨rfl, rfl⟩
  · have e : rootI n = (rootN n.toNat : Int) := by unfold rootI; rw [if_neg h0]
    rw [e]
    obtain ⟨m, hm⟩ : ∃ m : Nat, m = n.toNat := ⟨_, rfl⟩
    have hmn : (m : Int) = n := by omega
    have hm2 : m ≤ 9223372036854775807 := by unfold isI64 at hn; omega
    rw [← hm]
    have HN := Lib.hid hm2
    have HZ := Lib.hid hmn
    obtain ⟨R, hR⟩ : ∃ z : Int, z = rootN m := ⟨_, rfl⟩
    rw [← hR]
    have HR := Lib.hid hR
    clear hR hm hmn hm2 e hn
    go_enter Tryz.func256, Tryz.ntmps256
    go_wp2_with fail
    go_loopw [3, 4] (fun ov bv wr => ∃ (out bit : Int) (k : Nat), ov = .int .i64 out ∧ bv = .int .i64 bit ∧ Hid (SInv m out bit k) ∧ wr = w) (fun _ bv _ => (intOf bv).toNat)
    case atStart => exact ⟨0, 2147483648, 32, rfl, rfl, Lib.hid ⟨0, rfl, by decide, rfl, by decide⟩, rfl⟩
    case round =>
      obtain ⟨out, bit, k, rfl, rfl, HI, rfl⟩ := hrel
      cases k with
      | zero =>
        obtain ⟨o, h1, _, h3, h4⟩ := HI.out
        rw [show bitOf 0 = 0 from rfl] at h4
        subst h4
        have h5 : out = R := by rw [h1, HR.out, ← h3]; rfl
        subst h5
        clear h1 h3 HI HR
        go_wp2_with fail
        go_ret
        exact ⟨rfl, rfl⟩
      | succ k =>
        obtain ⟨hb, ho, hs, b', e3, e6, e7, e4, e5⟩ := sinv_step HI.out HN.out
        rw [HZ.out] at e4 e5
        have E4 := Lib.hid e4
        have E5 := Lib.hid e5
        clear e4 e5 HI
        rcases (show 3037000499 < out + bit ∨ (out + bit ≤ 3037000499 ∧ n < (out + bit) * (out + bit)) ∨ (out + bit ≤ 3037000499 ∧ (out + bit) * (out + bit) ≤ n) by omega) with hy | ⟨hy1, hy2⟩ | ⟨hy1, hy2⟩
        · have HI2 := Lib.hid (E5.out (.inl hy))
          go_wp2_with fail
          go_roundw
          case rel => exact ⟨out, b', k, rfl, rfl, HI2, trivial⟩
          case measure => simp [intOf]; omega
        · have HI2 := Lib.hid (E5.out (.inr hy2))
          have q0 : 0 ≤ (out + bit) * (out + bit) := Int.mul_nonneg (by omega) (by omega)
          have q1 : (out + bit) * (out + bit) ≤ 9223372036854775807 := by
            have := Int.mul_le_mul hy1 hy1 (by omega) (by omega)
            omega
          go_wp2_with fail
          go_roundw
          case rel => exact ⟨out, b', k, rfl, rfl, HI2, trivial⟩
          case measure => simp [intOf]; omega
        · have HI2 := Lib.hid (E4.out ⟨hy1, hy2⟩)
          have q0 : 0 ≤ (out + bit) * (out + bit) := Int.mul_nonneg (by omega) (by omega)
          have q1 : (out + bit) * (out + bit) ≤ 9223372036854775807 := by
            have := Int.mul_le_mul hy1 hy1 (by omega) (by omega)
            omega
          go_wp2_with fail
          go_roundw
          case rel => exact ⟨out + bit, b', k, rfl, rfl, HI2, trivial⟩
          case measure => simp [intOf]; omega
set_option maxHeartbeats 1000000 in
theorem rRoots_c (lo hi : Int) (w : World) :
    Calls Tryz.prog 235 #[.agg #[.int .i64 lo, .int .i64 hi]] w fun e w' => e = .returned (spRV (rootsM ⟨lo, hi⟩)) ∧ Ext w w' := by
  have HV := Lib.hid fun W => rspCheck_c lo hi W
  unfold rootsM
  by_cases h0 : spErr ⟨lo, hi⟩ = 0
  · obtain ⟨h1, h2, h3⟩ := spErr_ok.1 h0
    dsimp only at h1 h2 h3
    rw [if_pos h0]
    rw [h0] at HV
    dsimp only
    by_cases hn : lo < 0
    · rw [if_pos hn]
      clear h0
      go_enter Tryz.func235, Tryz.ntmps235
      go_wp2_with fail
      refine (HV.out _).mono ?_
      rintro e w1 ⟨rfl, h1⟩
      obtain ⟨hc_w1, hf_w1, hz_w1⟩ := bcell h1; (try simp only [szA] at hz_w1); (try have := wz0 w w1); (try have := wz1 w w1); (try have := wz2 w w1); (try have := wz3 w w1); (try have := wz4 w w1)
      go_wp2_with fail
      (try simp only [Exit.inBlock, Exit.then]); apply bodyPost_ret; (focus (simp only [results, Tryz.results235]; go_simp; try rfl)); rfl
      exact ⟨rfl, ext_by⟩
    · rw [if_neg hn]
      have R1 := Lib.hid fun W => rRoot_c hi W ⟨by omega, by omega⟩
      have R2 := Lib.hid fun W => rRoot_c lo W ⟨by omega, by omega⟩
      have b := rootI_mono (a := lo) (b := hi) (by omega) (by omega) (by omega)
      unfold upM at b ⊢
      generalize rootI lo = r2 at *
      generalize rootI hi = r1 at *
      obtain ⟨b1, b2, b3, b4, b5, b6⟩ := b
      have m0 : 0 ≤ r1 * r1 := Int.mul_nonneg (by omega) (by omega)
      have m1 : r1 * r1 ≤ 1152921504606846976 := by
        have := Int.mul_le_mul b6 b6 (by omega) (by omega)
        omega
      have hn' : 0 ≤ lo := by omega
      clear h0 b3 b4 b5 hn
      by_cases hu : r1 * r1 < hi
      · rw [if_pos hu]
        go_enter Tryz.func235, Tryz.ntmps235
        go_wp2_with fail
        refine (HV.out _).mono ?_
        rintro e w1 ⟨rfl, h1⟩
        obtain ⟨hc_w1, hf_w1, hz_w1⟩ := bcell h1; (try simp only [szA] at hz_w1); (try have := wz0 w w1); (try have := wz1 w w1); (try have := wz2 w w1); (try have := wz3 w w1); (try have := wz4 w w1)
        go_wp2_with fail
        refine (R1.out _).mono ?_
        rintro e _ ⟨rfl, rfl⟩
        go_wp2_with fail
        refine (R2.out _).mono ?_
        rintro e _ ⟨rfl, rfl⟩
        go_wp2_with fail
        (try simp only [Exit.inBlock, Exit.then]); apply bodyPost_ret; (focus (simp only [results, Tryz.results235]; go_simp; try rfl)); rfl
        exact ⟨rfl, ext_by⟩
      · rw [if_neg hu]
        have hu' : hi ≤ r1 * r1 := by omega
        go_enter Tryz.func235, Tryz.ntmps235
        go_wp2_with fail
        refine (HV.out _).mono ?_
        rintro e w1 ⟨rfl, h1⟩
        obtain ⟨hc_w1, hf_w1, hz_w1⟩ := bcell h1; (try simp only [szA] at hz_w1); (try have := wz0 w w1); (try have := wz1 w w1); (try have := wz2 w w1); (try have := wz3 w w1); (try have := wz4 w w1)
        go_wp2_with fail
        refine (R1.out _).mono ?_
        rintro e _ ⟨rfl, rfl⟩
        go_wp2_with fail
        refine (R2.out _).mono ?_
        rintro e _ ⟨rfl, rfl⟩
        go_wp2_with fail
        (try simp only [Exit.inBlock, Exit.then]); apply bodyPost_ret; (focus (simp only [results, Tryz.results235]; go_simp; try rfl)); rfl
        exact ⟨rfl, ext_by⟩
  · rw [if_neg h0]
    generalize spErr ⟨lo, hi⟩ = E at *
    go_enter Tryz.func235, Tryz.ntmps235
    go_wp2_with fail
    refine (HV.out _).mono ?_
    rintro e w1 ⟨rfl, h1⟩
    obtain ⟨hc_w1, hf_w1, hz_w1⟩ := bcell h1; (try simp only [szA] at hz_w1); (try have := wz0 w w1); (try have := wz1 w w1); (try have := wz2 w w1); (try have := wz3 w w1); (try have := wz4 w w1)
    go_wp2_with fail
    (try simp only [Exit.inBlock, Exit.then]); apply bodyPost_ret; (focus (simp only [results, Tryz.results235]; go_simp; try rfl)); rfl
    exact ⟨rfl, ext_by⟩
set_option maxHeartbeats 400000 in
theorem rFar_c (n : Int) (w : World) :
    Calls Tryz.prog 231 #[.int .i64 n] w fun e w' => e = .returned (.bool (within n (-268435456) 268435456)) ∧ Ext w w' := by
  have H := Lib.hid fun W => rsp_between_c n (-268435456) 268435456 W
  generalize within n _ _ = R at *
  go_enter Tryz.func231, Tryz.ntmps231
  go_wp2_with fail
  refine (H.out _).mono ?_
  rintro e _ ⟨rfl, rfl⟩
  go_wp2_with fail
  go_ret
  exact ⟨rfl, ext_by⟩
set_option maxRecDepth 20000 in
set_option maxHeartbeats 1000000 in
theorem rArea_c (xl xh yl yh : Int) (w : World) :
    Calls Tryz.prog 204 #[.agg #[.int .i64 xl, .int .i64 xh, .int .i64 yl, .int .i64 yh]] w fun e w' => e = .returned (.int .i64 (areaErr ⟨⟨xl, xh⟩, ⟨yl, yh⟩⟩)) ∧ Ext w w' := by
  have HV := Lib.hid fun W => rspBoth_c xl xh yl yh W
  have F1 := Lib.hid fun W => rFar_c xl W
  have F2 := Lib.hid fun W => rFar_c xh W
  have F3 := Lib.hid fun W => rFar_c yl W
  have F4 := Lib.hid fun W => rFar_c yh W
  unfold areaErr far4
  dsimp only
  generalize within xl (-268435456) 268435456 = k1 at *
  generalize within xh (-268435456) 268435456 = k2 at *
  generalize within yl (-268435456) 268435456 = k3 at *
  generalize within yh (-268435456) 268435456 = k4 at *
  by_cases h0 : sp2Err ⟨xl, xh⟩ ⟨yl, yh⟩ = 0
  · rw [if_pos h0]
    rw [h0] at HV
    clear h0
    rcases (show (k1 = false) ∨ (k1 = true ∧ k2 = false) ∨ (k1 = true ∧ k2 = true ∧ k3 = false) ∨ (k1 = true ∧ k2 = true ∧ k3 = true ∧ k4 = false) ∨ (k1 = true ∧ k2 = true ∧ k3 = true ∧ k4 = true) by cases k1 <;> cases k2 <;> cases k3 <;> cases k4 <;> simp) with rfl | ⟨rfl, rfl⟩ | ⟨rfl, rfl, rfl⟩ | ⟨rfl, rfl, rfl, rfl⟩ | ⟨rfl, rfl, rfl, rfl⟩
    · go_enter Tryz.func204, Tryz.ntmps204
      go_wp2_with fail
      refine (HV.out _).mono ?_
      rintro e w1 ⟨rfl, h1⟩
      obtain ⟨hc_w1, hf_w1, hz_w1⟩ := bcell h1; (try simp only [szA] at hz_w1); (try have := wz0 w w1); (try have := wz1 w w1); (try have := wz2 w w1); (try have := wz3 w w1); (try have := wz4 w w1)
      go_wp2_with fail
      refine (F1.out _).mono ?_
      rintro e w2 ⟨rfl, h2⟩
      obtain ⟨hc_w2, hf_w2, hz_w2⟩ := bcell h2; (try simp only [szA] at hz_w2); (try have := wz0 w w2); (try have := wz1 w w2); (try have := wz2 w w2); (try have := wz3 w w2); (try have := wz4 w w2)
      go_wp2_with fail
      go_ret
      exact ⟨ret_i (by simp), ext_by⟩
    · go_enter Tryz.func204, Tryz.ntmps204
      go_wp2_with fail
      refine (HV.out _).mono ?_
      rintro e w1 ⟨rfl, h1⟩
      obtain ⟨hc_w1, hf_w1, hz_w1⟩ := bcell h1; (try simp only [szA] at hz_w1); (try have := wz0 w w1); (try have := wz1 w w1); (try have := wz2 w w1); (try have := wz3 w w1); (try have := wz4 w w1)
      go_wp2_with fail
      refine (F1.out _).mono ?_
      rintro e w2 ⟨rfl, h2⟩
      obtain ⟨hc_w2, hf_w2, hz_w2⟩ := bcell h2; (try simp only [szA] at hz_w2); (try have := wz0 w w2); (try have := wz1 w w2); (try have := wz2 w w2); (try have := wz3 w w2); (try have := wz4 w w2)
      go_wp2_with fail
      refine (F2.out _).mono ?_
      rintro e w3 ⟨rfl, h3⟩
      obtain ⟨hc_w3, hf_w3, hz_w3⟩ := bcell h3; (try simp only [szA] at hz_w3); (try have := wz0 w w3); (try have := wz1 w w3); (try have := wz2 w w3); (try have := wz3 w w3); (try have := wz4 w w3)
      go_wp2_with fail
      go_ret
      exact ⟨ret_i (by simp), ext_by⟩
    · go_enter Tryz.func204, Tryz.ntmps204
      go_wp2_with fail
      refine (HV.out _).mono ?_
      rintro e w1 ⟨rfl, h1⟩
      obtain ⟨hc_w1, hf_w1, hz_w1⟩ := bcell h1; (try simp only [szA] at hz_w1); (try have := wz0 w w1); (try have := wz1 w w1); (try have := wz2 w w1); (try have := wz3 w w1); (try have := wz4 w w1)
      go_wp2_with fail
      refine (F1.out _).mono ?_
      rintro e w2 ⟨rfl, h2⟩
      obtain ⟨hc_w2, hf_w2, hz_w2⟩ := bcell h2; (try simp only [szA] at hz_w2); (try have := wz0 w w2); (try have := wz1 w w2); (try have := wz2 w w2); (try have := wz3 w w2); (try have := wz4 w w2)
      go_wp2_with fail
      refine (F2.out _).mono ?_
      rintro e w3 ⟨rfl, h3⟩
      obtain ⟨hc_w3, hf_w3, hz_w3⟩ := bcell h3; (try simp only [szA] at hz_w3); (try have := wz0 w w3); (try have := wz1 w w3); (try have := wz2 w w3); (try have := wz3 w w3); (try have := wz4 w w3)
      go_wp2_with fail
      refine (F3.out _).mono ?_
      rintro e w4 ⟨rfl, h4⟩
      obtain ⟨hc_w4, hf_w4, hz_w4⟩ := bcell h4; (try simp only [szA] at hz_w4); (try have := wz0 w w4); (try have := wz1 w w4); (try have := wz2 w w4); (try have := wz3 w w4); (try have := wz4 w w4)
      go_wp2_with fail
      go_ret
      exact ⟨ret_i (by simp), ext_by⟩
    · go_enter Tryz.func204, Tryz.ntmps204
      go_wp2_with fail
      refine (HV.out _).mono ?_
      rintro e w1 ⟨rfl, h1⟩
      obtain ⟨hc_w1, hf_w1, hz_w1⟩ := bcell h1; (try simp only [szA] at hz_w1); (try have := wz0 w w1); (try have := wz1 w w1); (try have := wz2 w w1); (try have := wz3 w w1); (try have := wz4 w w1)
      go_wp2_with fail
      refine (F1.out _).mono ?_
      rintro e w2 ⟨rfl, h2⟩
      obtain ⟨hc_w2, hf_w2, hz_w2⟩ := bcell h2; (try simp only [szA] at hz_w2); (try have := wz0 w w2); (try have := wz1 w w2); (try have := wz2 w w2); (try have := wz3 w w2); (try have := wz4 w w2)
      go_wp2_with fail
      refine (F2.out _).mono ?_
      rintro e w3 ⟨rfl, h3⟩
      obtain ⟨hc_w3, hf_w3, hz_w3⟩ := bcell h3; (try simp only [szA] at hz_w3); (try have := wz0 w w3); (try have := wz1 w w3); (try have := wz2 w w3); (try have := wz3 w w3); (try have := wz4 w w3)
      go_wp2_with fail
      refine (F3.out _).mono ?_
      rintro e w4 ⟨rfl, h4⟩
      obtain ⟨hc_w4, hf_w4, hz_w4⟩ := bcell h4; (try simp only [szA] at hz_w4); (try have := wz0 w w4); (try have := wz1 w w4); (try have := wz2 w w4); (try have := wz3 w w4); (try have := wz4 w w4)
      go_wp2_with fail
      refine (F4.out _).mono ?_
      rintro e w5 ⟨rfl, h5⟩
      obtain ⟨hc_w5, hf_w5, hz_w5⟩ := bcell h5; (try simp only [szA] at hz_w5); (try have := wz0 w w5); (try have := wz1 w w5); (try have := wz2 w w5); (try have := wz3 w w5); (try have := wz4 w w5)
      go_wp2_with fail
      go_ret
      exact ⟨ret_i (by simp), ext_by⟩
    · go_enter Tryz.func204, Tryz.ntmps204
      go_wp2_with fail
      refine (HV.out _).mono ?_
      rintro e w1 ⟨rfl, h1⟩
      obtain ⟨hc_w1, hf_w1, hz_w1⟩ := bcell h1; (try simp only [szA] at hz_w1); (try have := wz0 w w1); (try have := wz1 w w1); (try have := wz2 w w1); (try have := wz3 w w1); (try have := wz4 w w1)
      go_wp2_with fail
      refine (F1.out _).mono ?_
      rintro e w2 ⟨rfl, h2⟩
      obtain ⟨hc_w2, hf_w2, hz_w2⟩ := bcell h2; (try simp only [szA] at hz_w2); (try have := wz0 w w2); (try have := wz1 w w2); (try have := wz2 w w2); (try have := wz3 w w2); (try have := wz4 w w2)
      go_wp2_with fail
      refine (F2.out _).mono ?_
      rintro e w3 ⟨rfl, h3⟩
      obtain ⟨hc_w3, hf_w3, hz_w3⟩ := bcell h3; (try simp only [szA] at hz_w3); (try have := wz0 w w3); (try have := wz1 w w3); (try have := wz2 w w3); (try have := wz3 w w3); (try have := wz4 w w3)
      go_wp2_with fail
      refine (F3.out _).mono ?_
      rintro e w4 ⟨rfl, h4⟩
      obtain ⟨hc_w4, hf_w4, hz_w4⟩ := bcell h4; (try simp only [szA] at hz_w4); (try have := wz0 w w4); (try have := wz1 w w4); (try have := wz2 w w4); (try have := wz3 w w4); (try have := wz4 w w4)
      go_wp2_with fail
      refine (F4.out _).mono ?_
      rintro e w5 ⟨rfl, h5⟩
      obtain ⟨hc_w5, hf_w5, hz_w5⟩ := bcell h5; (try simp only [szA] at hz_w5); (try have := wz0 w w5); (try have := wz1 w w5); (try have := wz2 w w5); (try have := wz3 w w5); (try have := wz4 w w5)
      go_wp2_with fail
      go_ret
      exact ⟨ret_i (by simp), ext_by⟩
  · rw [if_neg h0]
    generalize sp2Err ⟨xl, xh⟩ ⟨yl, yh⟩ = E at *
    go_enter Tryz.func204, Tryz.ntmps204
    go_wp2_with fail
    refine (HV.out _).mono ?_
    rintro e w1 ⟨rfl, h1⟩
    obtain ⟨hc_w1, hf_w1, hz_w1⟩ := bcell h1; (try simp only [szA] at hz_w1); (try have := wz0 w w1); (try have := wz1 w w1); (try have := wz2 w w1); (try have := wz3 w w1); (try have := wz4 w w1)
    go_wp2_with fail
    go_ret
    exact ⟨rfl, ext_by⟩
end Go.Proofs.YtfniicgoeljmdaaGreat

namespace Go.Proofs.YtfniicgoeljmdaaGreat
open Go.RowKit

set_option maxHeartbeats 400000 in
theorem gBetween_c (a b c : Int) (w : World) :
    Calls Tryz.prog 147 #[.int .i64 a, .int .i64 b, .int .i64 c] w fun e w' => e = .returned (.bool (within a b c)) ∧ Ext w w' := by
  go_enter Tryz.func147, Tryz.ntmps147
  go_wp2
  all_goals go_ret
  all_goals exact ⟨ret_b (by simp [within, *] <;> omega), Ext.refl _⟩
set_option maxHeartbeats 400000 in
theorem gPart_c (lo hi a b : Int) (w : World) :
    Calls Tryz.prog 146 #[.agg #[.int .i64 lo, .int .i64 hi], .int .i64 a, .int .i64 b] w fun e w' => e = .returned (.int .i64 (boundErr ⟨lo, hi⟩ a b)) ∧ Ext w w' := by
  unfold boundErr
  dsimp only
  by_cases h1 : hi < lo
  · rw [if_pos h1]
    go_enter Tryz.func146, Tryz.ntmps146
    go_wp2_with fail
    go_ret
    exact ⟨rfl, ext_by⟩
  · rw [if_neg h1]
    by_cases h2 : lo < a
    · rw [if_pos (.inl h2)]
      go_enter Tryz.func146, Tryz.ntmps146
      go_wp2_with fail
      go_ret
      exact ⟨rfl, ext_by⟩
    · by_cases h3 : b < hi
      · rw [if_pos (.inr h3)]
        go_enter Tryz.func146, Tryz.ntmps146
        go_wp2_with fail
        go_ret
        exact ⟨rfl, ext_by⟩
      · rw [if_neg (by omega)]
        go_enter Tryz.func146, Tryz.ntmps146
        go_wp2_with fail
        go_ret
        exact ⟨rfl, ext_by⟩
set_option maxHeartbeats 1000000 in
theorem gCheckDrift_c (ll lh hl hh g : Int) (w : World) :
    Calls Tryz.prog 113 #[.agg #[.int .i64 ll, .int .i64 lh, .int .i64 hl, .int .i64 hh, .int .i64 g]] w fun e w' => e = .returned (.int .i64 (driftErr ⟨⟨ll, lh⟩, ⟨hl, hh⟩, g⟩)) ∧ Ext w w' := by
  have H1 := Lib.hid fun W => gPart_c ll lh 0 1000 W
  have H2 := Lib.hid fun W => gPart_c hl hh (-1000) 1000 W
  have H3 := Lib.hid fun W => gBetween_c g 0 1000 W
  unfold driftErr
  dsimp only
  generalize boundErr ⟨ll, lh⟩ 0 1000 = E1 at *
  generalize boundErr ⟨hl, hh⟩ (-1000) 1000 = E2 at *
  generalize within g 0 1000 = B at *
  by_cases h1 : E1 = 0
  · subst h1
    rw [if_pos rfl]
    by_cases h2 : E2 = 0
    · subst h2
      rw [if_pos rfl]
      cases B
      all_goals
        go_enter Tryz.func113, Tryz.ntmps113
        go_wp2_with fail
        refine (H1.out _).mono ?_
        rintro e w1 ⟨rfl, h1⟩
        obtain ⟨hc_w1, hf_w1, hz_w1⟩ := bcell h1; (try simp only [szA] at hz_w1); (try have := wz0 w w1); (try have := wz1 w w1); (try have := wz2 w w1); (try have := wz3 w w1); (try have := wz4 w w1)
        go_wp2_with fail
        refine (H2.out _).mono ?_
        rintro e w2 ⟨rfl, h2⟩
        obtain ⟨hc_w2, hf_w2, hz_w2⟩ := bcell h2; (try simp only [szA] at hz_w2); (try have := wz0 w w2); (try have := wz1 w w2); (try have := wz2 w w2); (try have := wz3 w w2); (try have := wz4 w w2)
        go_wp2_with fail
        refine (H3.out _).mono ?_
        rintro e w3 ⟨rfl, h3⟩
        obtain ⟨hc_w3, hf_w3, hz_w3⟩ := bcell h3; (try simp only [szA] at hz_w3); (try have := wz0 w w3); (try have := wz1 w w3); (try have := wz2 w w3); (try have := wz3 w w3); (try have := wz4 w w3)
        go_wp2_with fail
        go_ret
        exact ⟨rfl, ext_by⟩
    · rw [if_neg h2]
      go_enter Tryz.func113, Tryz.ntmps113
      go_wp2_with fail
      refine (H1.out _).mono ?_
      rintro e w1 ⟨rfl, h1⟩
      obtain ⟨hc_w1, hf_w1, hz_w1⟩ := bcell h1; (try simp only [szA] at hz_w1); (try have := wz0 w w1); (try have := wz1 w w1); (try have := wz2 w w1); (try have := wz3 w w1); (try have := wz4 w w1)
      go_wp2_with fail
      refine (H2.out _).mono ?_
      rintro e w2 ⟨rfl, h2⟩
      obtain ⟨hc_w2, hf_w2, hz_w2⟩ := bcell h2; (try simp only [szA] at hz_w2); (try have := wz0 w w2); (try have := wz1 w w2); (try have := wz2 w w2); (try have := wz3 w w2); (try have := wz4 w w2)
      go_wp2_with fail
      go_ret
      exact ⟨rfl, ext_by⟩
  · rw [if_neg h1]
    go_enter Tryz.func113, Tryz.ntmps113
    go_wp2_with fail
    refine (H1.out _).mono ?_
    rintro e w1 ⟨rfl, h1⟩
    obtain ⟨hc_w1, hf_w1, hz_w1⟩ := bcell h1; (try simp only [szA] at hz_w1); (try have := wz0 w w1); (try have := wz1 w w1); (try have := wz2 w w1); (try have := wz3 w w1); (try have := wz4 w w1)
    go_wp2_with fail
    go_ret
    exact ⟨rfl, ext_by⟩
set_option maxHeartbeats 400000 in
theorem gLimits_c (lo hi : Int) (w : World) :
    Calls Tryz.prog 205 #[.agg #[.int .i64 lo, .int .i64 hi]] w fun e w' => e = .returned (.bool (inPlace ⟨lo, hi⟩)) ∧ Ext w w' := by
  unfold inPlace
  dsimp only
  by_cases h1 : -33554432 ≤ lo
  · by_cases h2 : hi ≤ 33554432
    · go_enter Tryz.func205, Tryz.ntmps205
      go_wp2_with fail
      go_ret
      exact ⟨ret_b (by simp [h1, h2]), ext_by⟩
    · have h2' : 33554432 < hi := by omega
      go_enter Tryz.func205, Tryz.ntmps205
      go_wp2_with fail
      go_ret
      exact ⟨ret_b (by simp <;> omega), ext_by⟩
  · have h1' : lo < -33554432 := by omega
    go_enter Tryz.func205, Tryz.ntmps205
    go_wp2_with fail
    go_ret
    exact ⟨ret_b (by simp; intro h; omega), ext_by⟩
set_option maxRecDepth 4000 in
set_option maxHeartbeats 2000000 in
theorem gAsked_c (A : Option Addr) (n c : Nat) (home : Int) (l : List Body) (ll lh hl hh g tick xl xh yl yh : Int) (w : World) (hw : Bodies w A n l) :
    Calls Tryz.prog 164 #[.agg #[.slice A n c, .int .i64 home], .agg #[.int .i64 ll, .int .i64 lh, .int .i64 hl, .int .i64 hh, .int .i64 g], .int .i64 tick, .agg #[.int .i64 xl, .int .i64 xh, .int .i64 yl, .int .i64 yh]] w fun e w' =>
      e = .returned (.int .i64 (fAskErr l home ⟨⟨ll, lh⟩, ⟨hl, hh⟩, g⟩ tick ⟨⟨xl, xh⟩, ⟨yl, yh⟩⟩)) ∧ Ext w w' := by
  have H1 := Lib.hid fun W (hW : Ext w W) => refWorld_c A n c home l W (Bodies.ext hW hw)
  have H2 := Lib.hid fun W => gCheckDrift_c ll lh hl hh g W
  have H3 := Lib.hid fun W => gBetween_c tick 0 1073741824 W
  have H4 := Lib.hid fun W => rArea_c xl xh yl yh W
  have H5 := Lib.hid fun W => gLimits_c xl xh W
  have H6 := Lib.hid fun W => gLimits_c yl yh W
  unfold fAskErr
  dsimp only
  clear hw
  generalize wldErr ⟨l, home⟩ = E1 at *
  generalize driftErr ⟨⟨ll, lh⟩, ⟨hl, hh⟩, g⟩ = E2 at *
  generalize within tick 0 1073741824 = B at *
  generalize areaErr ⟨⟨xl, xh⟩, ⟨yl, yh⟩⟩ = E4 at *
  generalize inPlace ⟨xl, xh⟩ = P5 at *
  generalize inPlace ⟨yl, yh⟩ = P6 at *
  by_cases h1 : E1 = 0
  · subst h1
    rw [if_pos rfl]
    by_cases h2 : E2 = 0
    · subst h2
      rw [if_pos rfl]
      cases B
      · go_enter Tryz.func164, Tryz.ntmps164
        go_wp2_with fail
        refine (H1.out _ ext_by).mono ?_
        rintro e w1 ⟨rfl, h1⟩
        obtain ⟨hc_w1, hf_w1, hz_w1⟩ := bcell h1; (try simp only [szA] at hz_w1); (try have := wz0 w w1); (try have := wz1 w w1); (try have := wz2 w w1); (try have := wz3 w w1); (try have := wz4 w w1)
        go_wp2_with fail
        refine (H2.out _).mono ?_
        rintro e w2 ⟨rfl, h2⟩
        obtain ⟨hc_w2, hf_w2, hz_w2⟩ := bcell h2; (try simp only [szA] at hz_w2); (try have := wz0 w w2); (try have := wz1 w w2); (try have := wz2 w w2); (try have := wz3 w w2); (try have := wz4 w w2)
        go_wp2_with fail
        refine (H3.out _).mono ?_
        rintro e w3 ⟨rfl, h3⟩
        obtain ⟨hc_w3, hf_w3, hz_w3⟩ := bcell h3; (try simp only [szA] at hz_w3); (try have := wz0 w w3); (try have := wz1 w w3); (try have := wz2 w w3); (try have := wz3 w w3); (try have := wz4 w w3)
        go_wp2_with fail
        go_ret
        exact ⟨rfl, ext_by⟩
      · rw [if_pos rfl]
        by_cases h4 : E4 = 0
        · subst h4
          rw [if_pos rfl]
          cases P5
          · go_enter Tryz.func164, Tryz.ntmps164
            go_wp2_with fail
            refine (H1.out _ ext_by).mono ?_
            rintro e w1 ⟨rfl, h1⟩
            obtain ⟨hc_w1, hf_w1, hz_w1⟩ := bcell h1; (try simp only [szA] at hz_w1); (try have := wz0 w w1); (try have := wz1 w w1); (try have := wz2 w w1); (try have := wz3 w w1); (try have := wz4 w w1)
            go_wp2_with fail
            refine (H2.out _).mono ?_
            rintro e w2 ⟨rfl, h2⟩
            obtain ⟨hc_w2, hf_w2, hz_w2⟩ := bcell h2; (try simp only [szA] at hz_w2); (try have := wz0 w w2); (try have := wz1 w w2); (try have := wz2 w w2); (try have := wz3 w w2); (try have := wz4 w w2)
            go_wp2_with fail
            refine (H3.out _).mono ?_
            rintro e w3 ⟨rfl, h3⟩
            obtain ⟨hc_w3, hf_w3, hz_w3⟩ := bcell h3; (try simp only [szA] at hz_w3); (try have := wz0 w w3); (try have := wz1 w w3); (try have := wz2 w w3); (try have := wz3 w w3); (try have := wz4 w w3)
            go_wp2_with fail
            refine (H4.out _).mono ?_
            rintro e w4 ⟨rfl, h4⟩
            obtain ⟨hc_w4, hf_w4, hz_w4⟩ := bcell h4; (try simp only [szA] at hz_w4); (try have := wz0 w w4); (try have := wz1 w w4); (try have := wz2 w w4); (try have := wz3 w w4); (try have := wz4 w w4)
            go_wp2_with fail
            refine (H5.out _).mono ?_
            rintro e w5 ⟨rfl, h5⟩
            obtain ⟨hc_w5, hf_w5, hz_w5⟩ := bcell h5; (try simp only [szA] at hz_w5); (try have := wz0 w w5); (try have := wz1 w w5); (try have := wz2 w w5); (try have := wz3 w w5); (try have := wz4 w w5)
            go_wp2_with fail
            go_ret
            exact ⟨ret_i (by simp), ext_by⟩
          · cases P6
            all_goals go_enter Tryz.func164, Tryz.ntmps164
            all_goals go_wp2_with fail
            all_goals refine (H1.out _ ext_by).mono ?_
            all_goals rintro e w1 ⟨rfl, h1⟩
            all_goals obtain ⟨hc_w1, hf_w1, hz_w1⟩ := bcell h1; (try simp only [szA] at hz_w1); (try have := wz0 w w1); (try have := wz1 w w1); (try have := wz2 w w1); (try have := wz3 w w1); (try have := wz4 w w1)
            all_goals go_wp2_with fail
            all_goals refine (H2.out _).mono ?_
            all_goals rintro e w2 ⟨rfl, h2⟩
            all_goals obtain ⟨hc_w2, hf_w2, hz_w2⟩ := bcell h2; (try simp only [szA] at hz_w2); (try have := wz0 w w2); (try have := wz1 w w2); (try have := wz2 w w2); (try have := wz3 w w2); (try have := wz4 w w2)
            all_goals go_wp2_with fail
            all_goals refine (H3.out _).mono ?_
            all_goals rintro e w3 ⟨rfl, h3⟩
            all_goals obtain ⟨hc_w3, hf_w3, hz_w3⟩ := bcell h3; (try simp only [szA] at hz_w3); (try have := wz0 w w3); (try have := wz1 w w3); (try have := wz2 w w3); (try have := wz3 w w3); (try have := wz4 w w3)
            all_goals go_wp2_with fail
            all_goals refine (H4.out _).mono ?_
            all_goals rintro e w4 ⟨rfl, h4⟩
            all_goals obtain ⟨hc_w4, hf_w4, hz_w4⟩ := bcell h4; (try simp only [szA] at hz_w4); (try have := wz0 w w4); (try have := wz1 w w4); (try have := wz2 w w4); (try have := wz3 w w4); (try have := wz4 w w4)
            all_goals go_wp2_with fail
            all_goals refine (H5.out _).mono ?_
            all_goals rintro e w5 ⟨rfl, h5⟩
            all_goals obtain ⟨hc_w5, hf_w5, hz_w5⟩ := bcell h5; (try simp only [szA] at hz_w5); (try have := wz0 w w5); (try have := wz1 w w5); (try have := wz2 w w5); (try have := wz3 w w5); (try have := wz4 w w5)
            all_goals go_wp2_with fail
            all_goals refine (H6.out _).mono ?_
            all_goals rintro e w6 ⟨rfl, h6⟩
            all_goals obtain ⟨hc_w6, hf_w6, hz_w6⟩ := bcell h6; (try simp only [szA] at hz_w6); (try have := wz0 w w6); (try have := wz1 w w6); (try have := wz2 w w6); (try have := wz3 w w6); (try have := wz4 w w6)
            all_goals go_wp2_with fail
            all_goals go_ret
            all_goals exact ⟨ret_i (by simp), ext_by⟩
        · rw [if_neg h4]
          go_enter Tryz.func164, Tryz.ntmps164
          go_wp2_with fail
          refine (H1.out _ ext_by).mono ?_
          rintro e w1 ⟨rfl, h1⟩
          obtain ⟨hc_w1, hf_w1, hz_w1⟩ := bcell h1; (try simp only [szA] at hz_w1); (try have := wz0 w w1); (try have := wz1 w w1); (try have := wz2 w w1); (try have := wz3 w w1); (try have := wz4 w w1)
          go_wp2_with fail
          refine (H2.out _).mono ?_
          rintro e w2 ⟨rfl, h2⟩
          obtain ⟨hc_w2, hf_w2, hz_w2⟩ := bcell h2; (try simp only [szA] at hz_w2); (try have := wz0 w w2); (try have := wz1 w w2); (try have := wz2 w w2); (try have := wz3 w w2); (try have := wz4 w w2)
          go_wp2_with fail
          refine (H3.out _).mono ?_
          rintro e w3 ⟨rfl, h3⟩
          obtain ⟨hc_w3, hf_w3, hz_w3⟩ := bcell h3; (try simp only [szA] at hz_w3); (try have := wz0 w w3); (try have := wz1 w w3); (try have := wz2 w w3); (try have := wz3 w w3); (try have := wz4 w w3)
          go_wp2_with fail
          refine (H4.out _).mono ?_
          rintro e w4 ⟨rfl, h4⟩
          obtain ⟨hc_w4, hf_w4, hz_w4⟩ := bcell h4; (try simp only [szA] at hz_w4); (try have := wz0 w w4); (try have := wz1 w w4); (try have := wz2 w w4); (try have := wz3 w w4); (try have := wz4 w w4)
          go_wp2_with fail
          go_ret
          exact ⟨rfl, ext_by⟩
    · rw [if_neg h2]
      go_enter Tryz.func164, Tryz.ntmps164
      go_wp2_with fail
      refine (H1.out _ ext_by).mono ?_
      rintro e w1 ⟨rfl, h1⟩
      obtain ⟨hc_w1, hf_w1, hz_w1⟩ := bcell h1; (try simp only [szA] at hz_w1); (try have := wz0 w w1); (try have := wz1 w w1); (try have := wz2 w w1); (try have := wz3 w w1); (try have := wz4 w w1)
      go_wp2_with fail
      refine (H2.out _).mono ?_
      rintro e w2 ⟨rfl, h2⟩
      obtain ⟨hc_w2, hf_w2, hz_w2⟩ := bcell h2; (try simp only [szA] at hz_w2); (try have := wz0 w w2); (try have := wz1 w w2); (try have := wz2 w w2); (try have := wz3 w w2); (try have := wz4 w w2)
      go_wp2_with fail
      go_ret
      exact ⟨rfl, ext_by⟩
  · rw [if_neg h1]
    go_enter Tryz.func164, Tryz.ntmps164
    go_wp2_with fail
    refine (H1.out _ ext_by).mono ?_
    rintro e w1 ⟨rfl, h1⟩
    obtain ⟨hc_w1, hf_w1, hz_w1⟩ := bcell h1; (try simp only [szA] at hz_w1); (try have := wz0 w w1); (try have := wz1 w w1); (try have := wz2 w w1); (try have := wz3 w w1); (try have := wz4 w w1)
    go_wp2_with fail
    go_ret
    exact ⟨rfl, ext_by⟩
set_option maxHeartbeats 1000000 in
theorem gSum_c (al ah bl bh : Int) (w : World) :
    Calls Tryz.prog 168 #[.agg #[.int .i64 al, .int .i64 ah], .agg #[.int .i64 bl, .int .i64 bh]] w fun e w' => e = .returned (.agg #[.int .i64 (addS ⟨al, ah⟩ ⟨bl, bh⟩).lo, .int .i64 (addS ⟨al, ah⟩ ⟨bl, bh⟩).hi]) ∧ Ext w w' := by
  have H := Lib.hid fun W => rAdd_c al ah bl bh W
  unfold addS
  generalize addM _ _ = R at *
  obtain ⟨⟨rl, rh⟩, re⟩ := R
  go_enter Tryz.func168, Tryz.ntmps168
  go_wp2_with fail
  refine (H.out _).mono ?_
  rintro e w1 ⟨rfl, h1⟩
  obtain ⟨hc_w1, hf_w1, hz_w1⟩ := bcell h1; (try simp only [szA] at hz_w1); (try have := wz0 w w1); (try have := wz1 w w1); (try have := wz2 w w1); (try have := wz3 w w1); (try have := wz4 w w1)
  go_wp2_with fail
  (try simp only [Exit.inBlock, Exit.then]); apply bodyPost_ret; (focus (simp only [results, Tryz.results168]; go_simp; try rfl)); rfl
  exact ⟨rfl, ext_by⟩
set_option maxHeartbeats 1000000 in
theorem gLess_c (al ah bl bh : Int) (w : World) :
    Calls Tryz.prog 233 #[.agg #[.int .i64 al, .int .i64 ah], .agg #[.int .i64 bl, .int .i64 bh]] w fun e w' => e = .returned (.agg #[.int .i64 (subS ⟨al, ah⟩ ⟨bl, bh⟩).lo, .int .i64 (subS ⟨al, ah⟩ ⟨bl, bh⟩).hi]) ∧ Ext w w' := by
  have H := Lib.hid fun W => rSub_c al ah bl bh W
  unfold subS
  generalize subM _ _ = R at *
  obtain ⟨⟨rl, rh⟩, re⟩ := R
  go_enter Tryz.func233, Tryz.ntmps233
  go_wp2_with fail
  refine (H.out _).mono ?_
  rintro e w1 ⟨rfl, h1⟩
  obtain ⟨hc_w1, hf_w1, hz_w1⟩ := bcell h1; (try simp only [szA] at hz_w1); (try have := wz0 w w1); (try have := wz1 w w1); (try have := wz2 w w1); (try have := wz3 w w1); (try have := wz4 w w1)
  go_wp2_with fail
  (try simp only [Exit.inBlock, Exit.then]); apply bodyPost_ret; (focus (simp only [results, Tryz.results233]; go_simp; try rfl)); rfl
  exact ⟨rfl, ext_by⟩
set_option maxHeartbeats 1000000 in
theorem gProduct_c (al ah bl bh : Int) (w : World) :
    Calls Tryz.prog 232 #[.agg #[.int .i64 al, .int .i64 ah], .agg #[.int .i64 bl, .int .i64 bh]] w fun e w' => e = .returned (.agg #[.int .i64 (mulS ⟨al, ah⟩ ⟨bl, bh⟩).lo, .int .i64 (mulS ⟨al, ah⟩ ⟨bl, bh⟩).hi]) ∧ Ext w w' := by
  have H := Lib.hid fun W => rMul_c al ah bl bh W
  unfold mulS
  generalize mulM _ _ = R at *
  obtain ⟨⟨rl, rh⟩, re⟩ := R
  go_enter Tryz.func232, Tryz.ntmps232
  go_wp2_with fail
  refine (H.out _).mono ?_
  rintro e w1 ⟨rfl, h1⟩
  obtain ⟨hc_w1, hf_w1, hz_w1⟩ := bcell h1; (try simp only [szA] at hz_w1); (try have := wz0 w w1); (try have := wz1 w w1); (try have := wz2 w w1); (try have := wz3 w w1); (try have := wz4 w w1)
  go_wp2_with fail
  (try simp only [Exit.inBlock, Exit.then]); apply bodyPost_ret; (focus (simp only [results, Tryz.results232]; go_simp; try rfl)); rfl
  exact ⟨rfl, ext_by⟩
set_option maxHeartbeats 1000000 in
theorem gQuotient_c (al ah bl bh : Int) (w : World) :
    Calls Tryz.prog 212 #[.agg #[.int .i64 al, .int .i64 ah], .agg #[.int .i64 bl, .int .i64 bh]] w fun e w' => e = .returned (.agg #[.int .i64 (quotS ⟨al, ah⟩ ⟨bl, bh⟩).lo, .int .i64 (quotS ⟨al, ah⟩ ⟨bl, bh⟩).hi]) ∧ Ext w w' := by
  have H := Lib.hid fun W => rQuot_c al ah bl bh W
  unfold quotS
  generalize quotM _ _ = R at *
  obtain ⟨⟨rl, rh⟩, re⟩ := R
  go_enter Tryz.func212, Tryz.ntmps212
  go_wp2_with fail
  refine (H.out _).mono ?_
  rintro e w1 ⟨rfl, h1⟩
  obtain ⟨hc_w1, hf_w1, hz_w1⟩ := bcell h1; (try simp only [szA] at hz_w1); (try have := wz0 w w1); (try have := wz1 w w1); (try have := wz2 w w1); (try have := wz3 w w1); (try have := wz4 w w1)
  go_wp2_with fail
  (try simp only [Exit.inBlock, Exit.then]); apply bodyPost_ret; (focus (simp only [results, Tryz.results212]; go_simp; try rfl)); rfl
  exact ⟨rfl, ext_by⟩
set_option maxHeartbeats 1000000 in
theorem gSquared_c (lo hi : Int) (w : World) :
    Calls Tryz.prog 234 #[.agg #[.int .i64 lo, .int .i64 hi]] w fun e w' => e = .returned (.agg #[.int .i64 (squareS ⟨lo, hi⟩).lo, .int .i64 (squareS ⟨lo, hi⟩).hi]) ∧ Ext w w' := by
  have H := Lib.hid fun W => rSquare_c lo hi W
  unfold squareS
  generalize squareM _ = R at *
  obtain ⟨⟨rl, rh⟩, re⟩ := R
  go_enter Tryz.func234, Tryz.ntmps234
  go_wp2_with fail
  refine (H.out _).mono ?_
  rintro e w1 ⟨rfl, h1⟩
  obtain ⟨hc_w1, hf_w1, hz_w1⟩ := bcell h1; (try simp only [szA] at hz_w1); (try have := wz0 w w1); (try have := wz1 w w1); (try have := wz2 w w1); (try have := wz3 w w1); (try have := wz4 w w1)
  go_wp2_with fail
  (try simp only [Exit.inBlock, Exit.then]); apply bodyPost_ret; (focus (simp only [results, Tryz.results234]; go_simp; try rfl)); rfl
  exact ⟨rfl, ext_by⟩
set_option maxHeartbeats 1000000 in
theorem gMinus_c (lo hi : Int) (w : World) (h : -1152921504606846976 ≤ lo ∧ lo ≤ 1152921504606846976 ∧ -1152921504606846976 ≤ hi ∧ hi ≤ 1152921504606846976) :
    Calls Tryz.prog 206 #[.agg #[.int .i64 lo, .int .i64 hi]] w fun e w' => e = .returned (.agg #[.int .i64 (-hi), .int .i64 (-lo)]) ∧ Ext w w' := by
  obtain ⟨h1, h2, h3, h4⟩ := h
  go_enter Tryz.func206, Tryz.ntmps206
  go_wp2_with fail
  (try simp only [Exit.inBlock, Exit.then]); apply bodyPost_ret; (focus (simp only [results, Tryz.results206]; go_simp; try rfl)); rfl
  exact ⟨rfl, ext_by⟩
set_option maxHeartbeats 1000000 in
theorem gBounded_c (lo hi : Int) (w : World) :
    Calls Tryz.prog 211 #[.agg #[.int .i64 lo, .int .i64 hi]] w fun e w' => e = .returned (.agg #[.int .i64 (clampI lo), .int .i64 (clampI hi)]) ∧ Ext w w' := by
  unfold clampI
  go_enter Tryz.func211, Tryz.ntmps211
  go_wp2_with fail
  (try simp only [Exit.inBlock, Exit.then]); apply bodyPost_ret; (focus (simp only [results, Tryz.results211]; go_simp; try rfl)); rfl
  exact ⟨rfl, ext_by⟩
set_option maxHeartbeats 1000000 in
theorem gThousandth_c (al ah bl bh : Int) (w : World) :
    Calls Tryz.prog 207 #[.agg #[.int .i64 al, .int .i64 ah], .agg #[.int .i64 bl, .int .i64 bh]] w fun e w' => e = .returned (.agg #[.int .i64 (partM ⟨al, ah⟩ ⟨bl, bh⟩).lo, .int .i64 (partM ⟨al, ah⟩ ⟨bl, bh⟩).hi]) ∧ Ext w w' := by
  have H1 := Lib.hid fun W => gProduct_c al ah bl bh W
  unfold partM
  generalize mulS _ _ = m at *
  obtain ⟨ml, mh⟩ := m
  have H3 := Lib.hid fun W => gQuotient_c ml mh 1000 1000 W
  generalize quotS _ _ = q at *
  obtain ⟨ql, qh⟩ := q
  dsimp only at H1 H3
  go_enter Tryz.func207, Tryz.ntmps207
  go_wp2_with fail
  refine (H1.out _).mono ?_
  rintro e w1 ⟨rfl, h1⟩
  obtain ⟨hc_w1, hf_w1, hz_w1⟩ := bcell h1; (try simp only [szA] at hz_w1); (try have := wz0 w w1); (try have := wz1 w w1); (try have := wz2 w w1); (try have := wz3 w w1); (try have := wz4 w w1)
  go_wp2_with fail
  refine (H3.out _).mono ?_
  rintro e w2 ⟨rfl, h2⟩
  obtain ⟨hc_w2, hf_w2, hz_w2⟩ := bcell h2; (try simp only [szA] at hz_w2); (try have := wz0 w w2); (try have := wz1 w w2); (try have := wz2 w w2); (try have := wz3 w w2); (try have := wz4 w w2)
  go_wp2_with fail
  (try simp only [Exit.inBlock, Exit.then]); apply bodyPost_ret; (focus (simp only [results, Tryz.results207]; go_simp; try rfl)); rfl
  exact ⟨rfl, ext_by⟩
set_option maxHeartbeats 400000 in
theorem gAt_c (x y : Int) (w : World) :
    Calls Tryz.prog 128 #[.agg #[.int .i64 x, .int .i64 y]] w fun e w' => e = .returned (.agg #[.int .i64 x, .int .i64 x, .int .i64 y, .int .i64 y]) ∧ Ext w w' := by
  go_enter Tryz.func128, Tryz.ntmps128
  go_wp2_with fail
  (try simp only [Exit.inBlock, Exit.then]); apply bodyPost_ret; (focus (simp only [results, Tryz.results128]; go_simp; try rfl)); rfl
  exact ⟨rfl, ext_by⟩
set_option maxRecDepth 4000 in
set_option maxHeartbeats 2000000 in
theorem gTo_c (px py xl xh yl yh : Int) (w : World) :
    Calls Tryz.prog 208 #[.agg #[.int .i64 px, .int .i64 py], .agg #[.int .i64 xl, .int .i64 xh, .int .i64 yl, .int .i64 yh]] w fun e w' =>
      e = .returned (.tuple #[.agg #[.int .i64 (subS ⟨px, px⟩ ⟨xl, xh⟩).lo, .int .i64 (subS ⟨px, px⟩ ⟨xl, xh⟩).hi], .agg #[.int .i64 (subS ⟨py, py⟩ ⟨yl, yh⟩).lo, .int .i64 (subS ⟨py, py⟩ ⟨yl, yh⟩).hi]]) ∧ Ext w w' := by
  have H := Lib.hid fun (p q : Int) (r s : Int) W => gLess_c p q r s W
  go_enter Tryz.func208, Tryz.ntmps208
  go_wp2_with fail
  refine wp_region_forced 16 (Ext _) (Stable.ext _) (Ext.drew (Ext.refl _)) (by kernel_rfl) (by kernel_rfl) ?_
  simp only [List.take_succ_cons, List.take_zero, List.drop_succ_cons, List.drop_zero]
  (repeat' (first | (refine bl_off (by rfl) ?_; simp only [putX]) | (apply bl_op; rfl; (intro w1 h1; obtain ⟨hc, hf, hz⟩ := bcell h1; go_simp; (try go_bits); (first | exact ⟨rfl, Ext.refl _⟩ | (apply gives_call; first | (go_at_call 233; exact H.out _ _ _ _ _)) | (go_invoke; go_simp; apply gives_call; first | (go_at_call 233; exact H.out _ _ _ _ _)))); simp only [putX]) | (refine bl_split rfl rfl (fun hx => ?_) (fun hx => ?_) <;> simp only [hx])))
  refine bl_nil ?_
  intro w1 h1
  obtain ⟨hc_w1, hf_w1, hz_w1⟩ := bcell h1; (try simp only [szA] at hz_w1); (try have := wz0 w w1); (try have := wz1 w w1); (try have := wz2 w w1); (try have := wz3 w w1); (try have := wz4 w w1)
  go_wp2_with fail
  (try simp only [Exit.inBlock, Exit.then]); apply bodyPost_ret; (focus (simp only [results, Tryz.results208]; go_simp; try rfl)); rfl
  exact ⟨rfl, ext_by⟩
end Go.Proofs.YtfniicgoeljmdaaGreat
