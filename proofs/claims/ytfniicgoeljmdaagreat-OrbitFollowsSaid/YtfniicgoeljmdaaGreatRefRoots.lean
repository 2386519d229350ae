/- Roots of spans, and which areas are valid: the reference. No condition. -/
import Derived.Test.YtfniicgoeljmdaaGreatRefSpan
import Derived.Test.YtfniicgoeljmdaaGreatSpanArea
namespace Go.Proofs.YtfniicgoeljmdaaGreat
open Go.RowKit

/-- The state of the reference's loop: k bits to go. -/
def SInv (n : Nat) (out bit : Int) (k : Nat) : Prop := ∃ o : Nat, out = o ∧ o + 2 ^ k ≤ 4294967296 ∧ rootF n k o = rootN n ∧ bit = bitOf k
theorem sinv_step {n : Nat} {out bit : Int} {k : Nat} (h : SInv n out bit (k + 1)) (hn : n ≤ 9223372036854775807) :
    0 < bit ∧ 0 ≤ out ∧ out + bit ≤ 4294967296 ∧ ∃ b' : Int, bit.tdiv 2 = b' ∧ b' < bit ∧ 0 ≤ b' ∧ ((out + bit ≤ 3037000499 ∧ (out + bit) * (out + bit) ≤ n) → SInv n (out + bit) b' k) ∧ ((3037000499 < out + bit ∨ (n : Int) < (out + bit) * (out + bit)) → SInv n out b' k) := by
  obtain ⟨o, rfl, h2, h3, rfl⟩ := h
  have hp : 0 < 2 ^ k := Nat.pow_pos (by omega)
  have hp2 : 2 ^ (k + 1) = 2 * 2 ^ k := by rw [Nat.pow_succ, Nat.mul_comm]
  rw [show bitOf (k + 1) = 2 ^ k from rfl]
  have hb : ((2 : Int) ^ k) = ((2 ^ k : Nat) : Int) := by push_cast; rfl
  have hb2 : ((2 : Int) ^ k).tdiv 2 = bitOf k := by
    cases k with
    | zero => rfl
    | succ j =>
      rw [show bitOf (j + 1) = 2 ^ j from rfl, Int.pow_succ, Int.mul_tdiv_cancel _ (by omega)]
  have hb3 : bitOf k < 2 ^ k ∧ 0 ≤ bitOf k := by
    cases k with
    | zero => exact ⟨by decide, by decide⟩
    | succ j =>
      rw [show bitOf (j + 1) = 2 ^ j from rfl, Int.pow_succ]
      have : (0 : Int) < 2 ^ j := Int.pow_pos (by omega)
      omega
  refine ⟨by rw [hb]; omega, by omega, by rw [hb]; omega, _, hb2, hb3.1, hb3.2, fun ⟨_, h⟩ => ?_, fun h => ?_⟩
  · rw [hb, ← Int.natCast_add, ← Int.natCast_mul] at h
    refine ⟨o + 2 ^ k, by rw [hb]; rfl, by omega, ?_, rfl⟩
    rw [← h3, rootF_step, if_pos (by omega)]
  · refine ⟨o, rfl, by omega, ?_, rfl⟩
    rw [← h3, rootF_step, if_neg]
    rcases h with h | h
    · rw [hb] at h
      have h5 : 3037000500 ≤ o + 2 ^ k := by omega
      have := Nat.mul_le_mul h5 h5
      omega
    · rw [hb, ← Int.natCast_add, ← Int.natCast_mul] at h
      omega
set_option maxHeartbeats 1000000 in
theorem rRoot_c (n : Int) (w : World) (hn : isI64 n) :
    Calls Tryz.prog 256 #[.int .i64 n] w fun e w' => e = .returned (.int .i64 (rootI n)) ∧ w = w' := by
  by_cases h0 : n < 0
  · have e : rootI n = -1 := by unfold rootI; rw [if_pos h0]
    rw [e]
    clear e
    go_enter Tryz.func256, Tryz.ntmps256
    go_wp2_with fail
    go_ret
    exact ⟨rfl, rfl⟩
  · have e : rootI n = (rootN n.toNat : Int) := by unfold rootI; rw [if_neg h0]
    rw [e]
    obtain ⟨m, hm⟩ : ∃ m : Nat, m = n.toNat := ⟨_, rfl⟩
    have hmn : (m : Int) = n := by omega
    have hm2 : m ≤ 9223372036854775807 := by unfold isI64 at hn; omega
    rw [← hm]
    have HN := Lib.hid hm2
    have HZ := Lib.hid hmn
    obtain ⟨R, hR⟩ : ∃ z : Int, z = rootN m := ⟨_, rfl⟩
    rw [← hR]
    have HR := Lib.hid hR
    clear hR hm hmn hm2 e hn
    go_enter Tryz.func256, Tryz.ntmps256
    go_wp2_with fail
    go_loopw [3, 4] (fun ov bv wr => ∃ (out bit : Int) (k : Nat), ov = .int .i64 out ∧ bv = .int .i64 bit ∧ Hid (SInv m out bit k) ∧ wr = w) (fun _ bv _ => (intOf bv).toNat)
    case atStart => exact ⟨0, 2147483648, 32, rfl, rfl, Lib.hid ⟨0, rfl, by decide, rfl, by decide⟩, rfl⟩
    case round =>
      obtain ⟨out, bit, k, rfl, rfl, HI, rfl⟩ := hrel
      cases k with
      | zero =>
        obtain ⟨o, h1, _, h3, h4⟩ := HI.out
        rw [show bitOf 0 = 0 from rfl] at h4
        subst h4
        have h5 : out = R := by rw [h1, HR.out, ← h3]; rfl
        subst h5
        clear h1 h3 HI HR
        go_wp2_with fail
        go_ret
        exact ⟨rfl, rfl⟩
      | succ k =>
        obtain ⟨hb, ho, hs, b', e3, e6, e7, e4, e5⟩ := sinv_step HI.out HN.out
        rw [HZ.out] at e4 e5
        have E4 := Lib.hid e4
        have E5 := Lib.hid e5
        clear e4 e5 HI
        rcases (show 3037000499 < out + bit ∨ (out + bit ≤ 3037000499 ∧ n < (out + bit) * (out + bit)) ∨ (out + bit ≤ 3037000499 ∧ (out + bit) * (out + bit) ≤ n) by omega) with hy | ⟨hy1, hy2⟩ | ⟨hy1, hy2⟩
        · have HI2 := Lib.hid (E5.out (.inl hy))
          go_wp2_with fail
          go_roundw
          case rel => exact ⟨out, b', k, rfl, rfl, HI2, trivial⟩
          case measure => simp [intOf]; omega
        · have HI2 := Lib.hid (E5.out (.inr hy2))
          have q0 : 0 ≤ (out + bit) * (out + bit) := Int.mul_nonneg (by omega) (by omega)
          have q1 : (out + bit) * (out + bit) ≤ 9223372036854775807 := by
            have := Int.mul_le_mul hy1 hy1 (by omega) (by omega)
            omega
          go_wp2_with fail
          go_roundw
          case rel => exact ⟨out, b', k, rfl, rfl, HI2, trivial⟩
          case measure => simp [intOf]; omega
        · have HI2 := Lib.hid (E4.out ⟨hy1, hy2⟩)
          have q0 : 0 ≤ (out + bit) * (out + bit) := Int.mul_nonneg (by omega) (by omega)
          have q1 : (out + bit) * (out + bit) ≤ 9223372036854775807 := by
            have := Int.mul_le_mul hy1 hy1 (by omega) (by omega)
            omega
          go_wp2_with fail
          go_roundw
          case rel => exact ⟨out + bit, b', k, rfl, rfl, HI2, trivial⟩
          case measure => simp [intOf]; omega
set_option maxHeartbeats 1000000 in
theorem rRoots_c (lo hi : Int) (w : World) :
    Calls Tryz.prog 235 #[.agg #[.int .i64 lo, .int .i64 hi]] w fun e w' => e = .returned (spRV (rootsM ⟨lo, hi⟩)) ∧ Ext w w' := by
  have HV := Lib.hid fun W => rspCheck_c lo hi W
  unfold rootsM
  by_cases h0 : spErr ⟨lo, hi⟩ = 0
  · obtain ⟨h1, h2, h3⟩ := spErr_ok.1 h0
    dsimp only at h1 h2 h3
    rw [if_pos h0]
    rw [h0] at HV
    dsimp only
    by_cases hn : lo < 0
    · rw [if_pos hn]
      clear h0
      go_enter Tryz.func235, Tryz.ntmps235
      go_wp2_with fail
      refine (HV.out _).mono ?_
      rintro e w1 ⟨rfl, h1⟩
      obtain ⟨hc_w1, hf_w1, hz_w1⟩ := bcell h1; (repeat (first | rw [World.size_alloc] at hz_w1 | rw [World.size_drew] at hz_w1 | rw [World.size_setCell] at hz_w1)); (try (have : w.heap.size < w1.heap.size := (by omega))); (try (have : w.heap.size + 1 < w1.heap.size := (by omega))); (try (have : w.heap.size + 1 + 1 < w1.heap.size := (by omega))); (try (have : w.heap.size + 1 + 1 + 1 < w1.heap.size := (by omega))); (try (have : w.heap.size + 1 + 1 + 1 + 1 < w1.heap.size := (by omega)))
      go_wp2_with fail
      (try simp only [Exit.inBlock, Exit.then]); apply bodyPost_ret; (focus (simp only [results, Tryz.results235]; go_simp; try rfl)); rfl
      exact ⟨rfl, by (repeat' (first | exact Ext.refl _ | assumption | apply Ext.alloc | apply Ext.drew | refine Ext.set ?_ (by dsimp only; omega) _ | refine Ext.trans ?_ (by assumption)))⟩
    · rw [if_neg hn]
      have R1 := Lib.hid fun W => rRoot_c hi W ⟨by omega, by omega⟩
      have R2 := Lib.hid fun W => rRoot_c lo W ⟨by omega, by omega⟩
      have b := rootI_mono (a := lo) (b := hi) (by omega) (by omega) (by omega)
      unfold upM at b ⊢
      generalize rootI lo = r2 at *
      generalize rootI hi = r1 at *
      obtain ⟨b1, b2, b3, b4, b5, b6⟩ := b
      have m0 : 0 ≤ r1 * r1 := Int.mul_nonneg (by omega) (by omega)
      have m1 : r1 * r1 ≤ 1152921504606846976 := by
        have := Int.mul_le_mul b6 b6 (by omega) (by omega)
        omega
      have hn' : 0 ≤ lo := by omega
      clear h0 b3 b4 b5 hn
      by_cases hu : r1 * r1 < hi
      · rw [if_pos hu]
        go_enter Tryz.func235, Tryz.ntmps235
        go_wp2_with fail
        refine (HV.out _).mono ?_
        rintro e w1 ⟨rfl, h1⟩
        obtain ⟨hc_w1, hf_w1, hz_w1⟩ := bcell h1; (repeat (first | rw [World.size_alloc] at hz_w1 | rw [World.size_drew] at hz_w1 | rw [World.size_setCell] at hz_w1)); (try (have : w.heap.size < w1.heap.size := (by omega))); (try (have : w.heap.size + 1 < w1.heap.size := (by omega))); (try (have : w.heap.size + 1 + 1 < w1.heap.size := (by omega))); (try (have : w.heap.size + 1 + 1 + 1 < w1.heap.size := (by omega))); (try (have : w.heap.size + 1 + 1 + 1 + 1 < w1.heap.size := (by omega)))
        go_wp2_with fail
        refine (R1.out _).mono ?_
        rintro e _ ⟨rfl, rfl⟩
        go_wp2_with fail
        refine (R2.out _).mono ?_
        rintro e _ ⟨rfl, rfl⟩
        go_wp2_with fail
        (try simp only [Exit.inBlock, Exit.then]); apply bodyPost_ret; (focus (simp only [results, Tryz.results235]; go_simp; try rfl)); rfl
        exact ⟨rfl, by (repeat' (first | exact Ext.refl _ | assumption | apply Ext.alloc | apply Ext.drew | refine Ext.set ?_ (by dsimp only; omega) _ | refine Ext.trans ?_ (by assumption)))⟩
      · rw [if_neg hu]
        have hu' : hi ≤ r1 * r1 := by omega
        go_enter Tryz.func235, Tryz.ntmps235
        go_wp2_with fail
        refine (HV.out _).mono ?_
        rintro e w1 ⟨rfl, h1⟩
        obtain ⟨hc_w1, hf_w1, hz_w1⟩ := bcell h1; (repeat (first | rw [World.size_alloc] at hz_w1 | rw [World.size_drew] at hz_w1 | rw [World.size_setCell] at hz_w1)); (try (have : w.heap.size < w1.heap.size := (by omega))); (try (have : w.heap.size + 1 < w1.heap.size := (by omega))); (try (have : w.heap.size + 1 + 1 < w1.heap.size := (by omega))); (try (have : w.heap.size + 1 + 1 + 1 < w1.heap.size := (by omega))); (try (have : w.heap.size + 1 + 1 + 1 + 1 < w1.heap.size := (by omega)))
        go_wp2_with fail
        refine (R1.out _).mono ?_
        rintro e _ ⟨rfl, rfl⟩
        go_wp2_with fail
        refine (R2.out _).mono ?_
        rintro e _ ⟨rfl, rfl⟩
        go_wp2_with fail
        (try simp only [Exit.inBlock, Exit.then]); apply bodyPost_ret; (focus (simp only [results, Tryz.results235]; go_simp; try rfl)); rfl
        exact ⟨rfl, by (repeat' (first | exact Ext.refl _ | assumption | apply Ext.alloc | apply Ext.drew | refine Ext.set ?_ (by dsimp only; omega) _ | refine Ext.trans ?_ (by assumption)))⟩
  · rw [if_neg h0]
    generalize spErr ⟨lo, hi⟩ = E at *
    go_enter Tryz.func235, Tryz.ntmps235
    go_wp2_with fail
    refine (HV.out _).mono ?_
    rintro e w1 ⟨rfl, h1⟩
    obtain ⟨hc_w1, hf_w1, hz_w1⟩ := bcell h1; (repeat (first | rw [World.size_alloc] at hz_w1 | rw [World.size_drew] at hz_w1 | rw [World.size_setCell] at hz_w1)); (try (have : w.heap.size < w1.heap.size := (by omega))); (try (have : w.heap.size + 1 < w1.heap.size := (by omega))); (try (have : w.heap.size + 1 + 1 < w1.heap.size := (by omega))); (try (have : w.heap.size + 1 + 1 + 1 < w1.heap.size := (by omega))); (try (have : w.heap.size + 1 + 1 + 1 + 1 < w1.heap.size := (by omega)))
    go_wp2_with fail
    (try simp only [Exit.inBlock, Exit.then]); apply bodyPost_ret; (focus (simp only [results, Tryz.results235]; go_simp; try rfl)); rfl
    exact ⟨rfl, by (repeat' (first | exact Ext.refl _ | assumption | apply Ext.alloc | apply Ext.drew | refine Ext.set ?_ (by dsimp only; omega) _ | refine Ext.trans ?_ (by assumption)))⟩
set_option maxHeartbeats 400000 in
theorem rFar_c (n : Int) (w : World) :
    Calls Tryz.prog 231 #[.int .i64 n] w fun e w' => e = .returned (.bool (within n (-268435456) 268435456)) ∧ Ext w w' := by
  have H := Lib.hid fun W => rsp_between_c n (-268435456) 268435456 W
  generalize within n _ _ = R at *
  go_enter Tryz.func231, Tryz.ntmps231
  go_wp2_with fail
  refine (H.out _).mono ?_
  rintro e _ ⟨rfl, rfl⟩
  go_wp2_with fail
  go_ret
  exact ⟨rfl, by (repeat' (first | exact Ext.refl _ | assumption | apply Ext.alloc | apply Ext.drew | refine Ext.set ?_ (by dsimp only; omega) _ | refine Ext.trans ?_ (by assumption)))⟩
set_option maxRecDepth 20000 in
set_option maxHeartbeats 1000000 in
theorem rArea_c (xl xh yl yh : Int) (w : World) :
    Calls Tryz.prog 204 #[.agg #[.int .i64 xl, .int .i64 xh, .int .i64 yl, .int .i64 yh]] w fun e w' => e = .returned (.int .i64 (areaErr ⟨⟨xl, xh⟩, ⟨yl, yh⟩⟩)) ∧ Ext w w' := by
  have HV := Lib.hid fun W => rspBoth_c xl xh yl yh W
  have F1 := Lib.hid fun W => rFar_c xl W
  have F2 := Lib.hid fun W => rFar_c xh W
  have F3 := Lib.hid fun W => rFar_c yl W
  have F4 := Lib.hid fun W => rFar_c yh W
  unfold areaErr far4
  dsimp only
  generalize within xl (-268435456) 268435456 = k1 at *
  generalize within xh (-268435456) 268435456 = k2 at *
  generalize within yl (-268435456) 268435456 = k3 at *
  generalize within yh (-268435456) 268435456 = k4 at *
  by_cases h0 : sp2Err ⟨xl, xh⟩ ⟨yl, yh⟩ = 0
  · rw [if_pos h0]
    rw [h0] at HV
    clear h0
    rcases (show (k1 = false) ∨ (k1 = true ∧ k2 = false) ∨ (k1 = true ∧ k2 = true ∧ k3 = false) ∨ (k1 = true ∧ k2 = true ∧ k3 = true ∧ k4 = false) ∨ (k1 = true ∧ k2 = true ∧ k3 = true ∧ k4 = true) by cases k1 <;> cases k2 <;> cases k3 <;> cases k4 <;> simp) with rfl | ⟨rfl, rfl⟩ | ⟨rfl, rfl, rfl⟩ | ⟨rfl, rfl, rfl, rfl⟩ | ⟨rfl, rfl, rfl, rfl⟩
    · go_enter Tryz.func204, Tryz.ntmps204
      go_wp2_with fail
      refine (HV.out _).mono ?_
      rintro e w1 ⟨rfl, h1⟩
      obtain ⟨hc_w1, hf_w1, hz_w1⟩ := bcell h1; (repeat (first | rw [World.size_alloc] at hz_w1 | rw [World.size_drew] at hz_w1 | rw [World.size_setCell] at hz_w1)); (try (have : w.heap.size < w1.heap.size := (by omega))); (try (have : w.heap.size + 1 < w1.heap.size := (by omega))); (try (have : w.heap.size + 1 + 1 < w1.heap.size := (by omega))); (try (have : w.heap.size + 1 + 1 + 1 < w1.heap.size := (by omega))); (try (have : w.heap.size + 1 + 1 + 1 + 1 < w1.heap.size := (by omega)))
      go_wp2_with fail
      refine (F1.out _).mono ?_
      rintro e w2 ⟨rfl, h2⟩
      obtain ⟨hc_w2, hf_w2, hz_w2⟩ := bcell h2; (repeat (first | rw [World.size_alloc] at hz_w2 | rw [World.size_drew] at hz_w2 | rw [World.size_setCell] at hz_w2)); (try (have : w.heap.size < w2.heap.size := (by omega))); (try (have : w.heap.size + 1 < w2.heap.size := (by omega))); (try (have : w.heap.size + 1 + 1 < w2.heap.size := (by omega))); (try (have : w.heap.size + 1 + 1 + 1 < w2.heap.size := (by omega))); (try (have : w.heap.size + 1 + 1 + 1 + 1 < w2.heap.size := (by omega)))
      go_wp2_with fail
      go_ret
      exact ⟨ret_i (by simp), by (repeat' (first | exact Ext.refl _ | assumption | apply Ext.alloc | apply Ext.drew | refine Ext.set ?_ (by dsimp only; omega) _ | refine Ext.trans ?_ (by assumption)))⟩
    · go_enter Tryz.func204, Tryz.ntmps204
      go_wp2_with fail
      refine (HV.out _).mono ?_
      rintro e w1 ⟨rfl, h1⟩
      obtain ⟨hc_w1, hf_w1, hz_w1⟩ := bcell h1; (repeat (first | rw [World.size_alloc] at hz_w1 | rw [World.size_drew] at hz_w1 | rw [World.size_setCell] at hz_w1)); (try (have : w.heap.size < w1.heap.size := (by omega))); (try (have : w.heap.size + 1 < w1.heap.size := (by omega))); (try (have : w.heap.size + 1 + 1 < w1.heap.size := (by omega))); (try (have : w.heap.size + 1 + 1 + 1 < w1.heap.size := (by omega))); (try (have : w.heap.size + 1 + 1 + 1 + 1 < w1.heap.size := (by omega)))
      go_wp2_with fail
      refine (F1.out _).mono ?_
      rintro e w2 ⟨rfl, h2⟩
      obtain ⟨hc_w2, hf_w2, hz_w2⟩ := bcell h2; (repeat (first | rw [World.size_alloc] at hz_w2 | rw [World.size_drew] at hz_w2 | rw [World.size_setCell] at hz_w2)); (try (have : w.heap.size < w2.heap.size := (by omega))); (try (have : w.heap.size + 1 < w2.heap.size := (by omega))); (try (have : w.heap.size + 1 + 1 < w2.heap.size := (by omega))); (try (have : w.heap.size + 1 + 1 + 1 < w2.heap.size := (by omega))); (try (have : w.heap.size + 1 + 1 + 1 + 1 < w2.heap.size := (by omega)))
      go_wp2_with fail
      refine (F2.out _).mono ?_
      rintro e w3 ⟨rfl, h3⟩
      obtain ⟨hc_w3, hf_w3, hz_w3⟩ := bcell h3; (repeat (first | rw [World.size_alloc] at hz_w3 | rw [World.size_drew] at hz_w3 | rw [World.size_setCell] at hz_w3)); (try (have : w.heap.size < w3.heap.size := (by omega))); (try (have : w.heap.size + 1 < w3.heap.size := (by omega))); (try (have : w.heap.size + 1 + 1 < w3.heap.size := (by omega))); (try (have : w.heap.size + 1 + 1 + 1 < w3.heap.size := (by omega))); (try (have : w.heap.size + 1 + 1 + 1 + 1 < w3.heap.size := (by omega)))
      go_wp2_with fail
      go_ret
      exact ⟨ret_i (by simp), by (repeat' (first | exact Ext.refl _ | assumption | apply Ext.alloc | apply Ext.drew | refine Ext.set ?_ (by dsimp only; omega) _ | refine Ext.trans ?_ (by assumption)))⟩
    · go_enter Tryz.func204, Tryz.ntmps204
      go_wp2_with fail
      refine (HV.out _).mono ?_
      rintro e w1 ⟨rfl, h1⟩
      obtain ⟨hc_w1, hf_w1, hz_w1⟩ := bcell h1; (repeat (first | rw [World.size_alloc] at hz_w1 | rw [World.size_drew] at hz_w1 | rw [World.size_setCell] at hz_w1)); (try (have : w.heap.size < w1.heap.size := (by omega))); (try (have : w.heap.size + 1 < w1.heap.size := (by omega))); (try (have : w.heap.size + 1 + 1 < w1.heap.size := (by omega))); (try (have : w.heap.size + 1 + 1 + 1 < w1.heap.size := (by omega))); (try (have : w.heap.size + 1 + 1 + 1 + 1 < w1.heap.size := (by omega)))
      go_wp2_with fail
      refine (F1.out _).mono ?_
      rintro e w2 ⟨rfl, h2⟩
      obtain ⟨hc_w2, hf_w2, hz_w2⟩ := bcell h2; (repeat (first | rw [World.size_alloc] at hz_w2 | rw [World.size_drew] at hz_w2 | rw [World.size_setCell] at hz_w2)); (try (have : w.heap.size < w2.heap.size := (by omega))); (try (have : w.heap.size + 1 < w2.heap.size := (by omega))); (try (have : w.heap.size + 1 + 1 < w2.heap.size := (by omega))); (try (have : w.heap.size + 1 + 1 + 1 < w2.heap.size := (by omega))); (try (have : w.heap.size + 1 + 1 + 1 + 1 < w2.heap.size := (by omega)))
      go_wp2_with fail
      refine (F2.out _).mono ?_
      rintro e w3 ⟨rfl, h3⟩
      obtain ⟨hc_w3, hf_w3, hz_w3⟩ := bcell h3; (repeat (first | rw [World.size_alloc] at hz_w3 | rw [World.size_drew] at hz_w3 | rw [World.size_setCell] at hz_w3)); (try (have : w.heap.size < w3.heap.size := (by omega))); (try (have : w.heap.size + 1 < w3.heap.size := (by omega))); (try (have : w.heap.size + 1 + 1 < w3.heap.size := (by omega))); (try (have : w.heap.size + 1 + 1 + 1 < w3.heap.size := (by omega))); (try (have : w.heap.size + 1 + 1 + 1 + 1 < w3.heap.size := (by omega)))
      go_wp2_with fail
      refine (F3.out _).mono ?_
      rintro e w4 ⟨rfl, h4⟩
      obtain ⟨hc_w4, hf_w4, hz_w4⟩ := bcell h4; (repeat (first | rw [World.size_alloc] at hz_w4 | rw [World.size_drew] at hz_w4 | rw [World.size_setCell] at hz_w4)); (try (have : w.heap.size < w4.heap.size := (by omega))); (try (have : w.heap.size + 1 < w4.heap.size := (by omega))); (try (have : w.heap.size + 1 + 1 < w4.heap.size := (by omega))); (try (have : w.heap.size + 1 + 1 + 1 < w4.heap.size := (by omega))); (try (have : w.heap.size + 1 + 1 + 1 + 1 < w4.heap.size := (by omega)))
      go_wp2_with fail
      go_ret
      exact ⟨ret_i (by simp), by (repeat' (first | exact Ext.refl _ | assumption | apply Ext.alloc | apply Ext.drew | refine Ext.set ?_ (by dsimp only; omega) _ | refine Ext.trans ?_ (by assumption)))⟩
    · go_enter Tryz.func204, Tryz.ntmps204
      go_wp2_with fail
      refine (HV.out _).mono ?_
      rintro e w1 ⟨rfl, h1⟩
      obtain ⟨hc_w1, hf_w1, hz_w1⟩ := bcell h1; (repeat (first | rw [World.size_alloc] at hz_w1 | rw [World.size_drew] at hz_w1 | rw [World.size_setCell] at hz_w1)); (try (have : w.heap.size < w1.heap.size := (by omega))); (try (have : w.heap.size + 1 < w1.heap.size := (by omega))); (try (have : w.heap.size + 1 + 1 < w1.heap.size := (by omega))); (try (have : w.heap.size + 1 + 1 + 1 < w1.heap.size := (by omega))); (try (have : w.heap.size + 1 + 1 + 1 + 1 < w1.heap.size := (by omega)))
      go_wp2_with fail
      refine (F1.out _).mono ?_
      rintro e w2 ⟨rfl, h2⟩
      obtain ⟨hc_w2, hf_w2, hz_w2⟩ := bcell h2; (repeat (first | rw [World.size_alloc] at hz_w2 | rw [World.size_drew] at hz_w2 | rw [World.size_setCell] at hz_w2)); (try (have : w.heap.size < w2.heap.size := (by omega))); (try (have : w.heap.size + 1 < w2.heap.size := (by omega))); (try (have : w.heap.size + 1 + 1 < w2.heap.size := (by omega))); (try (have : w.heap.size + 1 + 1 + 1 < w2.heap.size := (by omega))); (try (have : w.heap.size + 1 + 1 + 1 + 1 < w2.heap.size := (by omega)))
      go_wp2_with fail
      refine (F2.out _).mono ?_
      rintro e w3 ⟨rfl, h3⟩
      obtain ⟨hc_w3, hf_w3, hz_w3⟩ := bcell h3; (repeat (first | rw [World.size_alloc] at hz_w3 | rw [World.size_drew] at hz_w3 | rw [World.size_setCell] at hz_w3)); (try (have : w.heap.size < w3.heap.size := (by omega))); (try (have : w.heap.size + 1 < w3.heap.size := (by omega))); (try (have : w.heap.size + 1 + 1 < w3.heap.size := (by omega))); (try (have : w.heap.size + 1 + 1 + 1 < w3.heap.size := (by omega))); (try (have : w.heap.size + 1 + 1 + 1 + 1 < w3.heap.size := (by omega)))
      go_wp2_with fail
      refine (F3.out _).mono ?_
      rintro e w4 ⟨rfl, h4⟩
      obtain ⟨hc_w4, hf_w4, hz_w4⟩ := bcell h4; (repeat (first | rw [World.size_alloc] at hz_w4 | rw [World.size_drew] at hz_w4 | rw [World.size_setCell] at hz_w4)); (try (have : w.heap.size < w4.heap.size := (by omega))); (try (have : w.heap.size + 1 < w4.heap.size := (by omega))); (try (have : w.heap.size + 1 + 1 < w4.heap.size := (by omega))); (try (have : w.heap.size + 1 + 1 + 1 < w4.heap.size := (by omega))); (try (have : w.heap.size + 1 + 1 + 1 + 1 < w4.heap.size := (by omega)))
      go_wp2_with fail
      refine (F4.out _).mono ?_
      rintro e w5 ⟨rfl, h5⟩
      obtain ⟨hc_w5, hf_w5, hz_w5⟩ := bcell h5; (repeat (first | rw [World.size_alloc] at hz_w5 | rw [World.size_drew] at hz_w5 | rw [World.size_setCell] at hz_w5)); (try (have : w.heap.size < w5.heap.size := (by omega))); (try (have : w.heap.size + 1 < w5.heap.size := (by omega))); (try (have : w.heap.size + 1 + 1 < w5.heap.size := (by omega))); (try (have : w.heap.size + 1 + 1 + 1 < w5.heap.size := (by omega))); (try (have : w.heap.size + 1 + 1 + 1 + 1 < w5.heap.size := (by omega)))
      go_wp2_with fail
      go_ret
      exact ⟨ret_i (by simp), by (repeat' (first | exact Ext.refl _ | assumption | apply Ext.alloc | apply Ext.drew | refine Ext.set ?_ (by dsimp only; omega) _ | refine Ext.trans ?_ (by assumption)))⟩
    · go_enter Tryz.func204, Tryz.ntmps204
      go_wp2_with fail
      refine (HV.out _).mono ?_
      rintro e w1 ⟨rfl, h1⟩
      obtain ⟨hc_w1, hf_w1, hz_w1⟩ := bcell h1; (repeat (first | rw [World.size_alloc] at hz_w1 | rw [World.size_drew] at hz_w1 | rw [World.size_setCell] at hz_w1)); (try (have : w.heap.size < w1.heap.size := (by omega))); (try (have : w.heap.size + 1 < w1.heap.size := (by omega))); (try (have : w.heap.size + 1 + 1 < w1.heap.size := (by omega))); (try (have : w.heap.size + 1 + 1 + 1 < w1.heap.size := (by omega))); (try (have : w.heap.size + 1 + 1 + 1 + 1 < w1.heap.size := (by omega)))
      go_wp2_with fail
      refine (F1.out _).mono ?_
      rintro e w2 ⟨rfl, h2⟩
      obtain ⟨hc_w2, hf_w2, hz_w2⟩ := bcell h2; (repeat (first | rw [World.size_alloc] at hz_w2 | rw [World.size_drew] at hz_w2 | rw [World.size_setCell] at hz_w2)); (try (have : w.heap.size < w2.heap.size := (by omega))); (try (have : w.heap.size + 1 < w2.heap.size := (by omega))); (try (have : w.heap.size + 1 + 1 < w2.heap.size := (by omega))); (try (have : w.heap.size + 1 + 1 + 1 < w2.heap.size := (by omega))); (try (have : w.heap.size + 1 + 1 + 1 + 1 < w2.heap.size := (by omega)))
      go_wp2_with fail
      refine (F2.out _).mono ?_
      rintro e w3 ⟨rfl, h3⟩
      obtain ⟨hc_w3, hf_w3, hz_w3⟩ := bcell h3; (repeat (first | rw [World.size_alloc] at hz_w3 | rw [World.size_drew] at hz_w3 | rw [World.size_setCell] at hz_w3)); (try (have : w.heap.size < w3.heap.size := (by omega))); (try (have : w.heap.size + 1 < w3.heap.size := (by omega))); (try (have : w.heap.size + 1 + 1 < w3.heap.size := (by omega))); (try (have : w.heap.size + 1 + 1 + 1 < w3.heap.size := (by omega))); (try (have : w.heap.size + 1 + 1 + 1 + 1 < w3.heap.size := (by omega)))
      go_wp2_with fail
      refine (F3.out _).mono ?_
      rintro e w4 ⟨rfl, h4⟩
      obtain ⟨hc_w4, hf_w4, hz_w4⟩ := bcell h4; (repeat (first | rw [World.size_alloc] at hz_w4 | rw [World.size_drew] at hz_w4 | rw [World.size_setCell] at hz_w4)); (try (have : w.heap.size < w4.heap.size := (by omega))); (try (have : w.heap.size + 1 < w4.heap.size := (by omega))); (try (have : w.heap.size + 1 + 1 < w4.heap.size := (by omega))); (try (have : w.heap.size + 1 + 1 + 1 < w4.heap.size := (by omega))); (try (have : w.heap.size + 1 + 1 + 1 + 1 < w4.heap.size := (by omega)))
      go_wp2_with fail
      refine (F4.out _).mono ?_
      rintro e w5 ⟨rfl, h5⟩
      obtain ⟨hc_w5, hf_w5, hz_w5⟩ := bcell h5; (repeat (first | rw [World.size_alloc] at hz_w5 | rw [World.size_drew] at hz_w5 | rw [World.size_setCell] at hz_w5)); (try (have : w.heap.size < w5.heap.size := (by omega))); (try (have : w.heap.size + 1 < w5.heap.size := (by omega))); (try (have : w.heap.size + 1 + 1 < w5.heap.size := (by omega))); (try (have : w.heap.size + 1 + 1 + 1 < w5.heap.size := (by omega))); (try (have : w.heap.size + 1 + 1 + 1 + 1 < w5.heap.size := (by omega)))
      go_wp2_with fail
      go_ret
      exact ⟨ret_i (by simp), by (repeat' (first | exact Ext.refl _ | assumption | apply Ext.alloc | apply Ext.drew | refine Ext.set ?_ (by dsimp only; omega) _ | refine Ext.trans ?_ (by assumption)))⟩
  · rw [if_neg h0]
    generalize sp2Err ⟨xl, xh⟩ ⟨yl, yh⟩ = E at *
    go_enter Tryz.func204, Tryz.ntmps204
    go_wp2_with fail
    refine (HV.out _).mono ?_
    rintro e w1 ⟨rfl, h1⟩
    obtain ⟨hc_w1, hf_w1, hz_w1⟩ := bcell h1; (repeat (first | rw [World.size_alloc] at hz_w1 | rw [World.size_drew] at hz_w1 | rw [World.size_setCell] at hz_w1)); (try (have : w.heap.size < w1.heap.size := (by omega))); (try (have : w.heap.size + 1 < w1.heap.size := (by omega))); (try (have : w.heap.size + 1 + 1 < w1.heap.size := (by omega))); (try (have : w.heap.size + 1 + 1 + 1 < w1.heap.size := (by omega))); (try (have : w.heap.size + 1 + 1 + 1 + 1 < w1.heap.size := (by omega)))
    go_wp2_with fail
    go_ret
    exact ⟨rfl, by (repeat' (first | exact Ext.refl _ | assumption | apply Ext.alloc | apply Ext.drew | refine Ext.set ?_ (by dsimp only; omega) _ | refine Ext.trans ?_ (by assumption)))⟩
end Go.Proofs.YtfniicgoeljmdaaGreat
