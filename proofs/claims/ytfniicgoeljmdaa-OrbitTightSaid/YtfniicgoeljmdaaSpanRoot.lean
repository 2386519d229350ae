/- Roots: the program. No condition. -/
import Derived.Test.YtfniicgoeljmdaaSpanLaw
import Derived.Test.YtfniicgoeljmdaaRootLaw
namespace Go.Proofs.Ytfniicgoeljmdaa
open Go.RowKit

def bitOf : Nat → Int
  | 0 => 0
  | j + 1 => 2 ^ j
def RInv (n : Nat) (out bit : Int) (k : Nat) : Prop := ∃ o : Nat, out = o ∧ o % 2 ^ k = 0 ∧ o + 2 ^ k ≤ 4294967296 ∧ rootF n k o = rootN n ∧ bit = bitOf k
theorem rinv_step {n : Nat} {out bit : Int} {k : Nat} (h : RInv n out bit (k + 1)) (_ : n < 18446744073709551616) :
    0 < bit ∧ ∃ x y b' : Int, bits .or .u64 out bit = x ∧ IntKind.u64.wrap (x * x) = y ∧ bit / 2 = b' ∧ (y ≤ n → RInv n x b' k) ∧ (¬ y ≤ n → RInv n out b' k) := by
  obtain ⟨o, rfl, h1, h2, h3, rfl⟩ := h
  have hp : 0 < 2 ^ k := Nat.pow_pos (by omega)
  have hp2 : 2 ^ (k + 1) = 2 * 2 ^ k := by rw [Nat.pow_succ, Nat.mul_comm]
  have hor := or_bit h1
  obtain ⟨m1, m2⟩ := bit_mod h1
  rw [show bitOf (k + 1) = 2 ^ k from rfl]
  have hb : ((2 : Int) ^ k) = ((2 ^ k : Nat) : Int) := by push_cast; rfl
  have hx : o + 2 ^ k ≤ 4294967295 ∨ o + 2 ^ k = 4294967296 := by omega
  have hlt : (o + 2 ^ k) * (o + 2 ^ k) < 18446744073709551616 := by
    have := Nat.mul_le_mul (show o + 2 ^ k ≤ 4294967295 by omega) (show o + 2 ^ k ≤ 4294967295 by omega)
    omega
  have hb2 : ((2 : Int) ^ k) / 2 = bitOf k := by
    cases k with
    | zero => rfl
    | succ j =>
      rw [show bitOf (j + 1) = 2 ^ j from rfl, Int.pow_succ, Int.mul_ediv_cancel _ (by omega)]
  refine ⟨by rw [hb]; omega, ((o + 2 ^ k : Nat) : Int), (((o + 2 ^ k) * (o + 2 ^ k) : Nat) : Int), _, ?_, ?_, hb2, fun h => ?_, fun h => ?_⟩
  · rw [hb, bits_or_u64_nat o (2 ^ k) (by omega) (by omega), hor]
  · rw [← Int.natCast_mul]; exact wrapN hlt
  · refine ⟨o + 2 ^ k, rfl, m2, by omega, ?_, rfl⟩
    rw [← h3, rootF_step, if_pos (by omega)]
  · refine ⟨o, rfl, m1, by omega, ?_, rfl⟩
    rw [← h3, rootF_step, if_neg (by omega)]
set_option maxHeartbeats 1000000 in
theorem spRoot0_c (n : Nat) (w : World) (hn : n < 18446744073709551616) :
    Calls Try.prog 87 #[.int .u64 (n : Int)] w fun e w' => e = .returned (.int .u64 (rootN n : Int)) ∧ w = w' := by
  have HN := Lib.hid hn
  obtain ⟨nz, hnz⟩ : ∃ z : Int, z = n := ⟨_, rfl⟩
  rw [← hnz]
  have HZ := Lib.hid hnz
  obtain ⟨R, hR⟩ : ∃ z : Int, z = rootN n := ⟨_, rfl⟩
  rw [← hR]
  have HR := Lib.hid hR
  clear hn hnz hR
  go_enter Try.func87, Try.ntmps87
  go_wp2_with fail
  go_loopw [3, 4] (fun ov bv wr => ∃ (out bit : Int) (k : Nat), ov = .int .u64 out ∧ bv = .int .u64 bit ∧ Hid (RInv n out bit k) ∧ wr = w) (fun _ bv _ => (intOf bv).toNat)
  case atStart => exact ⟨0, 2147483648, 32, rfl, rfl, Lib.hid ⟨0, rfl, rfl, by decide, rfl, by decide⟩, rfl⟩
  case round =>
    obtain ⟨out, bit, k, rfl, rfl, HI, rfl⟩ := hrel
    cases k with
    | zero =>
      obtain ⟨o, h1, _, _, h3, h4⟩ := HI.out
      rw [show bitOf 0 = 0 from rfl] at h4
      subst h4
      have h5 : out = R := by rw [h1, HR.out, ← h3]; rfl
      subst h5
      clear h1 h3 HI HR
      go_wp2_with fail
      go_ret
      exact ⟨rfl, rfl⟩
    | succ k =>
      obtain ⟨hb, x, y, b', e1, e2, e3, e4, e5⟩ := rinv_step HI.out HN.out
      have e6 : b' < bit ∧ 0 ≤ b' := by omega
      obtain ⟨e6, e7⟩ := e6
      rw [← HZ.out] at e4 e5
      have E4 := Lib.hid e4
      have E5 := Lib.hid e5
      clear e4 e5 HI
      by_cases hy : y ≤ nz
      · have HI2 := Lib.hid (E4.out hy)
        go_wp2_with fail
        go_roundw
        case rel => exact ⟨x, b', k, rfl, rfl, HI2, trivial⟩
        case measure => simp [intOf]; omega
      · have HI2 := Lib.hid (E5.out hy)
        go_wp2_with fail
        go_roundw
        case rel => exact ⟨out, b', k, rfl, rfl, HI2, trivial⟩
        case measure => simp [intOf]; omega
set_option maxHeartbeats 400000 in
theorem spRoot_c (n : Int) (w : World) (hn : 0 ≤ n) (hn2 : n ≤ 9223372036854775807) :
    Calls Try.prog 79 #[.int .i64 n] w fun e w' => e = .returned (.int .i64 (rootN n.toNat : Int)) ∧ w = w' := by
  have hw : IntKind.u64.wrap n = n := by rw [IntKind.wrap_u64]; omega
  have H := Lib.hid fun W => spRoot0_c n.toNat W (by omega)
  have hle := rootN_le (n := n.toNat) (m := 4294967295) (by omega) (by omega)
  rw [show ((n.toNat : Nat) : Int) = n by omega] at H
  obtain ⟨R, hR⟩ : ∃ z : Int, z = rootN n.toNat := ⟨_, rfl⟩
  rw [← hR] at H ⊢
  have hR0 : 0 ≤ R := by omega
  have hR1 : R ≤ 4294967295 := by omega
  clear hR hle
  go_enter Try.func79, Try.ntmps79
  go_wp2_with fail
  refine (H.out _).mono ?_
  rintro e _ ⟨rfl, rfl⟩
  go_wp2_with fail
  go_ret
  exact ⟨rfl, rfl⟩
end Go.Proofs.Ytfniicgoeljmdaa
