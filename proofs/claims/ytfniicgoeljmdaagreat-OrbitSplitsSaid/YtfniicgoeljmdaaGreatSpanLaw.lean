/- The root, bit by bit: the plain law. No condition. Spans that are multiplied and divided: the plain law. No condition. -/
import Derived.Test.YtfniicgoeljmdaaGreatBase
import Derived.Test.YtfniicgoeljmdaaGreatSpanDiv
namespace Go.Proofs.YtfniicgoeljmdaaGreat
/-- The root, bit by bit: k bits to go. -/
def rootF (n : Nat) : Nat → Nat → Nat
  | 0, out => out
  | k + 1, out => rootF n k (if (out + 2 ^ k) * (out + 2 ^ k) ≤ n then out + 2 ^ k else out)
def rootN (n : Nat) : Nat := rootF n 32 0
theorem rootF_step (n k out : Nat) : rootF n (k + 1) out = rootF n k (if (out + 2 ^ k) * (out + 2 ^ k) ≤ n then out + 2 ^ k else out) := rfl
/-- Bits that are not there yet. -/
theorem or_bit {out k : Nat} (h : out % 2 ^ (k + 1) = 0) : out ||| 2 ^ k = out + 2 ^ k := by
  obtain ⟨a, rfl⟩ : ∃ a, out = 2 ^ (k + 1) * a := ⟨out / 2 ^ (k + 1), by have := Nat.div_add_mod out (2 ^ (k + 1)); omega⟩
  exact (Nat.two_pow_add_eq_or_of_lt (Nat.pow_lt_pow_right (by omega) (by omega)) a).symm
theorem bit_mod {out k : Nat} (h : out % 2 ^ (k + 1) = 0) : out % 2 ^ k = 0 ∧ (out + 2 ^ k) % 2 ^ k = 0 := by
  obtain ⟨a, rfl⟩ : ∃ a, out = 2 ^ (k + 1) * a := ⟨out / 2 ^ (k + 1), by have := Nat.div_add_mod out (2 ^ (k + 1)); omega⟩
  have e : 2 ^ (k + 1) * a = 2 ^ k * (2 * a) := by rw [Nat.pow_succ, Nat.mul_assoc]
  rw [e]
  constructor
  · exact Nat.mul_mod_right _ _
  · rw [Nat.add_mod_right]; exact Nat.mul_mod_right _ _
theorem rootF_bound (n : Nat) : ∀ (k out : Nat), out * out ≤ n → n < (out + 2 ^ k) * (out + 2 ^ k) → rootF n k out * rootF n k out ≤ n ∧ n < (rootF n k out + 1) * (rootF n k out + 1)
  | 0, out, h1, h2 => ⟨h1, h2⟩
  | k + 1, out, h1, h2 => by
    rw [rootF_step]
    split
    · next h => exact rootF_bound n k _ h (by rw [Nat.add_assoc, ← Nat.two_mul, ← Nat.pow_succ']; exact h2)
    · next h => exact rootF_bound n k _ h1 (by omega)
theorem rootN_spec {n : Nat} (h : n < 18446744073709551616) : rootN n * rootN n ≤ n ∧ n < (rootN n + 1) * (rootN n + 1) := rootF_bound n 32 0 (by omega) (by simpa using h)
theorem rootN_le {n m : Nat} (h : n < 18446744073709551616) (hm : n < (m + 1) * (m + 1)) : rootN n ≤ m := by
  have h1 := (rootN_spec h).1
  rcases Nat.lt_or_ge m (rootN n) with h2 | h2
  · have := Nat.mul_le_mul (show m + 1 ≤ rootN n from h2) (show m + 1 ≤ rootN n from h2)
    omega
  · exact h2
end Go.Proofs.YtfniicgoeljmdaaGreat

namespace Go.Proofs.YtfniicgoeljmdaaGreat
open Go.RowKit

def joinQ (o : Sp) (q : Quo) : Sp := ⟨min o.lo q.lo, max o.hi q.hi⟩
/-- The least and the greatest of some quotients, or the first error. -/
def joinAll : List Quo → Sp → SpR
  | [], o => ⟨o, 0⟩
  | q :: l, o => if q.e = 0 then joinAll l (joinQ o q) else noSp q.e
def pairsL (a b : Sp) : List (Int × Int) := [(a.lo, b.lo), (a.lo, b.hi), (a.hi, b.lo), (a.hi, b.hi)]
def cornQ (f : Int → Int → Quo) (a b : Sp) : List Quo := (pairsL a b).map fun p => f p.1 p.2
def combM (f : Int → Int → Quo) (a b : Sp) : SpR := if sp2Err a b = 0 then joinAll (cornQ f a b) ⟨1152921504606846976, -1152921504606846976⟩ else noSp (sp2Err a b)
def mulF (x y : Int) : Quo := mulDivM x y 1
def quotF (x y : Int) : Quo := mulDivM x 1 y
def mulM (a b : Sp) : SpR := combM mulF a b
def quotM (a b : Sp) : SpR := if sp2Err a b = 0 then (if within 0 b.lo b.hi then noSp 2 else combM quotF a b) else noSp (sp2Err a b)
def lowM (a : Sp) : Int := max (max 0 a.lo) (-a.hi)
def highM (a : Sp) : Int := max (-a.lo) a.hi
def squareM (a : Sp) : SpR := if spErr a = 0 then (if 1073741824 < highM a then noSp 14 else endsM (lowM a * lowM a) (highM a * highM a)) else noSp (spErr a)
/-- The root of a number, -1 below zero. -/
def rootI (n : Int) : Int := if n < 0 then -1 else rootN n.toNat
def upM (n : Int) : Int := if rootI n * rootI n < n then rootI n + 1 else rootI n
def rootsM (a : Sp) : SpR := if spErr a = 0 then (if a.lo < 0 then noSp 2 else ⟨⟨rootI a.lo, upM a.hi⟩, 0⟩) else noSp (spErr a)

/-! ### The reference's way -/
/-- A quotient is right, or too great. -/
def QuoOk (q : Quo) : Prop := (q.e = 0 ∧ -1152921504606846976 ≤ q.lo ∧ q.lo ≤ q.hi ∧ q.hi ≤ 1152921504606846976) ∨ (q.e = 14 ∧ q.lo = 0 ∧ q.hi = 0)
theorem quoM_ok (neg : Bool) (n d : Nat) : QuoOk (quoM neg n d) := by
  unfold quoM QuoOk
  generalize hu : (if n % d = 0 then 0 else 1) = u
  generalize n / d = q
  have : u ≤ 1 := by rw [← hu]; split <;> omega
  by_cases h : 1152921504606846976 < q + u
  · rw [if_pos h]; right; exact ⟨rfl, rfl, rfl⟩
  · rw [if_neg h]
    left
    cases neg
    · simp only [Bool.false_eq_true, if_false]; refine ⟨trivial, ?_, ?_, ?_⟩ <;> omega
    · simp only [if_true]; refine ⟨trivial, ?_, ?_, ?_⟩ <;> omega
theorem mulDiv_ok (x y c : Int) : QuoOk (mulDivM x y c) := quoM_ok _ _ _
theorem cornQ_ok {f : Int → Int → Quo} (hf : ∀ x y, QuoOk (f x y)) (a b : Sp) : ∀ q ∈ cornQ f a b, QuoOk q := by
  intro q hq
  obtain ⟨p, _, rfl⟩ := List.mem_map.1 hq
  exact hf _ _
/-! ### What a product or a quotient is -/
end Go.Proofs.YtfniicgoeljmdaaGreat
