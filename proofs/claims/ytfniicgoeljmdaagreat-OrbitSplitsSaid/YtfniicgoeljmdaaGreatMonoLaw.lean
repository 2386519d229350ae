/- What moves a body in a part of an area lies in what moves it in the whole: the plain law. No condition. -/
import Derived.Test.YtfniicgoeljmdaaGreatForceLaw
namespace Go.Proofs.YtfniicgoeljmdaaGreat
open Go.RowKit

/-! ### Quotients by numbers above 0 -/
/-! ### Monotone in each number -/
/-- A function of whole numbers that only rises, or only falls, from l to h. -/
def Mono (g : Int → Int) (l h : Int) : Prop := (∀ a b, l ≤ a → a ≤ b → b ≤ h → g a ≤ g b) ∨ (∀ a b, l ≤ a → a ≤ b → b ≤ h → g b ≤ g a)
/-- What holds of quotients whose ends are monotone in each number. -/
structure Mon2 (f : Int → Int → Quo) (a b : Sp) : Prop where
  e : ∀ x y, a.lo ≤ x → x ≤ a.hi → b.lo ≤ y → y ≤ b.hi → (f x y).e = 0
  ok : ∀ x y, QuoOk (f x y)
  x1 : ∀ y, b.lo ≤ y → y ≤ b.hi → Mono (fun x => (f x y).lo) a.lo a.hi ∧ Mono (fun x => (f x y).hi) a.lo a.hi
  y1 : ∀ x, a.lo ≤ x → x ≤ a.hi → Mono (fun y => (f x y).lo) b.lo b.hi ∧ Mono (fun y => (f x y).hi) b.lo b.hi
theorem joinAll_four {q1 q2 q3 q4 : Quo} (h1 : q1.e = 0) (h2 : q2.e = 0) (h3 : q3.e = 0) (h4 : q4.e = 0) (k1 : QuoOk q1) :
    joinAll [q1, q2, q3, q4] ⟨1152921504606846976, -1152921504606846976⟩ = ⟨⟨min (min (min q1.lo q2.lo) q3.lo) q4.lo, max (max (max q1.hi q2.hi) q3.hi) q4.hi⟩, 0⟩ := by
  simp only [joinAll, h1, h2, h3, h4, if_true, joinQ]
  unfold QuoOk at k1
  congr 2 <;> omega
/-! ### Where quotients and products are monotone -/
/-! ### Parts give parts -/
theorem squareS_eq {n : Int} {a : Sp} (ha : Sm n a) (hn : n ≤ 1073741824) : squareS a = ⟨lowM a * lowM a, highM a * highM a⟩ ∧ 0 ≤ lowM a ∧ lowM a ≤ highM a ∧ highM a ≤ n := by
  have hb : 0 ≤ lowM a ∧ lowM a ≤ highM a ∧ highM a ≤ n := by unfold Sm at ha; unfold lowM highM; omega
  refine ⟨?_, hb⟩
  unfold squareS squareM
  rw [if_pos (ha.err (by omega)), if_neg (by omega)]
  generalize lowM a = l at *
  generalize highM a = u at *
  obtain ⟨h1, h2, h3⟩ := hb
  have m1 : 0 ≤ l * l := Int.mul_nonneg h1 h1
  have m2 : l * l ≤ u * u := Int.mul_le_mul h2 h2 h1 (by omega)
  have m3 : u * u ≤ 1073741824 * 1073741824 := Int.mul_le_mul (by omega) (by omega) (by omega) (by omega)
  unfold endsM
  rw [fitsP_of (by omega), fitsP_of (by omega)]
  rfl
theorem squareS_sm {n : Int} {a : Sp} (ha : Sm n a) (hn : n ≤ 1073741824) : 0 ≤ (squareS a).lo ∧ (squareS a).lo ≤ (squareS a).hi ∧ (squareS a).hi ≤ n * n := by
  obtain ⟨e, h1, h2, h3⟩ := squareS_eq ha hn
  rw [e]
  exact ⟨Int.mul_nonneg h1 h1, Int.mul_le_mul h2 h2 h1 (by omega), Int.mul_le_mul h3 h3 (by omega) (by omega)⟩
theorem rootI_mono {a b : Int} (h0 : 0 ≤ a) (h : a ≤ b) (hb : b ≤ 1152921504606846976) : 0 ≤ rootI a ∧ rootI a ≤ rootI b ∧ upM a ≤ upM b ∧ rootI b ≤ upM b ∧ upM b ≤ rootI b + 1 ∧ rootI b ≤ 1073741824 := by
  unfold upM rootI
  rw [if_neg (by omega), if_neg (by omega)]
  obtain ⟨n, rfl⟩ : ∃ n : Nat, a = n := ⟨a.toNat, by omega⟩
  obtain ⟨m, rfl⟩ : ∃ n : Nat, b = n := ⟨b.toNat, by omega⟩
  rw [Int.toNat_natCast, Int.toNat_natCast]
  have s1 := rootN_spec (n := n) (by omega)
  have s2 := rootN_spec (n := m) (by omega)
  have s3 : rootN n ≤ rootN m := rootN_le (by omega) (by omega)
  have s4 : rootN m ≤ 1073741824 := rootN_le (by omega) (by omega)
  generalize rootN n = p at *
  generalize rootN m = q at *
  have e1 : (p : Int) * p = ((p * p : Nat) : Int) := (Int.natCast_mul p p).symm
  have e2 : (q : Int) * q = ((q * q : Nat) : Int) := (Int.natCast_mul q q).symm
  rw [e1, e2]
  have s5 : p = q ∨ p + 1 ≤ q := by omega
  rcases s5 with rfl | s5
  · refine ⟨by omega, by omega, ?_, ?_, ?_, by omega⟩ <;> split <;> (try split) <;> omega
  · refine ⟨by omega, by omega, ?_, ?_, ?_, by omega⟩ <;> split <;> (try split) <;> omega
/-- A place is one of places; so is an area. -/
def placeP (p : Vec) : Prop := (-33554432 ≤ p.x ∧ p.x ≤ 33554432) ∧ -33554432 ≤ p.y ∧ p.y ≤ 33554432
theorem toM_eq {p : Vec} {a : Ar} (hp : placeP p) (ha : SmA 33554432 a) : toM p a = ⟨⟨p.x - a.x.hi, p.x - a.x.lo⟩, ⟨p.y - a.y.hi, p.y - a.y.lo⟩⟩ := by
  unfold toM subS
  unfold placeP at hp
  rw [subM_small (n := 33554432) (s := ⟨p.x, p.x⟩) (by unfold Sm; dsimp only; omega) ha.1 (by omega) (by omega) (by omega), subM_small (n := 33554432) (s := ⟨p.y, p.y⟩) (by unfold Sm; dsimp only; omega) ha.2 (by omega) (by omega) (by omega)]
theorem toM_sm {p : Vec} {a : Ar} (hp : placeP p) (ha : SmA 33554432 a) : SmA 67108864 (toM p a) := by
  rw [toM_eq hp ha]; unfold SmA Sm at *; unfold placeP at hp; dsimp only; omega
theorem qM_eq {r : Int} {v : Ar} (hv : SmA 67108864 v) : qM r v = ⟨max ((squareS v.x).lo + (squareS v.y).lo) (edgeM r), max ((squareS v.x).hi + (squareS v.y).hi) (edgeM r)⟩ := by
  have h1 := squareS_sm hv.1 (by omega)
  have h2 := squareS_sm hv.2 (by omega)
  unfold qM
  rw [addS_small (n := 67108864 * 67108864) (m := 67108864 * 67108864) (by unfold Sm; omega) (by unfold Sm; omega) (by omega) (by omega) (by omega)]
  rfl
theorem edge_bd {r : Int} (h : 0 ≤ r ∧ r ≤ 1048576) : 1 ≤ edgeM r ∧ edgeM r ≤ 1099511627776 := by
  have : r * r ≤ 1048576 * 1048576 := Int.mul_le_mul h.2 h.2 h.1 (by omega)
  unfold edgeM; omega
theorem qM_sm {r : Int} {v : Ar} (hr : 0 ≤ r ∧ r ≤ 1048576) (hv : SmA 67108864 v) : 1 ≤ (qM r v).lo ∧ (qM r v).lo ≤ (qM r v).hi ∧ (qM r v).hi ≤ 9007199254740992 := by
  have h1 := squareS_sm hv.1 (by omega)
  have h2 := squareS_sm hv.2 (by omega)
  have h3 := edge_bd hr
  rw [qM_eq hv]; dsimp only; omega
end Go.Proofs.YtfniicgoeljmdaaGreat
