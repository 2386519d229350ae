/- Plain words for memory that is only read: worlds that are extended, slices that read as lists. No condition. Long division of two words by one, digit by digit: the plain law. No condition. The root, bit by bit: the plain law. No condition. Failure sets: the program's way and the document's. Plain law. No condition. Passages that are clear of a distance: the program's way and the document's. Plain law. No condition. Cells that run through ticks: the first one with a reason. Plain law. No condition. Products of two numbers, wide: their order. Plain law. No condition. -/
import Derived.Test.YtiladlangkjoiaaGreatRows
import Derived.WalkKit
import Derived.WalkSpells
import Derived.WalkLawsBesides
import Derived.Lib.Hide
namespace Go.Proofs.YtiladlangkjoiaaGreat
open Go.RowKit

/-- w' is w with new blocks, all that was there is as it was. -/
abbrev Ext (w w' : World) : Prop := Below w.heap.size w w'
theorem Ext.refl (w : World) : Ext w w := Below.refl _ _
theorem Ext.trans {a b c : World} (h : Ext a b) (k : Ext b c) : Ext a c := Below.trans h (k.mono h.size)
theorem Ext.alloc {a w : World} (h : Ext a w) (o : Obj) : Ext a (w.alloc o) := Below.alloc h h.size o
theorem Ext.alloc0 (w : World) (o : Obj) : Ext w (w.alloc o) := (Ext.refl w).alloc o
theorem Ext.drew {a w : World} (h : Ext a w) : Ext a w.drew := Below.drew h
theorem Ext.set {a w : World} (h : Ext a w) {p : Addr} (hp : a.heap.size ≤ p.block) (u : Value) : Ext a (w.setCell p u) := Below.setCell h hp u
/-- What a walk left: an extension. -/
theorem ext_by {w w' : World} (h : Ext w w' := by (repeat' (first | exact Ext.refl _ | assumption | apply Ext.alloc | apply Ext.drew | refine Ext.set ?_ (by dsimp only; omega) _ | refine Ext.trans ?_ (by assumption)))) : Ext w w' := h
theorem szA : (∀ (w : World) (o : Obj), (w.alloc o).heap.size = w.heap.size + 1) ∧ (∀ (w : World), w.drew.heap.size = w.heap.size) ∧ (∀ (w : World) (p : Addr) (u : Value), (w.setCell p u).heap.size = w.heap.size) :=
  ⟨World.size_alloc, World.size_drew, World.size_setCell⟩
theorem wz0 (w w1 : World) (h : w.heap.size < w1.heap.size := by omega) : w.heap.size < w1.heap.size := h
theorem wz1 (w w1 : World) (h : w.heap.size + 1 < w1.heap.size := by omega) : w.heap.size + 1 < w1.heap.size := h
theorem wz2 (w w1 : World) (h : w.heap.size + 1 + 1 < w1.heap.size := by omega) : w.heap.size + 1 + 1 < w1.heap.size := h
theorem wz3 (w w1 : World) (h : w.heap.size + 1 + 1 + 1 < w1.heap.size := by omega) : w.heap.size + 1 + 1 + 1 < w1.heap.size := h
theorem wz4 (w w1 : World) (h : w.heap.size + 1 + 1 + 1 + 1 < w1.heap.size := by omega) : w.heap.size + 1 + 1 + 1 + 1 < w1.heap.size := h
theorem putX : (∀ (a : Act) (d : Tmp) (v : Value), a.put (some d) v = { a with tmps := a.tmps.setIfInBounds d v }) ∧ (∀ (a : Act) (v : Value), a.put none v = a) ∧ (∀ (l : List Value) (i : Nat) (v : Value), l.toArray.setIfInBounds i v = (l.set i v).toArray) ∧
    (∀ (u v : Value) (l : List Value), (u :: l).set 0 v = v :: l) ∧ (∀ (u v : Value) (l : List Value) (n : Nat), (u :: l).set (n + 1) v = u :: l.set n v) :=
  ⟨fun _ _ _ => rfl, fun _ _ => rfl, fun _ _ _ => List.setIfInBounds_toArray .., fun _ _ _ => rfl, fun _ _ _ _ => rfl⟩

theorem bcell {W w1 : World} (hb : Ext W w1) : (∀ b o, b < W.heap.size → w1.cell? ⟨b, o, none⟩ = W.cell? ⟨b, o, none⟩) ∧ (∀ b o, b < W.heap.size → w1.frozen? ⟨b, o, none⟩ = W.frozen? ⟨b, o, none⟩) ∧ W.heap.size ≤ w1.heap.size :=
  ⟨fun b o h => hb.cell (p := ⟨b, o, none⟩) h, fun b o h => hb.frozen (p := ⟨b, o, none⟩) h, hb.size⟩

theorem Ext.cell {w w' : World} (h : Ext w w') {p : Addr} {v : Value} (hc : w.cell? p = some v) : w'.cell? p = some v :=
  (Below.cell h (World.block_lt_of_cell? w _ hc)).trans hc

/-- A slice (its address A, its length n) reads as the list l; R x b o: at ⟨b, o⟩ lies x (sz cells). -/
def SlR {α : Type} (sz : Nat) (R : α → Nat → Nat → Prop) (A : Option Addr) (n : Nat) (l : List α) : Prop :=
  n = l.length ∧ n ≤ 9223372036854775807 ∧ (n = 0 ∨ ∃ b off, A = some ⟨b, off, none⟩ ∧ ∀ k (h : k < l.length), R l[k] b (off + k * sz))

section
variable {α : Type} {sz : Nat} {R R' : α → Nat → Nat → Prop} {A : Option Addr} {n : Nat} {l : List α}
theorem SlR.len (h : SlR sz R A n l) : n = l.length := h.1
theorem SlR.le (h : SlR sz R A n l) : n ≤ 9223372036854775807 := h.2.1
theorem SlR.at_ (h : SlR sz R A n l) (hn : 0 < l.length) : ∃ b off, A = some ⟨b, off, none⟩ ∧ ∀ k (h : k < l.length), R l[k] b (off + k * sz) := by
  rcases h.2.2 with h0 | h0
  · have := h.1; omega
  · exact h0
/-- One element: the address is there, the list parts at it, it lies at its place. -/
theorem SlR.one (h : SlR sz R A n l) {k : Nat} (hk : k < n) : ∃ b off x, A = some ⟨b, off, none⟩ ∧ Hid (l.drop k = x :: l.drop (k + 1)) ∧ x ∈ l ∧ R x b (off + k * sz) := by
  have hl : k < l.length := h.1 ▸ hk
  obtain ⟨b, off, hA, hc⟩ := h.at_ (by omega)
  exact ⟨b, off, l[k], hA, List.drop_eq_getElem_cons hl, List.getElem_mem hl, hc k hl⟩
theorem SlR.mono (h : SlR sz R A n l) (hm : ∀ x, x ∈ l → ∀ b o, R x b o → R' x b o) : SlR sz R' A n l := by
  refine ⟨h.1, h.2.1, ?_⟩
  rcases h.2.2 with h0 | ⟨b, off, hA, hc⟩
  · exact .inl h0
  · exact .inr ⟨b, off, hA, fun k hk => hm _ (List.getElem_mem hk) _ _ (hc k hk)⟩
theorem SlR.nil (sz : Nat) (R : α → Nat → Nat → Prop) (A : Option Addr) : SlR sz R A 0 [] := ⟨rfl, by omega, .inl rfl⟩
end

/-! ### Data -/
structure Vec where
  x : Int
  y : Int
structure Body where
  mu : Int
  radius : Int
  track : List Vec
structure Wld where
  bodies : List Body
  home : Int
structure Stn where
  id : Int
  off : Vec
structure Cat where
  version : Int
  lo : Int
  hi : Int
structure Sky where
  world : Wld
  stations : List Stn
  catalogs : List Cat
structure Sight where
  kind : Int
  station : Int
  catalog : Int
  tick : Int
  dx : Int
  dy : Int
  err : Int
  lo : Int
  hi : Int
structure St where
  x : Int
  y : Int
  u : Int
  v : Int

abbrev I (n : Int) : Value := .int .i64 n

def vecAt (w : World) (p : Vec) (b o : Nat) : Prop := w.cell? ⟨b, o, none⟩ = some (.int .i64 p.x) ∧ w.cell? ⟨b, o + 1, none⟩ = some (.int .i64 p.y)
def stnAt (w : World) (p : Stn) (b o : Nat) : Prop := w.cell? ⟨b, o, none⟩ = some (.int .i64 p.id) ∧ w.cell? ⟨b, o + 1, none⟩ = some (.int .i64 p.off.x) ∧ w.cell? ⟨b, o + 2, none⟩ = some (.int .i64 p.off.y)
def catAt (w : World) (p : Cat) (b o : Nat) : Prop := w.cell? ⟨b, o, none⟩ = some (.int .i64 p.version) ∧ w.cell? ⟨b, o + 1, none⟩ = some (.int .i64 p.lo) ∧ w.cell? ⟨b, o + 2, none⟩ = some (.int .i64 p.hi)
def stAt (w : World) (p : St) (b o : Nat) : Prop :=
  w.cell? ⟨b, o, none⟩ = some (.int .i64 p.x) ∧ w.cell? ⟨b, o + 1, none⟩ = some (.int .i64 p.y) ∧ w.cell? ⟨b, o + 2, none⟩ = some (.int .i64 p.u) ∧ w.cell? ⟨b, o + 3, none⟩ = some (.int .i64 p.v)
def sightAt (w : World) (p : Sight) (b o : Nat) : Prop :=
  w.cell? ⟨b, o, none⟩ = some (.int .i64 p.kind) ∧ w.cell? ⟨b, o + 1, none⟩ = some (.int .i64 p.station) ∧ w.cell? ⟨b, o + 2, none⟩ = some (.int .i64 p.catalog) ∧ w.cell? ⟨b, o + 3, none⟩ = some (.int .i64 p.tick) ∧
  w.cell? ⟨b, o + 4, none⟩ = some (.int .i64 p.dx) ∧ w.cell? ⟨b, o + 5, none⟩ = some (.int .i64 p.dy) ∧ w.cell? ⟨b, o + 6, none⟩ = some (.int .i64 p.err) ∧ w.cell? ⟨b, o + 7, none⟩ = some (.int .i64 p.lo) ∧ w.cell? ⟨b, o + 8, none⟩ = some (.int .i64 p.hi)

abbrev Vecs (w : World) (A : Option Addr) (n : Nat) (l : List Vec) : Prop := SlR 2 (vecAt w) A n l
def bodyAt (w : World) (p : Body) (b o : Nat) : Prop :=
  w.cell? ⟨b, o, none⟩ = some (.int .i64 p.mu) ∧ w.cell? ⟨b, o + 1, none⟩ = some (.int .i64 p.radius) ∧ ∃ A n c, w.cell? ⟨b, o + 2, none⟩ = some (.slice A n c) ∧ Vecs w A n p.track
abbrev Bodies (w : World) (A : Option Addr) (n : Nat) (l : List Body) : Prop := SlR 3 (bodyAt w) A n l
abbrev Stns (w : World) (A : Option Addr) (n : Nat) (l : List Stn) : Prop := SlR 3 (stnAt w) A n l
abbrev Cats (w : World) (A : Option Addr) (n : Nat) (l : List Cat) : Prop := SlR 3 (catAt w) A n l
abbrev Sights (w : World) (A : Option Addr) (n : Nat) (l : List Sight) : Prop := SlR 9 (sightAt w) A n l
abbrev Sts (w : World) (A : Option Addr) (n : Nat) (l : List St) : Prop := SlR 4 (stAt w) A n l

structure IsSky (w : World) (A1 : Option Addr) (n1 : Nat) (home : Int) (A2 : Option Addr) (n2 : Nat) (A3 : Option Addr) (n3 : Nat) (s : Sky) : Prop where
  bodies : Bodies w A1 n1 s.world.bodies
  home : home = s.world.home
  stations : Stns w A2 n2 s.stations
  catalogs : Cats w A3 n3 s.catalogs

section
variable {w w' : World} (e : Ext w w')
include e
theorem vecAt.ext {p : Vec} {b o : Nat} (h : vecAt w p b o) : vecAt w' p b o := ⟨e.cell h.1, e.cell h.2⟩
theorem stnAt.ext {p : Stn} {b o : Nat} (h : stnAt w p b o) : stnAt w' p b o := ⟨e.cell h.1, e.cell h.2.1, e.cell h.2.2⟩
theorem catAt.ext {p : Cat} {b o : Nat} (h : catAt w p b o) : catAt w' p b o := ⟨e.cell h.1, e.cell h.2.1, e.cell h.2.2⟩
theorem stAt.ext {p : St} {b o : Nat} (h : stAt w p b o) : stAt w' p b o := ⟨e.cell h.1, e.cell h.2.1, e.cell h.2.2.1, e.cell h.2.2.2⟩
theorem sightAt.ext {p : Sight} {b o : Nat} (h : sightAt w p b o) : sightAt w' p b o := by
  obtain ⟨h0, h1, h2, h3, h4, h5, h6, h7, h8⟩ := h
  exact ⟨e.cell h0, e.cell h1, e.cell h2, e.cell h3, e.cell h4, e.cell h5, e.cell h6, e.cell h7, e.cell h8⟩
theorem Vecs.ext {A n l} (h : Vecs w A n l) : Vecs w' A n l := SlR.mono h fun _ _ _ _ => vecAt.ext e
theorem bodyAt.ext {p : Body} {b o : Nat} (h : bodyAt w p b o) : bodyAt w' p b o := by
  obtain ⟨h0, h1, A, n, c, h2, h3⟩ := h
  exact ⟨e.cell h0, e.cell h1, A, n, c, e.cell h2, Vecs.ext e h3⟩
theorem Bodies.ext {A n l} (h : Bodies w A n l) : Bodies w' A n l := SlR.mono h fun _ _ _ _ => bodyAt.ext e
theorem Stns.ext {A n l} (h : Stns w A n l) : Stns w' A n l := SlR.mono h fun _ _ _ _ => stnAt.ext e
theorem Cats.ext {A n l} (h : Cats w A n l) : Cats w' A n l := SlR.mono h fun _ _ _ _ => catAt.ext e
theorem Sights.ext {A n l} (h : Sights w A n l) : Sights w' A n l := SlR.mono h fun _ _ _ _ => sightAt.ext e
theorem Sts.ext {A n l} (h : Sts w A n l) : Sts w' A n l := SlR.mono h fun _ _ _ _ => stAt.ext e
theorem IsSky.ext {A1 n1 home A2 n2 A3 n3 s} (h : IsSky w A1 n1 home A2 n2 A3 n3 s) : IsSky w' A1 n1 home A2 n2 A3 n3 s :=
  ⟨Bodies.ext e h.bodies, h.home, Stns.ext e h.stations, Cats.ext e h.catalogs⟩
end
end Go.Proofs.YtiladlangkjoiaaGreat

namespace Go.Proofs.YtiladlangkjoiaaGreat.DivLaw
theorem digit_dec {yn1 yn0 u d q r : Nat} (hu : u < yn1 * 4294967296 + yn0) (hd : d < 4294967296) (hqr : q * yn1 + r = u) (hge : (u * 4294967296 + d) / (yn1 * 4294967296 + yn0) ≤ q)
    (ht : 4294967296 ≤ q ∨ 4294967296 * r + d < q * yn0) : (u * 4294967296 + d) / (yn1 * 4294967296 + yn0) + 1 ≤ q := by
  have hy0 : 0 < yn1 * 4294967296 + yn0 := by omega
  rcases ht with ht | ht
  · have : (u * 4294967296 + d) / (yn1 * 4294967296 + yn0) < 4294967296 := by
      rw [Nat.div_lt_iff_lt_mul hy0]
      have : (u + 1) * 4294967296 ≤ (yn1 * 4294967296 + yn0) * 4294967296 := Nat.mul_le_mul_right _ hu
      omega
    omega
  · have : (u * 4294967296 + d) / (yn1 * 4294967296 + yn0) < q := by
      rw [Nat.div_lt_iff_lt_mul hy0, Nat.mul_add, ← Nat.mul_assoc]
      generalize q * yn1 = a at *
      generalize q * yn0 = b at *
      omega
    omega
theorem digit_ok {yn1 yn0 u d q r : Nat} (hu : u < yn1 * 4294967296 + yn0) (hqr : q * yn1 + r = u) (hge : (u * 4294967296 + d) / (yn1 * 4294967296 + yn0) ≤ q)
    (ht : q * yn0 ≤ 4294967296 * r + d) : q = (u * 4294967296 + d) / (yn1 * 4294967296 + yn0) := by
  have hy0 : 0 < yn1 * 4294967296 + yn0 := by omega
  refine Nat.le_antisymm ?_ hge
  rw [Nat.le_div_iff_mul_le hy0, Nat.mul_add, ← Nat.mul_assoc]
  generalize q * yn1 = a at *
  generalize q * yn0 = b at *
  omega
theorem digit_start {yn1 yn0 u d : Nat} (h1 : 2147483648 ≤ yn1) : (u * 4294967296 + d) / (yn1 * 4294967296 + yn0) ≤ u / yn1 ∨ 4294967296 ≤ d := by
  rcases Nat.lt_or_ge d 4294967296 with hd | hd
  · left
    have : u < (u / yn1 + 1) * yn1 := by
      have := Nat.lt_mul_div_succ u (show 0 < yn1 by omega)
      rw [Nat.mul_comm]; exact this
    have h2 : (u * 4294967296 + d) / (yn1 * 4294967296 + yn0) < u / yn1 + 1 := by
      rw [Nat.div_lt_iff_lt_mul (by omega), Nat.mul_add, ← Nat.mul_assoc]
      generalize (u / yn1 + 1) * yn1 = a at *
      generalize (u / yn1 + 1) * yn0 = b at *
      omega
    omega
  · right; exact hd
theorem digit_bound {yn1 yn0 u : Nat} (h1 : 2147483648 ≤ yn1) (hy : yn0 < 4294967296) (hu : u < yn1 * 4294967296 + yn0) : u / yn1 ≤ 4294967297 := by
  have : u / yn1 < 4294967298 := by
    rw [Nat.div_lt_iff_lt_mul (by omega)]
    omega
  omega
theorem two_digits {u d1 d0 y q1 q0 r1 : Nat} (hy : 0 < y) (h1 : q1 = (u * 4294967296 + d1) / y) (hr : r1 = (u * 4294967296 + d1) % y) (h0 : q0 = (r1 * 4294967296 + d0) / y) :
    q1 * 4294967296 + q0 = (u * 18446744073709551616 + d1 * 4294967296 + d0) / y ∧ (r1 * 4294967296 + d0) % y = (u * 18446744073709551616 + d1 * 4294967296 + d0) % y := by
  have e1 := Nat.div_add_mod (u * 4294967296 + d1) y
  rw [← h1, ← hr] at e1
  have e2 : u * 18446744073709551616 + d1 * 4294967296 + d0 = y * (q1 * 4294967296) + (r1 * 4294967296 + d0) := by
    rw [← Nat.mul_assoc]
    generalize y * q1 = a at *
    omega
  rw [e2, Nat.mul_add_div hy, Nat.mul_add_mod, ← h0]
  exact ⟨rfl, rfl⟩
theorem shifted {n y k : Nat} (hk : 0 < k) : (n * k) / (y * k) = n / y ∧ (n * k) % (y * k) / k = n % y := by
  constructor
  · exact Nat.mul_div_mul_right _ _ hk
  · rw [Nat.mul_mod_mul_right, Nat.mul_div_cancel _ hk]
end Go.Proofs.YtiladlangkjoiaaGreat.DivLaw

namespace Go.Proofs.YtiladlangkjoiaaGreat
def rootF (n : Nat) : Nat → Nat → Nat
  | 0, out => out
  | k + 1, out => rootF n k (if (out + 2 ^ k) * (out + 2 ^ k) ≤ n then out + 2 ^ k else out)
def rootN (n : Nat) : Nat := rootF n 32 0
theorem rootF_step (n k out : Nat) : rootF n (k + 1) out = rootF n k (if (out + 2 ^ k) * (out + 2 ^ k) ≤ n then out + 2 ^ k else out) := rfl
theorem or_bit {out k : Nat} (h : out % 2 ^ (k + 1) = 0) : out ||| 2 ^ k = out + 2 ^ k := by
  obtain ⟨a, rfl⟩ : ∃ a, out = 2 ^ (k + 1) * a := ⟨out / 2 ^ (k + 1), by have := Nat.div_add_mod out (2 ^ (k + 1)); omega⟩
  exact (Nat.two_pow_add_eq_or_of_lt (Nat.pow_lt_pow_right (by omega) (by omega)) a).symm
theorem bit_mod {out k : Nat} (h : out % 2 ^ (k + 1) = 0) : out % 2 ^ k = 0 ∧ (out + 2 ^ k) % 2 ^ k = 0 := by
  obtain ⟨a, rfl⟩ : ∃ a, out = 2 ^ (k + 1) * a := ⟨out / 2 ^ (k + 1), by have := Nat.div_add_mod out (2 ^ (k + 1)); omega⟩
  have e : 2 ^ (k + 1) * a = 2 ^ k * (2 * a) := by rw [Nat.pow_succ, Nat.mul_assoc]
  rw [e]
  constructor
  · exact Nat.mul_mod_right _ _
  · rw [Nat.add_mod_right]; exact Nat.mul_mod_right _ _
theorem rootF_bound (n : Nat) : ∀ (k out : Nat), out * out ≤ n → n < (out + 2 ^ k) * (out + 2 ^ k) → rootF n k out * rootF n k out ≤ n ∧ n < (rootF n k out + 1) * (rootF n k out + 1)
  | 0, out, h1, h2 => ⟨h1, h2⟩
  | k + 1, out, h1, h2 => by
    rw [rootF_step]
    split
    · next h => exact rootF_bound n k _ h (by rw [Nat.add_assoc, ← Nat.two_mul, ← Nat.pow_succ']; exact h2)
    · next h => exact rootF_bound n k _ h1 (by omega)
theorem rootN_spec {n : Nat} (h : n < 18446744073709551616) : rootN n * rootN n ≤ n ∧ n < (rootN n + 1) * (rootN n + 1) := rootF_bound n 32 0 (by omega) (by simpa using h)
theorem rootN_le {n m : Nat} (h : n < 18446744073709551616) (hm : n < (m + 1) * (m + 1)) : rootN n ≤ m := by
  have h1 := (rootN_spec h).1
  rcases Nat.lt_or_ge m (rootN n) with h2 | h2
  · have := Nat.mul_le_mul (show m + 1 ≤ rootN n from h2) (show m + 1 ≤ rootN n from h2)
    omega
  · exact h2
end Go.Proofs.YtiladlangkjoiaaGreat

namespace Go.Proofs.YtiladlangkjoiaaGreat
open Go.RowKit

def fliesM (R : List Bool) (F : List Int) (i : Int) : Bool := !(R.getD i.toNat false) || F.any fun n => decide (n < i)
def countsM (R : List Bool) (F : List Int) : Bool := !(F.any fun i => !fliesM R F i)
def listsM (hi : Nat) : Nat → Nat → List (List Int)
  | 0, _ => [[]]
  | n + 1, low => (List.range' low (hi - low)).flatMap fun i : Nat => (listsM hi n (i + 1)).map ((i : Int) :: ·)
def growM (hi : Nat) : Nat → List Int → Nat → List (List Int)
  | 0, l, _ => [l]
  | n + 1, l, low => (List.range' low (hi - low)).flatMap fun i : Nat => growM hi n (l ++ [(i : Int)]) (i + 1)
def failsM (R : List Bool) (N : Nat) : List (List Int) := (List.range (N + 1)).flatMap fun n => (listsM R.length n 0).filter (countsM R)
def workM (R : List Bool) (F : List Int) : List Int := ((List.range R.length).map fun i : Nat => (i : Int)).filter fun i => fliesM R F i && !F.contains i
theorem growM_eq (hi : Nat) : ∀ (n : Nat) (l : List Int) (low : Nat), growM hi n l low = (listsM hi n low).map (l ++ ·)
  | 0, l, low => by simp [growM, listsM]
  | n + 1, l, low => by
    rw [growM, listsM, List.map_flatMap]
    congr 1
    funext i
    rw [growM_eq hi n, List.map_map]
    congr 1
    funext x
    simp
end Go.Proofs.YtiladlangkjoiaaGreat

namespace Go.Proofs.YtiladlangkjoiaaGreat
open Go.RowKit

def sqP (p : Vec) : Int := p.x * p.x + p.y * p.y
def alongM (p q : Vec) : Int := -(p.x * (q.x - p.x) + p.y * (q.y - p.y))
def longM (p q : Vec) : Int := (q.x - p.x) * (q.x - p.x) + (q.y - p.y) * (q.y - p.y)
def crossP (p q : Vec) : Int := p.x * q.y - p.y * q.x
def dotP (p q : Vec) : Int := p.x * q.x + p.y * q.y
def comesB (p q : Vec) (r : Int) : Bool :=
  if alongM p q ≤ 0 then decide (sqP p ≤ r * r) else if longM p q ≤ alongM p q then decide (sqP q ≤ r * r) else decide (crossP p q * crossP p q ≤ r * r * longM p q)
def sideB (L : List Vec) (p : Vec) : Bool := L.all fun q => decide (0 ≤ crossP p q)
def clearL (L : List Vec) (r : Int) : Bool := (L.all fun p => L.all fun q => !comesB p q r) && L.any (sideB L)
theorem sq_nonneg (a : Int) : 0 ≤ a * a := by
  rcases Int.le_total 0 a with h | h
  · exact Int.mul_nonneg h h
  · exact Int.mul_nonneg_of_nonpos_of_nonpos h h
theorem sq_zero {a b : Int} (h : a * a + b * b ≤ 0) : a = 0 ∧ b = 0 := by
  have h1 := sq_nonneg a
  have h2 := sq_nonneg b
  have h3 : a * a = 0 := by omega
  have h4 : b * b = 0 := by omega
  exact ⟨by simpa using Int.mul_eq_zero.1 h3, by simpa using Int.mul_eq_zero.1 h4⟩
theorem long_eq (p q : Vec) : longM p q = sqP p + sqP q - 2 * dotP p q := by
  unfold longM sqP dotP; grind
theorem along_eq (p q : Vec) : alongM p q = sqP p - dotP p q := by
  unfold alongM sqP dotP; grind
theorem dot_comm (p q : Vec) : dotP p q = dotP q p := by unfold dotP; grind
theorem cross_anti (p q : Vec) : crossP p q * crossP p q = crossP q p * crossP q p := by unfold crossP; grind
theorem comes_comm (p q : Vec) (r : Int) : comesB p q r = comesB q p r := by
  unfold comesB
  have e1 := along_eq p q
  have e2 := along_eq q p
  have e3 := long_eq p q
  have e4 := long_eq q p
  have e5 := dot_comm p q
  have e6 := cross_anti p q
  have e7 : longM p q = longM q p := by rw [e3, e4, e5]; omega
  have hl : 0 ≤ longM p q := by
    have h1 := sq_nonneg (q.x - p.x)
    have h2 := sq_nonneg (q.y - p.y)
    unfold longM; omega
  rw [e6, e7]
  by_cases h1 : alongM p q ≤ 0
  · rw [if_pos h1]
    by_cases h2 : alongM q p ≤ 0
    · rw [if_pos h2]
      have h3 : longM p q ≤ 0 := by omega
      have h4 : q.x - p.x = 0 ∧ q.y - p.y = 0 := sq_zero h3
      obtain ⟨px, py⟩ := p
      obtain ⟨qx, qy⟩ := q
      dsimp only at h4
      obtain rfl : qx = px := by omega
      obtain rfl : qy = py := by omega
      rfl
    · rw [if_neg h2, if_pos (by omega)]
  · rw [if_neg h1]
    by_cases h2 : longM p q ≤ alongM p q
    · rw [if_pos (by omega), if_pos (by omega)]
    · rw [if_neg (by omega), if_neg (by omega), if_neg (by omega)]
theorem comes_zero {p q : Vec} {r : Int} (hc : crossP p q = 0) (hd : dotP p q ≤ 0) : comesB p q r = true := by
  have e1 := along_eq p q
  have e3 := long_eq p q
  have hr := sq_nonneg r
  have hp : 0 ≤ sqP p := by have h1 := sq_nonneg p.x; have h2 := sq_nonneg p.y; unfold sqP; omega
  have hq : 0 ≤ sqP q := by have h1 := sq_nonneg q.x; have h2 := sq_nonneg q.y; unfold sqP; omega
  unfold comesB
  by_cases h1 : alongM p q ≤ 0
  · rw [if_pos h1]; exact decide_eq_true (by omega)
  · rw [if_neg h1]
    by_cases h2 : longM p q ≤ alongM p q
    · rw [if_pos h2]; exact decide_eq_true (by omega)
    · rw [if_neg h2, hc]
      exact decide_eq_true (by rw [Int.mul_zero]; exact Int.mul_nonneg hr (by omega))
theorem sq_mul_le {a b n : Int} (hn : 0 < n) (h : n * n * a ≤ b * (n * n)) : a ≤ b := by
  have hp : 0 < n * n := Int.mul_pos hn hn
  rw [Int.mul_comm b] at h
  exact Int.le_of_mul_le_mul_left h hp
theorem near_seg {p q : Vec} {r s t : Int} (hs : 0 ≤ s) (ht : 0 ≤ t) (hst : 0 < s + t)
    (h : (s * p.x + t * q.x) * (s * p.x + t * q.x) + (s * p.y + t * q.y) * (s * p.y + t * q.y) ≤ r * r * ((s + t) * (s + t))) : comesB p q r = true := by
  obtain ⟨n, hn⟩ : ∃ n, n = s + t := ⟨_, rfl⟩
  have hM : 0 ≤ longM p q := by have h1 := sq_nonneg (q.x - p.x); have h2 := sq_nonneg (q.y - p.y); unfold longM; omega
  have e1 : (s * p.x + t * q.x) * (s * p.x + t * q.x) + (s * p.y + t * q.y) * (s * p.y + t * q.y) = n * n * sqP p - 2 * (n * t) * alongM p q + t * t * longM p q := by
    subst hn; unfold sqP alongM longM; grind
  have e2 : longM p q * sqP p - alongM p q * alongM p q = crossP p q * crossP p q := by unfold sqP alongM longM crossP; grind
  have e3 : sqP q = sqP p - 2 * alongM p q + longM p q := by unfold sqP alongM longM; grind
  rw [e1, ← hn] at h
  rw [← hn] at hst
  unfold comesB
  generalize sqP p = P at *
  generalize sqP q = Q at *
  generalize alongM p q = A at *
  generalize longM p q = M at *
  generalize crossP p q * crossP p q = C at *
  have htt := sq_nonneg t
  have htn : t ≤ n := by omega
  by_cases h1 : A ≤ 0
  · rw [if_pos h1]
    refine decide_eq_true (sq_mul_le hst ?_)
    have a1 : 0 ≤ n * t * (-A) := Int.mul_nonneg (Int.mul_nonneg (by omega) ht) (by omega)
    have a2 : 0 ≤ t * t * M := Int.mul_nonneg htt hM
    have a3 : n * t * (-A) = -(n * t * A) := by rw [Int.mul_neg]
    have a4 : 2 * (n * t) * A = 2 * (n * t * A) := by rw [Int.mul_assoc]
    rw [a4] at h
    omega
  · rw [if_neg h1]
    by_cases h2 : M ≤ A
    · rw [if_pos h2]
      refine decide_eq_true (sq_mul_le hst ?_)
      have a1 : 0 ≤ n * (n - t) * (A - M) := Int.mul_nonneg (Int.mul_nonneg (by omega) (by omega)) (by omega)
      have a2 : 0 ≤ (n - t) * (n - t) * M := Int.mul_nonneg (sq_nonneg _) hM
      have a3 : n * n * P - 2 * (n * t) * A + t * t * M = n * n * Q + 2 * (n * (n - t) * (A - M)) + (n - t) * (n - t) * M := by rw [e3]; grind
      omega
    · rw [if_neg h2]
      refine decide_eq_true (sq_mul_le hst ?_)
      have a1 : M * (n * n * P - 2 * (n * t) * A + t * t * M) = (t * M - n * A) * (t * M - n * A) + n * n * C := by rw [← e2]; grind
      have a2 := sq_nonneg (t * M - n * A)
      have a3 := Int.mul_le_mul_of_nonneg_left h hM
      have a4 : M * (r * r * (n * n)) = r * r * M * (n * n) := by grind
      omega
theorem seg_near {p q : Vec} {r : Int} (h : comesB p q r = true) : ∃ s t : Int, 0 ≤ s ∧ 0 ≤ t ∧ 0 < s + t ∧ (s * p.x + t * q.x) * (s * p.x + t * q.x) + (s * p.y + t * q.y) * (s * p.y + t * q.y) ≤ r * r * ((s + t) * (s + t)) := by
  unfold comesB at h
  by_cases h1 : alongM p q ≤ 0
  · rw [if_pos h1, decide_eq_true_eq] at h
    refine ⟨1, 0, by omega, by omega, by omega, ?_⟩
    unfold sqP at h
    simpa using h
  · rw [if_neg h1] at h
    by_cases h2 : longM p q ≤ alongM p q
    · rw [if_pos h2, decide_eq_true_eq] at h
      refine ⟨0, 1, by omega, by omega, by omega, ?_⟩
      unfold sqP at h
      simpa using h
    · rw [if_neg h2, decide_eq_true_eq] at h
      refine ⟨longM p q - alongM p q, alongM p q, by omega, by omega, by omega, ?_⟩
      have e : ((longM p q - alongM p q) * p.x + alongM p q * q.x) * ((longM p q - alongM p q) * p.x + alongM p q * q.x) + ((longM p q - alongM p q) * p.y + alongM p q * q.y) * ((longM p q - alongM p q) * p.y + alongM p q * q.y) = crossP p q * crossP p q * longM p q := by
        have e1 : ((longM p q - alongM p q) * p.x + alongM p q * q.x) = longM p q * p.x + alongM p q * (q.x - p.x) := by grind
        have e2 : ((longM p q - alongM p q) * p.y + alongM p q * q.y) = longM p q * p.y + alongM p q * (q.y - p.y) := by grind
        rw [e1, e2]
        unfold alongM longM crossP
        grind
      rw [e, show longM p q - alongM p q + alongM p q = longM p q by omega]
      have := Int.mul_le_mul_of_nonneg_right h (show 0 ≤ longM p q by omega)
      rw [Int.mul_assoc (r * r)] at this
      exact this
def ConeP (o p : Vec) : Prop := 0 < crossP o p ∨ (crossP o p = 0 ∧ 0 < dotP o p)
def nearC (u v w : Vec) (r a b c : Int) : Prop := (a * u.x + b * v.x + c * w.x) * (a * u.x + b * v.x + c * w.x) + (a * u.y + b * v.y + c * w.y) * (a * u.y + b * v.y + c * w.y) ≤ r * r * ((a + b + c) * (a + b + c))
theorem near_two {u w : Vec} {r x z a c k n : Int} (hx : 0 ≤ x) (hz : 0 ≤ z) (hn : 0 < n) (hN : 0 < k) (hs : k * n ≤ x + z)
    (h : a * a + c * c ≤ r * r * (n * n)) (ha : x * u.x + z * w.x = k * a) (hc : x * u.y + z * w.y = k * c) : comesB u w r = true := by
  have hkn : 0 < k * n := Int.mul_pos hN hn
  refine near_seg hx hz (by omega) ?_
  rw [ha, hc]
  have h1 := Int.mul_le_mul_of_nonneg_left h (sq_nonneg k)
  have h2 : k * a * (k * a) + k * c * (k * c) = k * k * (a * a + c * c) := by grind
  have h3 : k * k * (r * r * (n * n)) = r * r * (k * n * (k * n)) := by grind
  have h4 : k * n * (k * n) ≤ (x + z) * (x + z) := Int.mul_le_mul hs hs (by omega) (by omega)
  have h5 := Int.mul_le_mul_of_nonneg_left h4 (sq_nonneg r)
  omega
theorem comes_end {u w : Vec} {r : Int} (h : sqP u ≤ r * r) : comesB u w r = true :=
  near_seg (s := 1) (t := 0) (by omega) (by omega) (by omega) (by unfold sqP at h; simpa using h)
theorem tri_order {u v w : Vec} {r : Int} (h1 : 0 ≤ crossP u v) (h2 : 0 ≤ crossP v w) (h3 : 0 ≤ crossP u w) (g1 : comesB u v r = false) (g2 : comesB v w r = false) (g3 : comesB u w r = false)
    {a b c : Int} (ha : 0 ≤ a) (hb : 0 ≤ b) (hc : 0 ≤ c) (hN : 0 < a + b + c) : ¬ nearC u v w r a b c := by
  intro hz
  unfold nearC at hz
  obtain ⟨Zx, hZx⟩ : ∃ Z, Z = a * u.x + b * v.x + c * w.x := ⟨_, rfl⟩
  obtain ⟨Zy, hZy⟩ : ∃ Z, Z = a * u.y + b * v.y + c * w.y := ⟨_, rfl⟩
  obtain ⟨e1, he1⟩ : ∃ e, e = crossP v w := ⟨_, rfl⟩
  obtain ⟨e2, he2⟩ : ∃ e, e = crossP u w := ⟨_, rfl⟩
  obtain ⟨e3, he3⟩ : ∃ e, e = crossP u v := ⟨_, rfl⟩
  -- e1 u + e3 w = e2 v
  have ix : e1 * u.x + e3 * w.x = e2 * v.x := by rw [he1, he2, he3]; unfold crossP; grind
  have iy : e1 * u.y + e3 * w.y = e2 * v.y := by rw [he1, he2, he3]; unfold crossP; grind
  rw [← hZx, ← hZy] at hz
  rw [← he1] at h2
  rw [← he2] at h3
  rw [← he3] at h1
  have Hf : ∀ {p q : Vec}, comesB p q r = false → comesB p q r = true → False := fun h k => by rw [h] at k; cases k
  by_cases k2 : e2 = 0
  · -- all on one ray
    have hsame : e1 = 0 ∧ e3 = 0 := by
      have d13 : e1 = 0 ∨ 0 < e1 := by omega
      have d3 : e3 = 0 ∨ 0 < e3 := by omega
      -- e1 u + e3 w = 0; u, w point the same way
      have hd : 0 < dotP u w := by
        refine Int.not_le.1 fun hd => Hf g3 (comes_zero ?_ hd)
        rw [← he2]; exact k2
      have hu : 0 < sqP u := by
        refine Int.not_le.1 fun hs => Hf g3 (comes_end (Int.le_trans hs (sq_nonneg r)))
      have hw : 0 < sqP w := by
        refine Int.not_le.1 fun hs => ?_
        have := comes_end (u := w) (w := u) (r := r) (Int.le_trans hs (sq_nonneg r))
        rw [comes_comm] at this
        exact Hf g3 this
      have q : e1 * sqP u + e3 * dotP u w = 0 := by
        have : e1 * sqP u + e3 * dotP u w = (e1 * u.x + e3 * w.x) * u.x + (e1 * u.y + e3 * w.y) * u.y := by unfold sqP dotP; grind
        rw [this, ix, iy, k2]; simp
      have p1 := Int.mul_nonneg h2 (Int.le_of_lt hu)
      have p2 := Int.mul_nonneg h1 (Int.le_of_lt hd)
      constructor
      · rcases d13 with h | h
        · exact h
        · have := Int.mul_pos h hu; omega
      · rcases d3 with h | h
        · exact h
        · have := Int.mul_pos h hd; omega
    obtain ⟨f1, f3⟩ := hsame
    -- the nearest of the three
    have duv : 0 < dotP u v := Int.not_le.1 fun hd => Hf g1 (comes_zero (by rw [← he3]; exact f3) hd)
    have dvw : 0 < dotP v w := Int.not_le.1 fun hd => Hf g2 (comes_zero (by rw [← he1]; exact f1) hd)
    have duw : 0 < dotP u w := Int.not_le.1 fun hd => Hf g3 (comes_zero (by rw [← he2]; exact k2) hd)
    -- parallel: dot^2 = square * square
    have suv : dotP u v * dotP u v = sqP u * sqP v := by
      have : dotP u v * dotP u v + crossP u v * crossP u v = sqP u * sqP v := by unfold dotP sqP crossP; grind
      rw [← he3, f3] at this; omega
    have svw : dotP v w * dotP v w = sqP v * sqP w := by
      have : dotP v w * dotP v w + crossP v w * crossP v w = sqP v * sqP w := by unfold dotP sqP crossP; grind
      rw [← he1, f1] at this; omega
    have suw : dotP u w * dotP u w = sqP u * sqP w := by
      have : dotP u w * dotP u w + crossP u w * crossP u w = sqP u * sqP w := by unfold dotP sqP crossP; grind
      rw [← he2, k2] at this; omega
    have le_dot : ∀ {s t d : Int}, 0 ≤ s → s ≤ t → 0 < d → d * d = s * t → s ≤ d := fun {s t d} hs hst hd he => by
      refine Int.not_lt.1 fun hlt => ?_
      have q1 : d * d < s * s := by
        have a1 : d * d < d * s := Int.mul_lt_mul_of_pos_left hlt hd
        have a2 : d * s ≤ s * s := Int.mul_le_mul_of_nonneg_right (by omega) hs
        omega
      have q2 : s * s ≤ s * t := Int.mul_le_mul_of_nonneg_left hst hs
      omega
    have sqn : ∀ p : Vec, 0 ≤ sqP p := fun p => by have := sq_nonneg p.x; have := sq_nonneg p.y; unfold sqP; omega
    have fin : ∀ (m : Vec) (q : Vec), comesB m q r = false → sqP m ≤ dotP m u → sqP m ≤ dotP m v → sqP m ≤ dotP m w → False := fun m q hg mu mv mw => by
      -- (Z . m)^2 <= |Z|^2 |m|^2, Z . m >= N |m|^2
      have zm : (a + b + c) * sqP m ≤ Zx * m.x + Zy * m.y := by
        have e : Zx * m.x + Zy * m.y = a * dotP m u + b * dotP m v + c * dotP m w := by rw [hZx, hZy]; unfold dotP; grind
        have a1 := Int.mul_le_mul_of_nonneg_left mu ha
        have a2 := Int.mul_le_mul_of_nonneg_left mv hb
        have a3 := Int.mul_le_mul_of_nonneg_left mw hc
        have a4 : (a + b + c) * sqP m = a * sqP m + b * sqP m + c * sqP m := by grind
        omega
      have hm := sqn m
      have l0 : 0 ≤ (a + b + c) * sqP m := Int.mul_nonneg (by omega) hm
      have l1 := Int.mul_le_mul zm zm l0 (Int.le_trans l0 zm)
      have cs : (Zx * m.x + Zy * m.y) * (Zx * m.x + Zy * m.y) ≤ (Zx * Zx + Zy * Zy) * sqP m := by
        have e : (Zx * Zx + Zy * Zy) * sqP m = (Zx * m.x + Zy * m.y) * (Zx * m.x + Zy * m.y) + (Zx * m.y - Zy * m.x) * (Zx * m.y - Zy * m.x) := by unfold sqP; grind
        have := sq_nonneg (Zx * m.y - Zy * m.x)
        omega
      have l2 := Int.mul_le_mul_of_nonneg_right hz hm
      by_cases hm0 : sqP m = 0
      · exact Hf hg (comes_end (by rw [hm0]; exact sq_nonneg r))
      · have hmp : 0 < sqP m := by omega
        have hp : 0 < (a + b + c) * (a + b + c) * sqP m := Int.mul_pos (Int.mul_pos hN hN) hmp
        have l3 : (a + b + c) * (a + b + c) * sqP m * sqP m ≤ (a + b + c) * (a + b + c) * sqP m * (r * r) := by
          have e4 : (a + b + c) * sqP m * ((a + b + c) * sqP m) = (a + b + c) * (a + b + c) * sqP m * sqP m := by grind
          have e5 : r * r * ((a + b + c) * (a + b + c)) * sqP m = (a + b + c) * (a + b + c) * sqP m * (r * r) := by grind
          omega
        exact Hf hg (comes_end (Int.le_of_mul_le_mul_left l3 hp))
    have su := sqn u
    have sv := sqn v
    have sw := sqn w
    have dd : ∀ p : Vec, dotP p p = sqP p := fun p => rfl
    by_cases m1 : sqP u ≤ sqP v ∧ sqP u ≤ sqP w
    · exact fin u v g1 (by rw [dd]; exact Int.le_refl _) (le_dot su m1.1 duv suv) (le_dot su m1.2 duw suw)
    · by_cases m2 : sqP v ≤ sqP u ∧ sqP v ≤ sqP w
      · exact fin v w g2 (by rw [dot_comm]; exact le_dot sv m2.1 duv (by rw [suv, Int.mul_comm])) (by rw [dd]; exact Int.le_refl _) (le_dot sv m2.2 dvw svw)
      · have m3 : sqP w ≤ sqP u ∧ sqP w ≤ sqP v := by omega
        have g3' : comesB w u r = false := by rw [comes_comm]; exact g3
        exact fin w u g3' (by rw [dot_comm]; exact le_dot sw m3.1 duw (by rw [suw, Int.mul_comm])) (by rw [dot_comm]; exact le_dot sw m3.2 dvw (by rw [svw, Int.mul_comm])) (by rw [dd]; exact Int.le_refl _)
  · have k2' : 0 < e2 := by omega
    by_cases hD : e2 ≤ e1 + e3
    · -- the middle one is farther than the others' line: through u and w
      refine Hf g3 (near_two (x := e2 * a + b * e1) (z := e2 * c + b * e3) (k := e2) (n := a + b + c) ?_ ?_ hN k2' ?_ hz ?_ ?_)
      · have := Int.mul_nonneg h3 ha; have := Int.mul_nonneg hb h2; omega
      · have := Int.mul_nonneg h3 hc; have := Int.mul_nonneg hb h1; omega
      · have q := Int.mul_le_mul_of_nonneg_left hD hb
        have q2 : e2 * a + b * e1 + (e2 * c + b * e3) = e2 * a + e2 * c + b * (e1 + e3) := by grind
        have q3 : e2 * (a + b + c) = e2 * a + e2 * c + b * e2 := by grind
        omega
      · rw [hZx]; have := ix; grind
      · rw [hZy]; have := iy; grind
    · -- through v and one of the others
      by_cases hk : a * e3 ≤ c * e1
      · by_cases p1 : e1 = 0
        · -- then a e3 <= 0
          have p3 : 0 < e3 := by
            refine Int.not_le.1 fun h => ?_
            have z3 : e3 = 0 := by omega
            have vx : e2 * v.x = 0 := by rw [← ix, p1, z3]; simp
            have vy : e2 * v.y = 0 := by rw [← iy, p1, z3]; simp
            have v1 : v.x = 0 := by rcases Int.mul_eq_zero.1 vx with h | h; omega; exact h
            have v2 : v.y = 0 := by rcases Int.mul_eq_zero.1 vy with h | h; omega; exact h
            exact Hf g2 (comes_end (by unfold sqP; rw [v1, v2]; simpa using sq_nonneg r))
          have a0 : a = 0 := by
            have q : a * e3 ≤ 0 := by rw [p1, Int.mul_zero] at hk; exact hk
            refine Int.le_antisymm (Int.not_lt.1 fun h => ?_) ha
            have := Int.mul_pos h p3; omega
          exact Hf g2 (near_two (x := b) (z := c) (k := 1) (n := a + b + c) hb hc hN (by omega) (by omega) hz (by rw [hZx, a0]; simp) (by rw [hZy, a0]; simp))
        · have p1' : 0 < e1 := by omega
          refine Hf g2 (near_two (x := e1 * b + a * e2) (z := e1 * c - a * e3) (k := e1) (n := a + b + c) ?_ ?_ hN p1' ?_ hz ?_ ?_)
          · have := Int.mul_nonneg h2 hb; have := Int.mul_nonneg ha h3; omega
          · have := Int.mul_comm c e1; omega
          · have q := Int.mul_le_mul_of_nonneg_left (show e1 + e3 ≤ e2 by omega) ha
            have q2 : e1 * b + a * e2 + (e1 * c - a * e3) = e1 * b + e1 * c + a * e2 - a * e3 := by grind
            have q3 : e1 * (a + b + c) = e1 * b + e1 * c + a * e1 := by grind
            have q4 : a * (e1 + e3) = a * e1 + a * e3 := by grind
            omega
          · rw [hZx]; have := ix; grind
          · rw [hZy]; have := iy; grind
      · have hk' : c * e1 < a * e3 := by omega
        have p3 : 0 < e3 := by
          refine Int.not_le.1 fun h => ?_
          have z3 : e3 = 0 := by omega
          rw [z3, Int.mul_zero] at hk'
          have := Int.mul_nonneg hc h2
          omega
        refine Hf g1 (near_two (x := e3 * a - c * e1) (z := e3 * b + c * e2) (k := e3) (n := a + b + c) ?_ ?_ hN p3 ?_ hz ?_ ?_)
        · have := Int.mul_comm a e3; omega
        · have := Int.mul_nonneg h1 hb; have := Int.mul_nonneg hc h3; omega
        · have q := Int.mul_le_mul_of_nonneg_left (show e1 + e3 ≤ e2 by omega) hc
          have q2 : e3 * a - c * e1 + (e3 * b + c * e2) = e3 * a + e3 * b + c * e2 - c * e1 := by grind
          have q3 : e3 * (a + b + c) = e3 * a + e3 * b + c * e3 := by grind
          have q4 : c * (e1 + e3) = c * e1 + c * e3 := by grind
          omega
        · rw [hZx]; have := ix; grind
        · rw [hZy]; have := iy; grind
theorem nearC_turn {u v w : Vec} {r a b c : Int} (h : nearC u v w r a b c) : nearC v w u r b c a := by
  unfold nearC at *
  rw [show b * v.x + c * w.x + a * u.x = a * u.x + b * v.x + c * w.x by omega, show b * v.y + c * w.y + a * u.y = a * u.y + b * v.y + c * w.y by omega, show b + c + a = a + b + c by omega]
  exact h
theorem nearC_swap {u v w : Vec} {r a b c : Int} (h : nearC u v w r a b c) : nearC v u w r b a c := by
  unfold nearC at *
  rw [show b * v.x + a * u.x + c * w.x = a * u.x + b * v.x + c * w.x by omega, show b * v.y + a * u.y + c * w.y = a * u.y + b * v.y + c * w.y by omega, show b + a + c = a + b + c by omega]
  exact h
theorem cross_neg (p q : Vec) : crossP p q = -crossP q p := by unfold crossP; grind
theorem cone_round {o u v w : Vec} (hu : ConeP o u) (hv : ConeP o v) (hw : ConeP o w) (h1 : 0 < crossP u v) (h2 : 0 < crossP v w) (h3 : 0 < crossP w u) : False := by
  have ef : crossP v w * crossP o u + crossP w u * crossP o v + crossP u v * crossP o w = 0 := by unfold crossP; grind
  have eg : crossP v w * dotP o u + crossP w u * dotP o v + crossP u v * dotP o w = 0 := by unfold crossP dotP; grind
  unfold ConeP at hu hv hw
  have fu : 0 ≤ crossP o u := by omega
  have fv : 0 ≤ crossP o v := by omega
  have fw : 0 ≤ crossP o w := by omega
  have m1 := Int.mul_nonneg (Int.le_of_lt h2) fu
  have m2 := Int.mul_nonneg (Int.le_of_lt h3) fv
  have m3 := Int.mul_nonneg (Int.le_of_lt h1) fw
  have z : ∀ {k f : Int}, 0 < k → k * f = 0 → f = 0 := fun {k f} hk h => by rcases Int.mul_eq_zero.1 h with h | h; omega; exact h
  have z1 := z h2 (show crossP v w * crossP o u = 0 by omega)
  have z2 := z h3 (show crossP w u * crossP o v = 0 by omega)
  have z3 := z h1 (show crossP u v * crossP o w = 0 by omega)
  have g1 := Int.mul_pos h2 (show 0 < dotP o u by omega)
  have g2 := Int.mul_pos h3 (show 0 < dotP o v by omega)
  have g3 := Int.mul_pos h1 (show 0 < dotP o w by omega)
  omega
theorem tri_cone {o u v w : Vec} {r : Int} (hu : ConeP o u) (hv : ConeP o v) (hw : ConeP o w) (g1 : comesB u v r = false) (g2 : comesB v w r = false) (g3 : comesB u w r = false)
    {a b c : Int} (ha : 0 ≤ a) (hb : 0 ≤ b) (hc : 0 ≤ c) (hN : 0 < a + b + c) : ¬ nearC u v w r a b c := by
  intro hz
  have g1' : comesB v u r = false := by rw [comes_comm]; exact g1
  have g2' : comesB w v r = false := by rw [comes_comm]; exact g2
  have g3' : comesB w u r = false := by rw [comes_comm]; exact g3
  have n1 := cross_neg v u
  have n2 := cross_neg w v
  have n3 := cross_neg u w
  by_cases p1 : 0 ≤ crossP u v
  · by_cases p2 : 0 ≤ crossP v w
    · by_cases p3 : 0 ≤ crossP u w
      · exact tri_order p1 p2 p3 g1 g2 g3 ha hb hc hN hz
      · by_cases q1 : crossP u v = 0
        · exact tri_order (show 0 ≤ crossP v w by omega) (show 0 ≤ crossP w u by omega) (show 0 ≤ crossP v u by omega) g2 g3' g1' hb hc ha (by omega) (nearC_turn hz)
        · by_cases q2 : crossP v w = 0
          · exact tri_order (show 0 ≤ crossP w u by omega) p1 (show 0 ≤ crossP w v by omega) g3' g1 g2' hc ha hb (by omega) (nearC_turn (nearC_turn hz))
          · exact cone_round hu hv hw (by omega) (by omega) (by omega)
    · by_cases p3 : 0 ≤ crossP u w
      · exact tri_order p3 (show 0 ≤ crossP w v by omega) p1 g3 g2' g1 ha hc hb (by omega) (nearC_swap (nearC_turn (nearC_turn hz)))
      · exact tri_order (show 0 ≤ crossP w u by omega) p1 (show 0 ≤ crossP w v by omega) g3' g1 g2' hc ha hb (by omega) (nearC_turn (nearC_turn hz))
  · by_cases p2 : 0 ≤ crossP v w
    · by_cases p3 : 0 ≤ crossP u w
      · exact tri_order (show 0 ≤ crossP v u by omega) p3 p2 g1' g3 g2 hb ha hc (by omega) (nearC_swap hz)
      · exact tri_order p2 (show 0 ≤ crossP w u by omega) (show 0 ≤ crossP v u by omega) g2 g3' g1' hb hc ha (by omega) (nearC_turn hz)
    · by_cases p3 : 0 ≤ crossP w u
      · exact tri_order (show 0 ≤ crossP w v by omega) (show 0 ≤ crossP v u by omega) p3 g2' g1' g3' hc hb ha (by omega) (nearC_turn (nearC_turn (nearC_swap hz)))
      · by_cases q : crossP u w = 0
        · omega
        · exact cone_round hw hv hu (by omega) (by omega) (by omega)
def InSeg (v w x : Vec) : Prop := ∃ s t : Int, 0 ≤ s ∧ 0 ≤ t ∧ 0 < s + t ∧ (s + t) * x.x = s * v.x + t * w.x ∧ (s + t) * x.y = s * v.y + t * w.y
theorem seg_clear {o u v w x : Vec} {r : Int} (hu : ConeP o u) (hv : ConeP o v) (hw : ConeP o w) (g1 : comesB u v r = false) (g2 : comesB v w r = false) (g3 : comesB u w r = false) (hx : InSeg v w x) : comesB u x r = false := by
  obtain ⟨s, t, h1, h2, h3, h4, h5⟩ := hx
  rw [← Bool.not_eq_true]
  intro h
  obtain ⟨a, b, k1, k2, k3, k4⟩ := seg_near h
  refine tri_cone hu hv hw g1 g2 g3 (a := a * (s + t)) (b := b * s) (c := b * t) (Int.mul_nonneg k1 (by omega)) (Int.mul_nonneg k2 h1) (Int.mul_nonneg k2 h2) ?_ ?_
  · have := Int.mul_pos k3 h3
    have e : a * (s + t) + b * s + b * t = (a + b) * (s + t) := by grind
    omega
  · unfold nearC
    have e1 : a * (s + t) * u.x + b * s * v.x + b * t * w.x = (s + t) * (a * u.x + b * x.x) := by grind
    have e2 : a * (s + t) * u.y + b * s * v.y + b * t * w.y = (s + t) * (a * u.y + b * x.y) := by grind
    have e3 : a * (s + t) + b * s + b * t = (s + t) * (a + b) := by grind
    rw [e1, e2, e3]
    have q := Int.mul_le_mul_of_nonneg_left k4 (sq_nonneg (s + t))
    have q1 : (s + t) * (a * u.x + b * x.x) * ((s + t) * (a * u.x + b * x.x)) + (s + t) * (a * u.y + b * x.y) * ((s + t) * (a * u.y + b * x.y)) = (s + t) * (s + t) * ((a * u.x + b * x.x) * (a * u.x + b * x.x) + (a * u.y + b * x.y) * (a * u.y + b * x.y)) := by grind
    have q2 : r * r * ((s + t) * (a + b) * ((s + t) * (a + b))) = (s + t) * (s + t) * (r * r * ((a + b) * (a + b))) := by grind
    omega
theorem cone_seg {o v w x : Vec} (hv : ConeP o v) (hw : ConeP o w) (hx : InSeg v w x) : ConeP o x := by
  obtain ⟨s, t, h1, h2, h3, h4, h5⟩ := hx
  have ef : (s + t) * crossP o x = s * crossP o v + t * crossP o w := by unfold crossP; grind
  have eg : (s + t) * dotP o x = s * dotP o v + t * dotP o w := by unfold dotP; grind
  unfold ConeP at *
  have fv : 0 ≤ crossP o v := by omega
  have fw : 0 ≤ crossP o w := by omega
  have m1 := Int.mul_nonneg h1 fv
  have m2 := Int.mul_nonneg h2 fw
  have hpos : ∀ {f : Int}, 0 < (s + t) * f → 0 < f := fun {f} h => by
    refine Int.not_le.1 fun hf => ?_
    have := Int.mul_nonneg (show 0 ≤ s + t by omega) (show 0 ≤ -f by omega)
    rw [Int.mul_neg] at this
    omega
  by_cases hz : 0 < (s + t) * crossP o x
  · exact .inl (hpos hz)
  · have z1 : s * crossP o v = 0 := by omega
    have z2 : t * crossP o w = 0 := by omega
    have z3 : (s + t) * crossP o x = 0 := by omega
    refine .inr ⟨?_, hpos ?_⟩
    · rcases Int.mul_eq_zero.1 z3 with h | h
      · omega
      · exact h
    · rw [eg]
      have gv : 0 ≤ s * dotP o v := by
        rcases Int.mul_eq_zero.1 z1 with h | h
        · rw [h]; simp
        · exact Int.mul_nonneg h1 (by omega)
      have gw : 0 ≤ t * dotP o w := by
        rcases Int.mul_eq_zero.1 z2 with h | h
        · rw [h]; simp
        · exact Int.mul_nonneg h2 (by omega)
      rcases (show 0 < s ∨ 0 < t by omega) with h | h
      · have : crossP o v = 0 := by rcases Int.mul_eq_zero.1 z1 with k | k; omega; exact k
        have := Int.mul_pos h (show 0 < dotP o v by omega)
        omega
      · have : crossP o w = 0 := by rcases Int.mul_eq_zero.1 z2 with k | k; omega; exact k
        have := Int.mul_pos h (show 0 < dotP o w by omega)
        omega
def GoodP (o : Vec) (r : Int) (S : List Vec) : Prop := (∀ c ∈ S, ConeP o c) ∧ ∀ c ∈ S, ∀ d ∈ S, comesB c d r = false
theorem GoodP.add {o : Vec} {r : Int} {S : List Vec} (h : GoodP o r S) {v w x : Vec} (hv : v ∈ S) (hw : w ∈ S) (hx : InSeg v w x) : GoodP o r (x :: S) := by
  have hs : ∀ c ∈ S, comesB c x r = false := fun c hc => seg_clear (h.1 c hc) (h.1 v hv) (h.1 w hw) (h.2 c hc v hv) (h.2 v hv w hw) (h.2 c hc w hw) hx
  have hxx : comesB x x r = false := by
    rw [← Bool.not_eq_true]
    intro k
    have hq : sqP x ≤ r * r := by
      unfold comesB at k
      rw [if_pos (by unfold alongM; simp), decide_eq_true_eq] at k
      exact k
    have k2 := comes_end (w := v) hq
    rw [comes_comm, hs v hv] at k2
    cases k2
  refine ⟨fun c hc => ?_, fun c hc d hd => ?_⟩
  · rcases List.mem_cons.1 hc with e | k
    · rw [e]; exact cone_seg (h.1 v hv) (h.1 w hw) hx
    · exact h.1 c k
  · rcases List.mem_cons.1 hc with e | k
    · rcases List.mem_cons.1 hd with e' | k'
      · rw [e, e']; exact hxx
      · rw [e, comes_comm]; exact hs d k'
    · rcases List.mem_cons.1 hd with e' | k'
      · rw [e']; exact hs c k
      · exact h.2 c k d k'
end Go.Proofs.YtiladlangkjoiaaGreat

namespace Go.Proofs.YtiladlangkjoiaaGreat
open Go.RowKit

section
variable {β : Type}
def runC (f : Int → β → Int × β) : Nat → Int → β → Option (Int × Int)
  | 0, _, _ => none
  | n + 1, t, b => if (f t b).1 ≠ 0 then some ((f t b).1, t) else runC f n (t + 1) (f t b).2
def runS (f : Int → β → Int × β) (n : Nat) (t : Int) : List β → Nat → Option (Int × Nat × Int)
  | [], _ => none
  | b :: L, i => match runC f n t b with | some w => some (w.1, i, w.2) | none => runS f n t L (i + 1)
end
end Go.Proofs.YtiladlangkjoiaaGreat

namespace Go.Proofs.YtiladlangkjoiaaGreat
open Go.RowKit

theorem wide_less (n m : Nat) : (decide (n / 18446744073709551616 < m / 18446744073709551616) || (decide (n / 18446744073709551616 = m / 18446744073709551616) && decide (n % 18446744073709551616 < m % 18446744073709551616))) = decide (n < m) := by
  rw [Bool.eq_iff_iff]
  simp only [Bool.or_eq_true, Bool.and_eq_true, decide_eq_true_eq]
  omega
theorem wide_zero (n : Nat) : (n / 18446744073709551616 = 0 ∧ n % 18446744073709551616 = 0) ↔ n = 0 := by omega
theorem wide_eq (n m : Nat) : (n / 18446744073709551616 = m / 18446744073709551616 ∧ n % 18446744073709551616 = m % 18446744073709551616) ↔ n = m := by omega
def sgn (n : Int) : Int := if n < 0 then -1 else if n = 0 then 0 else 1
def signM (n : Nat) (neg : Bool) : Int := if n = 0 then 0 else if neg then -1 else 1
def cmpM (n m : Nat) (a b : Int) : Int := if a ≠ b then min (max (a - b) (-1)) 1 else if n = m then 0 else if n < m then -a else a
theorem sign_mul (a b : Int) : signM (a.natAbs * b.natAbs) (decide (a < 0) != decide (b < 0)) = sgn (a * b) := by
  rw [← Int.natAbs_mul]
  unfold signM sgn
  have hz : (a * b).natAbs = 0 ↔ a * b = 0 := Int.natAbs_eq_zero
  by_cases h0 : a * b = 0
  · rw [if_pos (hz.2 h0), if_neg (by omega), if_pos h0]
  · rw [if_neg (fun h => h0 (hz.1 h)), if_neg h0]
    have ha : a ≠ 0 := fun h => h0 (by rw [h]; simp)
    have hb : b ≠ 0 := fun h => h0 (by rw [h]; simp)
    rcases Int.lt_or_gt_of_ne ha with h1 | h1 <;> rcases Int.lt_or_gt_of_ne hb with h2 | h2
    · have := Int.mul_pos_of_neg_of_neg h1 h2
      rw [decide_eq_true h1, decide_eq_true h2, if_neg (by decide), if_neg (by omega)]
    · have := Int.mul_neg_of_neg_of_pos h1 h2
      rw [decide_eq_true h1, decide_eq_false (by omega : ¬ b < 0), if_pos (by decide), if_pos this]
    · have := Int.mul_neg_of_pos_of_neg h1 h2
      rw [decide_eq_false (by omega : ¬ a < 0), decide_eq_true h2, if_pos (by decide), if_pos this]
    · have := Int.mul_pos h1 h2
      rw [decide_eq_false (by omega : ¬ a < 0), decide_eq_false (by omega : ¬ b < 0), if_neg (by decide), if_neg (by omega)]
theorem cmp_mul (a b c d : Int) : cmpM (a.natAbs * b.natAbs) (c.natAbs * d.natAbs) (sgn (a * b)) (sgn (c * d)) = sgn (a * b - c * d) := by
  rw [← Int.natAbs_mul, ← Int.natAbs_mul]
  generalize a * b = x
  generalize c * d = y
  unfold cmpM sgn
  repeat' split
  all_goals omega
end Go.Proofs.YtiladlangkjoiaaGreat
