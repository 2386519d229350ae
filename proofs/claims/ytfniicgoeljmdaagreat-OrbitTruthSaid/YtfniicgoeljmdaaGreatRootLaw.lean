/- Plain words for memory that is only read: worlds that are extended, slices that read as lists. No condition. Long division of two words by one, digit by digit: the plain law. No condition. The root, bit by bit: the plain law. No condition. -/
import Derived.Test.YtfniicgoeljmdaaGreatRows
import Derived.WalkKit
import Derived.WalkSpells
import Derived.WalkLawsBesides
import Derived.Lib.Hide
namespace Go.Proofs.YtfniicgoeljmdaaGreat
open Go.RowKit

/-- w' is w with new blocks, all that was there is as it was. -/
abbrev Ext (w w' : World) : Prop := Below w.heap.size w w'
theorem Ext.refl (w : World) : Ext w w := Below.refl _ _
theorem Ext.trans {a b c : World} (h : Ext a b) (k : Ext b c) : Ext a c := Below.trans h (k.mono h.size)
theorem Ext.alloc {a w : World} (h : Ext a w) (o : Obj) : Ext a (w.alloc o) := Below.alloc h h.size o
theorem Ext.alloc0 (w : World) (o : Obj) : Ext w (w.alloc o) := (Ext.refl w).alloc o
theorem Ext.drew {a w : World} (h : Ext a w) : Ext a w.drew := Below.drew h
theorem Ext.set {a w : World} (h : Ext a w) {p : Addr} (hp : a.heap.size ≤ p.block) (u : Value) : Ext a (w.setCell p u) := Below.setCell h hp u
/-- What a walk left: an extension. -/
theorem ext_by {w w' : World} (h : Ext w w' := by (repeat' (first | exact Ext.refl _ | assumption | apply Ext.alloc | apply Ext.drew | refine Ext.set ?_ (by dsimp only; omega) _ | refine Ext.trans ?_ (by assumption)))) : Ext w w' := h
theorem szA : (∀ (w : World) (o : Obj), (w.alloc o).heap.size = w.heap.size + 1) ∧ (∀ (w : World), w.drew.heap.size = w.heap.size) ∧ (∀ (w : World) (p : Addr) (u : Value), (w.setCell p u).heap.size = w.heap.size) :=
  ⟨World.size_alloc, World.size_drew, World.size_setCell⟩
theorem wz0 (w w1 : World) (h : w.heap.size < w1.heap.size := by omega) : w.heap.size < w1.heap.size := h
theorem wz1 (w w1 : World) (h : w.heap.size + 1 < w1.heap.size := by omega) : w.heap.size + 1 < w1.heap.size := h
theorem wz2 (w w1 : World) (h : w.heap.size + 1 + 1 < w1.heap.size := by omega) : w.heap.size + 1 + 1 < w1.heap.size := h
theorem wz3 (w w1 : World) (h : w.heap.size + 1 + 1 + 1 < w1.heap.size := by omega) : w.heap.size + 1 + 1 + 1 < w1.heap.size := h
theorem wz4 (w w1 : World) (h : w.heap.size + 1 + 1 + 1 + 1 < w1.heap.size := by omega) : w.heap.size + 1 + 1 + 1 + 1 < w1.heap.size := h
theorem putX : (∀ (a : Act) (d : Tmp) (v : Value), a.put (some d) v = { a with tmps := a.tmps.setIfInBounds d v }) ∧ (∀ (a : Act) (v : Value), a.put none v = a) ∧ (∀ (l : List Value) (i : Nat) (v : Value), l.toArray.setIfInBounds i v = (l.set i v).toArray) ∧
    (∀ (u v : Value) (l : List Value), (u :: l).set 0 v = v :: l) ∧ (∀ (u v : Value) (l : List Value) (n : Nat), (u :: l).set (n + 1) v = u :: l.set n v) :=
  ⟨fun _ _ _ => rfl, fun _ _ => rfl, fun _ _ _ => List.setIfInBounds_toArray .., fun _ _ _ => rfl, fun _ _ _ _ => rfl⟩

theorem bcell {W w1 : World} (hb : Ext W w1) : (∀ b o, b < W.heap.size → w1.cell? ⟨b, o, none⟩ = W.cell? ⟨b, o, none⟩) ∧ (∀ b o, b < W.heap.size → w1.frozen? ⟨b, o, none⟩ = W.frozen? ⟨b, o, none⟩) ∧ W.heap.size ≤ w1.heap.size :=
  ⟨fun b o h => hb.cell (p := ⟨b, o, none⟩) h, fun b o h => hb.frozen (p := ⟨b, o, none⟩) h, hb.size⟩

theorem Ext.cell {w w' : World} (h : Ext w w') {p : Addr} {v : Value} (hc : w.cell? p = some v) : w'.cell? p = some v :=
  (Below.cell h (World.block_lt_of_cell? w _ hc)).trans hc

/-- A slice (its address A, its length n) reads as the list l; R x b o: at ⟨b, o⟩ lies x (sz cells). -/
def SlR {α : Type} (sz : Nat) (R : α → Nat → Nat → Prop) (A : Option Addr) (n : Nat) (l : List α) : Prop :=
  n = l.length ∧ n ≤ 9223372036854775807 ∧ (n = 0 ∨ ∃ b off, A = some ⟨b, off, none⟩ ∧ ∀ k (h : k < l.length), R l[k] b (off + k * sz))

section
variable {α : Type} {sz : Nat} {R R' : α → Nat → Nat → Prop} {A : Option Addr} {n : Nat} {l : List α}
theorem SlR.len (h : SlR sz R A n l) : n = l.length := h.1
theorem SlR.le (h : SlR sz R A n l) : n ≤ 9223372036854775807 := h.2.1
theorem SlR.at_ (h : SlR sz R A n l) (hn : 0 < l.length) : ∃ b off, A = some ⟨b, off, none⟩ ∧ ∀ k (h : k < l.length), R l[k] b (off + k * sz) := by
  rcases h.2.2 with h0 | h0
  · have := h.1; omega
  · exact h0
/-- One element: the address is there, the list parts at it, it lies at its place. -/
theorem SlR.one (h : SlR sz R A n l) {k : Nat} (hk : k < n) : ∃ b off x, A = some ⟨b, off, none⟩ ∧ Hid (l.drop k = x :: l.drop (k + 1)) ∧ x ∈ l ∧ R x b (off + k * sz) := by
  have hl : k < l.length := h.1 ▸ hk
  obtain ⟨b, off, hA, hc⟩ := h.at_ (by omega)
  exact ⟨b, off, l[k], hA, List.drop_eq_getElem_cons hl, List.getElem_mem hl, hc k hl⟩
theorem SlR.mono (h : SlR sz R A n l) (hm : ∀ x, x ∈ l → ∀ b o, R x b o → R' x b o) : SlR sz R' A n l := by
  refine ⟨h.1, h.2.1, ?_⟩
  rcases h.2.2 with h0 | ⟨b, off, hA, hc⟩
  · exact .inl h0
  · exact .inr ⟨b, off, hA, fun k hk => hm _ (List.getElem_mem hk) _ _ (hc k hk)⟩
theorem SlR.nil (sz : Nat) (R : α → Nat → Nat → Prop) (A : Option Addr) : SlR sz R A 0 [] := ⟨rfl, by omega, .inl rfl⟩
end

/-! ### Data -/
structure Vec where
  x : Int
  y : Int
structure Body where
  mu : Int
  radius : Int
  track : List Vec
structure Wld where
  bodies : List Body
  home : Int
structure Stn where
  id : Int
  off : Vec
structure Cat where
  version : Int
  lo : Int
  hi : Int
structure Sky where
  world : Wld
  stations : List Stn
  catalogs : List Cat
structure Sight where
  kind : Int
  station : Int
  catalog : Int
  tick : Int
  dx : Int
  dy : Int
  err : Int
  lo : Int
  hi : Int
structure St where
  x : Int
  y : Int
  u : Int
  v : Int

abbrev I (n : Int) : Value := .int .i64 n

def vecAt (w : World) (p : Vec) (b o : Nat) : Prop := w.cell? ⟨b, o, none⟩ = some (.int .i64 p.x) ∧ w.cell? ⟨b, o + 1, none⟩ = some (.int .i64 p.y)
def stnAt (w : World) (p : Stn) (b o : Nat) : Prop := w.cell? ⟨b, o, none⟩ = some (.int .i64 p.id) ∧ w.cell? ⟨b, o + 1, none⟩ = some (.int .i64 p.off.x) ∧ w.cell? ⟨b, o + 2, none⟩ = some (.int .i64 p.off.y)
def catAt (w : World) (p : Cat) (b o : Nat) : Prop := w.cell? ⟨b, o, none⟩ = some (.int .i64 p.version) ∧ w.cell? ⟨b, o + 1, none⟩ = some (.int .i64 p.lo) ∧ w.cell? ⟨b, o + 2, none⟩ = some (.int .i64 p.hi)
def stAt (w : World) (p : St) (b o : Nat) : Prop :=
  w.cell? ⟨b, o, none⟩ = some (.int .i64 p.x) ∧ w.cell? ⟨b, o + 1, none⟩ = some (.int .i64 p.y) ∧ w.cell? ⟨b, o + 2, none⟩ = some (.int .i64 p.u) ∧ w.cell? ⟨b, o + 3, none⟩ = some (.int .i64 p.v)
def sightAt (w : World) (p : Sight) (b o : Nat) : Prop :=
  w.cell? ⟨b, o, none⟩ = some (.int .i64 p.kind) ∧ w.cell? ⟨b, o + 1, none⟩ = some (.int .i64 p.station) ∧ w.cell? ⟨b, o + 2, none⟩ = some (.int .i64 p.catalog) ∧ w.cell? ⟨b, o + 3, none⟩ = some (.int .i64 p.tick) ∧
  w.cell? ⟨b, o + 4, none⟩ = some (.int .i64 p.dx) ∧ w.cell? ⟨b, o + 5, none⟩ = some (.int .i64 p.dy) ∧ w.cell? ⟨b, o + 6, none⟩ = some (.int .i64 p.err) ∧ w.cell? ⟨b, o + 7, none⟩ = some (.int .i64 p.lo) ∧ w.cell? ⟨b, o + 8, none⟩ = some (.int .i64 p.hi)

abbrev Vecs (w : World) (A : Option Addr) (n : Nat) (l : List Vec) : Prop := SlR 2 (vecAt w) A n l
def bodyAt (w : World) (p : Body) (b o : Nat) : Prop :=
  w.cell? ⟨b, o, none⟩ = some (.int .i64 p.mu) ∧ w.cell? ⟨b, o + 1, none⟩ = some (.int .i64 p.radius) ∧ ∃ A n c, w.cell? ⟨b, o + 2, none⟩ = some (.slice A n c) ∧ Vecs w A n p.track
abbrev Bodies (w : World) (A : Option Addr) (n : Nat) (l : List Body) : Prop := SlR 3 (bodyAt w) A n l
abbrev Stns (w : World) (A : Option Addr) (n : Nat) (l : List Stn) : Prop := SlR 3 (stnAt w) A n l
abbrev Cats (w : World) (A : Option Addr) (n : Nat) (l : List Cat) : Prop := SlR 3 (catAt w) A n l
abbrev Sights (w : World) (A : Option Addr) (n : Nat) (l : List Sight) : Prop := SlR 9 (sightAt w) A n l
abbrev Sts (w : World) (A : Option Addr) (n : Nat) (l : List St) : Prop := SlR 4 (stAt w) A n l

structure IsSky (w : World) (A1 : Option Addr) (n1 : Nat) (home : Int) (A2 : Option Addr) (n2 : Nat) (A3 : Option Addr) (n3 : Nat) (s : Sky) : Prop where
  bodies : Bodies w A1 n1 s.world.bodies
  home : home = s.world.home
  stations : Stns w A2 n2 s.stations
  catalogs : Cats w A3 n3 s.catalogs

section
variable {w w' : World} (e : Ext w w')
include e
theorem vecAt.ext {p : Vec} {b o : Nat} (h : vecAt w p b o) : vecAt w' p b o := ⟨e.cell h.1, e.cell h.2⟩
theorem stnAt.ext {p : Stn} {b o : Nat} (h : stnAt w p b o) : stnAt w' p b o := ⟨e.cell h.1, e.cell h.2.1, e.cell h.2.2⟩
theorem catAt.ext {p : Cat} {b o : Nat} (h : catAt w p b o) : catAt w' p b o := ⟨e.cell h.1, e.cell h.2.1, e.cell h.2.2⟩
theorem stAt.ext {p : St} {b o : Nat} (h : stAt w p b o) : stAt w' p b o := ⟨e.cell h.1, e.cell h.2.1, e.cell h.2.2.1, e.cell h.2.2.2⟩
theorem sightAt.ext {p : Sight} {b o : Nat} (h : sightAt w p b o) : sightAt w' p b o := by
  obtain ⟨h0, h1, h2, h3, h4, h5, h6, h7, h8⟩ := h
  exact ⟨e.cell h0, e.cell h1, e.cell h2, e.cell h3, e.cell h4, e.cell h5, e.cell h6, e.cell h7, e.cell h8⟩
theorem Vecs.ext {A n l} (h : Vecs w A n l) : Vecs w' A n l := SlR.mono h fun _ _ _ _ => vecAt.ext e
theorem bodyAt.ext {p : Body} {b o : Nat} (h : bodyAt w p b o) : bodyAt w' p b o := by
  obtain ⟨h0, h1, A, n, c, h2, h3⟩ := h
  exact ⟨e.cell h0, e.cell h1, A, n, c, e.cell h2, Vecs.ext e h3⟩
theorem Bodies.ext {A n l} (h : Bodies w A n l) : Bodies w' A n l := SlR.mono h fun _ _ _ _ => bodyAt.ext e
theorem Stns.ext {A n l} (h : Stns w A n l) : Stns w' A n l := SlR.mono h fun _ _ _ _ => stnAt.ext e
theorem Cats.ext {A n l} (h : Cats w A n l) : Cats w' A n l := SlR.mono h fun _ _ _ _ => catAt.ext e
theorem Sights.ext {A n l} (h : Sights w A n l) : Sights w' A n l := SlR.mono h fun _ _ _ _ => sightAt.ext e
theorem Sts.ext {A n l} (h : Sts w A n l) : Sts w' A n l := SlR.mono h fun _ _ _ _ => stAt.ext e
theorem IsSky.ext {A1 n1 home A2 n2 A3 n3 s} (h : IsSky w A1 n1 home A2 n2 A3 n3 s) : IsSky w' A1 n1 home A2 n2 A3 n3 s :=
  ⟨Bodies.ext e h.bodies, h.home, Stns.ext e h.stations, Cats.ext e h.catalogs⟩
end
end Go.Proofs.YtfniicgoeljmdaaGreat

namespace Go.Proofs.YtfniicgoeljmdaaGreat.DivLaw
theorem digit_dec {yn1 yn0 u d q r : Nat} (hu : u < yn1 * 4294967296 + yn0) (hd : d < 4294967296) (hqr : q * yn1 + r = u) (hge : (u * 4294967296 + d) / (yn1 * 4294967296 + yn0) ≤ q)
    (ht : 4294967296 ≤ q ∨ 4294967296 * r + d < q * yn0) : (u * 4294967296 + d) / (yn1 * 4294967296 + yn0) + 1 ≤ q := by
  have hy0 : 0 < yn1 * 4294967296 + yn0 := by omega
  rcases ht with ht | ht
  · have : (u * 4294967296 + d) / (yn1 * 4294967296 + yn0) < 4294967296 := by
      rw [Nat.div_lt_iff_lt_mul hy0]
      have : (u + 1) * 4294967296 ≤ (yn1 * 4294967296 + yn0) * 4294967296 := Nat.mul_le_mul_right _ hu
      omega
    omega
  · have : (u * 4294967296 + d) / (yn1 * 4294967296 + yn0) < q := by
      rw [Nat.div_lt_iff_lt_mul hy0, Nat.mul_add, ← Nat.mul_assoc]
      generalize q * yn1 = a at *
      generalize q * yn0 = b at *
      omega
    omega
theorem digit_ok {yn1 yn0 u d q r : Nat} (hu : u < yn1 * 4294967296 + yn0) (hqr : q * yn1 + r = u) (hge : (u * 4294967296 + d) / (yn1 * 4294967296 + yn0) ≤ q)
    (ht : q * yn0 ≤ 4294967296 * r + d) : q = (u * 4294967296 + d) / (yn1 * 4294967296 + yn0) := by
  have hy0 : 0 < yn1 * 4294967296 + yn0 := by omega
  refine Nat.le_antisymm ?_ hge
  rw [Nat.le_div_iff_mul_le hy0, Nat.mul_add, ← Nat.mul_assoc]
  generalize q * yn1 = a at *
  generalize q * yn0 = b at *
  omega
theorem digit_start {yn1 yn0 u d : Nat} (h1 : 2147483648 ≤ yn1) : (u * 4294967296 + d) / (yn1 * 4294967296 + yn0) ≤ u / yn1 ∨ 4294967296 ≤ d := by
  rcases Nat.lt_or_ge d 4294967296 with hd | hd
  · left
    have : u < (u / yn1 + 1) * yn1 := by
      have := Nat.lt_mul_div_succ u (show 0 < yn1 by omega)
      rw [Nat.mul_comm]; exact this
    have h2 : (u * 4294967296 + d) / (yn1 * 4294967296 + yn0) < u / yn1 + 1 := by
      rw [Nat.div_lt_iff_lt_mul (by omega), Nat.mul_add, ← Nat.mul_assoc]
      generalize (u / yn1 + 1) * yn1 = a at *
      generalize (u / yn1 + 1) * yn0 = b at *
      omega
    omega
  · right; exact hd
theorem digit_bound {yn1 yn0 u : Nat} (h1 : 2147483648 ≤ yn1) (hy : yn0 < 4294967296) (hu : u < yn1 * 4294967296 + yn0) : u / yn1 ≤ 4294967297 := by
  have : u / yn1 < 4294967298 := by
    rw [Nat.div_lt_iff_lt_mul (by omega)]
    omega
  omega
theorem two_digits {u d1 d0 y q1 q0 r1 : Nat} (hy : 0 < y) (h1 : q1 = (u * 4294967296 + d1) / y) (hr : r1 = (u * 4294967296 + d1) % y) (h0 : q0 = (r1 * 4294967296 + d0) / y) :
    q1 * 4294967296 + q0 = (u * 18446744073709551616 + d1 * 4294967296 + d0) / y ∧ (r1 * 4294967296 + d0) % y = (u * 18446744073709551616 + d1 * 4294967296 + d0) % y := by
  have e1 := Nat.div_add_mod (u * 4294967296 + d1) y
  rw [← h1, ← hr] at e1
  have e2 : u * 18446744073709551616 + d1 * 4294967296 + d0 = y * (q1 * 4294967296) + (r1 * 4294967296 + d0) := by
    rw [← Nat.mul_assoc]
    generalize y * q1 = a at *
    omega
  rw [e2, Nat.mul_add_div hy, Nat.mul_add_mod, ← h0]
  exact ⟨rfl, rfl⟩
theorem shifted {n y k : Nat} (hk : 0 < k) : (n * k) / (y * k) = n / y ∧ (n * k) % (y * k) / k = n % y := by
  constructor
  · exact Nat.mul_div_mul_right _ _ hk
  · rw [Nat.mul_mod_mul_right, Nat.mul_div_cancel _ hk]
end Go.Proofs.YtfniicgoeljmdaaGreat.DivLaw

namespace Go.Proofs.YtfniicgoeljmdaaGreat
def rootF (n : Nat) : Nat → Nat → Nat
  | 0, out => out
  | k + 1, out => rootF n k (if (out + 2 ^ k) * (out + 2 ^ k) ≤ n then out + 2 ^ k else out)
def rootN (n : Nat) : Nat := rootF n 32 0
theorem rootF_step (n k out : Nat) : rootF n (k + 1) out = rootF n k (if (out + 2 ^ k) * (out + 2 ^ k) ≤ n then out + 2 ^ k else out) := rfl
theorem or_bit {out k : Nat} (h : out % 2 ^ (k + 1) = 0) : out ||| 2 ^ k = out + 2 ^ k := by
  obtain ⟨a, rfl⟩ : ∃ a, out = 2 ^ (k + 1) * a := ⟨out / 2 ^ (k + 1), by have := Nat.div_add_mod out (2 ^ (k + 1)); omega⟩
  exact (Nat.two_pow_add_eq_or_of_lt (Nat.pow_lt_pow_right (by omega) (by omega)) a).symm
theorem bit_mod {out k : Nat} (h : out % 2 ^ (k + 1) = 0) : out % 2 ^ k = 0 ∧ (out + 2 ^ k) % 2 ^ k = 0 := by
  obtain ⟨a, rfl⟩ : ∃ a, out = 2 ^ (k + 1) * a := ⟨out / 2 ^ (k + 1), by have := Nat.div_add_mod out (2 ^ (k + 1)); omega⟩
  have e : 2 ^ (k + 1) * a = 2 ^ k * (2 * a) := by rw [Nat.pow_succ, Nat.mul_assoc]
  rw [e]
  constructor
  · exact Nat.mul_mod_right _ _
  · rw [Nat.add_mod_right]; exact Nat.mul_mod_right _ _
theorem rootF_bound (n : Nat) : ∀ (k out : Nat), out * out ≤ n → n < (out + 2 ^ k) * (out + 2 ^ k) → rootF n k out * rootF n k out ≤ n ∧ n < (rootF n k out + 1) * (rootF n k out + 1)
  | 0, out, h1, h2 => ⟨h1, h2⟩
  | k + 1, out, h1, h2 => by
    rw [rootF_step]
    split
    · next h => exact rootF_bound n k _ h (by rw [Nat.add_assoc, ← Nat.two_mul, ← Nat.pow_succ']; exact h2)
    · next h => exact rootF_bound n k _ h1 (by omega)
theorem rootN_spec {n : Nat} (h : n < 18446744073709551616) : rootN n * rootN n ≤ n ∧ n < (rootN n + 1) * (rootN n + 1) := rootF_bound n 32 0 (by omega) (by simpa using h)
theorem rootN_le {n m : Nat} (h : n < 18446744073709551616) (hm : n < (m + 1) * (m + 1)) : rootN n ≤ m := by
  have h1 := (rootN_spec h).1
  rcases Nat.lt_or_ge m (rootN n) with h2 | h2
  · have := Nat.mul_le_mul (show m + 1 ≤ rootN n from h2) (show m + 1 ≤ rootN n from h2)
    omega
  · exact h2
end Go.Proofs.YtfniicgoeljmdaaGreat
