/- Plain words for memory that is only read: worlds that are extended, slices that read as lists. No condition. -/
import Derived.Test.YtfniicgoeljmdaaGreatRows
import Derived.WalkKit
import Derived.WalkSpells
import Derived.WalkLawsBesides
import Derived.Lib.Hide
namespace Go.Proofs.YtfniicgoeljmdaaGreat
open Go.RowKit

/-- w' is w with new blocks, all that was there is as it was. -/
abbrev Ext (w w' : World) : Prop := Below w.heap.size w w'
theorem Ext.refl (w : World) : Ext w w := Below.refl _ _
theorem Ext.trans {a b c : World} (h : Ext a b) (k : Ext b c) : Ext a c := Below.trans h (k.mono h.size)
theorem Ext.alloc {a w : World} (h : Ext a w) (o : Obj) : Ext a (w.alloc o) := Below.alloc h h.size o
theorem Ext.alloc0 (w : World) (o : Obj) : Ext w (w.alloc o) := (Ext.refl w).alloc o
theorem Ext.drew {a w : World} (h : Ext a w) : Ext a w.drew := Below.drew h
theorem Ext.set {a w : World} (h : Ext a w) {p : Addr} (hp : a.heap.size ≤ p.block) (u : Value) : Ext a (w.setCell p u) := Below.setCell h hp u

theorem bcell {W w1 : World} (hb : Ext W w1) : (∀ b o, b < W.heap.size → w1.cell? ⟨b, o, none⟩ = W.cell? ⟨b, o, none⟩) ∧ (∀ b o, b < W.heap.size → w1.frozen? ⟨b, o, none⟩ = W.frozen? ⟨b, o, none⟩) ∧ W.heap.size ≤ w1.heap.size :=
  ⟨fun b o h => hb.cell (p := ⟨b, o, none⟩) h, fun b o h => hb.frozen (p := ⟨b, o, none⟩) h, hb.size⟩

theorem Ext.cell {w w' : World} (h : Ext w w') {p : Addr} {v : Value} (hc : w.cell? p = some v) : w'.cell? p = some v :=
  (Below.cell h (World.block_lt_of_cell? w _ hc)).trans hc

/-- A slice (its address A, its length n) reads as the list l; R x b o: at ⟨b, o⟩ lies x (sz cells). -/
def SlR {α : Type} (sz : Nat) (R : α → Nat → Nat → Prop) (A : Option Addr) (n : Nat) (l : List α) : Prop :=
  n = l.length ∧ n ≤ 9223372036854775807 ∧ (n = 0 ∨ ∃ b off, A = some ⟨b, off, none⟩ ∧ ∀ k (h : k < l.length), R l[k] b (off + k * sz))

section
variable {α : Type} {sz : Nat} {R R' : α → Nat → Nat → Prop} {A : Option Addr} {n : Nat} {l : List α}
theorem SlR.len (h : SlR sz R A n l) : n = l.length := h.1
theorem SlR.le (h : SlR sz R A n l) : n ≤ 9223372036854775807 := h.2.1
theorem SlR.at_ (h : SlR sz R A n l) (hn : 0 < l.length) : ∃ b off, A = some ⟨b, off, none⟩ ∧ ∀ k (h : k < l.length), R l[k] b (off + k * sz) := by
  rcases h.2.2 with h0 | h0
  · have := h.1; omega
  · exact h0
/-- One element: the address is there, the list parts at it, it lies at its place. -/
theorem SlR.one (h : SlR sz R A n l) {k : Nat} (hk : k < n) : ∃ b off x, A = some ⟨b, off, none⟩ ∧ Hid (l.drop k = x :: l.drop (k + 1)) ∧ x ∈ l ∧ R x b (off + k * sz) := by
  have hl : k < l.length := h.1 ▸ hk
  obtain ⟨b, off, hA, hc⟩ := h.at_ (by omega)
  exact ⟨b, off, l[k], hA, List.drop_eq_getElem_cons hl, List.getElem_mem hl, hc k hl⟩
theorem SlR.mono (h : SlR sz R A n l) (hm : ∀ x, x ∈ l → ∀ b o, R x b o → R' x b o) : SlR sz R' A n l := by
  refine ⟨h.1, h.2.1, ?_⟩
  rcases h.2.2 with h0 | ⟨b, off, hA, hc⟩
  · exact .inl h0
  · exact .inr ⟨b, off, hA, fun k hk => hm _ (List.getElem_mem hk) _ _ (hc k hk)⟩
theorem SlR.nil (sz : Nat) (R : α → Nat → Nat → Prop) (A : Option Addr) : SlR sz R A 0 [] := ⟨rfl, by omega, .inl rfl⟩
end

/-! ### Data -/
structure Vec where
  x : Int
  y : Int
structure Body where
  mu : Int
  radius : Int
  track : List Vec
structure Wld where
  bodies : List Body
  home : Int
structure Stn where
  id : Int
  off : Vec
structure Cat where
  version : Int
  lo : Int
  hi : Int
structure Sky where
  world : Wld
  stations : List Stn
  catalogs : List Cat
structure Sight where
  kind : Int
  station : Int
  catalog : Int
  tick : Int
  dx : Int
  dy : Int
  err : Int
  lo : Int
  hi : Int
structure St where
  x : Int
  y : Int
  u : Int
  v : Int

abbrev I (n : Int) : Value := .int .i64 n

def vecAt (w : World) (p : Vec) (b o : Nat) : Prop := w.cell? ⟨b, o, none⟩ = some (.int .i64 p.x) ∧ w.cell? ⟨b, o + 1, none⟩ = some (.int .i64 p.y)
def stnAt (w : World) (p : Stn) (b o : Nat) : Prop := w.cell? ⟨b, o, none⟩ = some (.int .i64 p.id) ∧ w.cell? ⟨b, o + 1, none⟩ = some (.int .i64 p.off.x) ∧ w.cell? ⟨b, o + 2, none⟩ = some (.int .i64 p.off.y)
def catAt (w : World) (p : Cat) (b o : Nat) : Prop := w.cell? ⟨b, o, none⟩ = some (.int .i64 p.version) ∧ w.cell? ⟨b, o + 1, none⟩ = some (.int .i64 p.lo) ∧ w.cell? ⟨b, o + 2, none⟩ = some (.int .i64 p.hi)
def stAt (w : World) (p : St) (b o : Nat) : Prop :=
  w.cell? ⟨b, o, none⟩ = some (.int .i64 p.x) ∧ w.cell? ⟨b, o + 1, none⟩ = some (.int .i64 p.y) ∧ w.cell? ⟨b, o + 2, none⟩ = some (.int .i64 p.u) ∧ w.cell? ⟨b, o + 3, none⟩ = some (.int .i64 p.v)
def sightAt (w : World) (p : Sight) (b o : Nat) : Prop :=
  w.cell? ⟨b, o, none⟩ = some (.int .i64 p.kind) ∧ w.cell? ⟨b, o + 1, none⟩ = some (.int .i64 p.station) ∧ w.cell? ⟨b, o + 2, none⟩ = some (.int .i64 p.catalog) ∧ w.cell? ⟨b, o + 3, none⟩ = some (.int .i64 p.tick) ∧
  w.cell? ⟨b, o + 4, none⟩ = some (.int .i64 p.dx) ∧ w.cell? ⟨b, o + 5, none⟩ = some (.int .i64 p.dy) ∧ w.cell? ⟨b, o + 6, none⟩ = some (.int .i64 p.err) ∧ w.cell? ⟨b, o + 7, none⟩ = some (.int .i64 p.lo) ∧ w.cell? ⟨b, o + 8, none⟩ = some (.int .i64 p.hi)

abbrev Vecs (w : World) (A : Option Addr) (n : Nat) (l : List Vec) : Prop := SlR 2 (vecAt w) A n l
def bodyAt (w : World) (p : Body) (b o : Nat) : Prop :=
  w.cell? ⟨b, o, none⟩ = some (.int .i64 p.mu) ∧ w.cell? ⟨b, o + 1, none⟩ = some (.int .i64 p.radius) ∧ ∃ A n c, w.cell? ⟨b, o + 2, none⟩ = some (.slice A n c) ∧ Vecs w A n p.track
abbrev Bodies (w : World) (A : Option Addr) (n : Nat) (l : List Body) : Prop := SlR 3 (bodyAt w) A n l
abbrev Stns (w : World) (A : Option Addr) (n : Nat) (l : List Stn) : Prop := SlR 3 (stnAt w) A n l
abbrev Cats (w : World) (A : Option Addr) (n : Nat) (l : List Cat) : Prop := SlR 3 (catAt w) A n l
abbrev Sights (w : World) (A : Option Addr) (n : Nat) (l : List Sight) : Prop := SlR 9 (sightAt w) A n l
abbrev Sts (w : World) (A : Option Addr) (n : Nat) (l : List St) : Prop := SlR 4 (stAt w) A n l

structure IsSky (w : World) (A1 : Option Addr) (n1 : Nat) (home : Int) (A2 : Option Addr) (n2 : Nat) (A3 : Option Addr) (n3 : Nat) (s : Sky) : Prop where
  bodies : Bodies w A1 n1 s.world.bodies
  home : home = s.world.home
  stations : Stns w A2 n2 s.stations
  catalogs : Cats w A3 n3 s.catalogs

section
variable {w w' : World} (e : Ext w w')
include e
theorem vecAt.ext {p : Vec} {b o : Nat} (h : vecAt w p b o) : vecAt w' p b o := ⟨e.cell h.1, e.cell h.2⟩
theorem stnAt.ext {p : Stn} {b o : Nat} (h : stnAt w p b o) : stnAt w' p b o := ⟨e.cell h.1, e.cell h.2.1, e.cell h.2.2⟩
theorem catAt.ext {p : Cat} {b o : Nat} (h : catAt w p b o) : catAt w' p b o := ⟨e.cell h.1, e.cell h.2.1, e.cell h.2.2⟩
theorem stAt.ext {p : St} {b o : Nat} (h : stAt w p b o) : stAt w' p b o := ⟨e.cell h.1, e.cell h.2.1, e.cell h.2.2.1, e.cell h.2.2.2⟩
theorem sightAt.ext {p : Sight} {b o : Nat} (h : sightAt w p b o) : sightAt w' p b o := by
  obtain ⟨h0, h1, h2, h3, h4, h5, h6, h7, h8⟩ := h
  exact ⟨e.cell h0, e.cell h1, e.cell h2, e.cell h3, e.cell h4, e.cell h5, e.cell h6, e.cell h7, e.cell h8⟩
theorem Vecs.ext {A n l} (h : Vecs w A n l) : Vecs w' A n l := SlR.mono h fun _ _ _ _ => vecAt.ext e
theorem bodyAt.ext {p : Body} {b o : Nat} (h : bodyAt w p b o) : bodyAt w' p b o := by
  obtain ⟨h0, h1, A, n, c, h2, h3⟩ := h
  exact ⟨e.cell h0, e.cell h1, A, n, c, e.cell h2, Vecs.ext e h3⟩
theorem Bodies.ext {A n l} (h : Bodies w A n l) : Bodies w' A n l := SlR.mono h fun _ _ _ _ => bodyAt.ext e
theorem Stns.ext {A n l} (h : Stns w A n l) : Stns w' A n l := SlR.mono h fun _ _ _ _ => stnAt.ext e
theorem Cats.ext {A n l} (h : Cats w A n l) : Cats w' A n l := SlR.mono h fun _ _ _ _ => catAt.ext e
theorem Sights.ext {A n l} (h : Sights w A n l) : Sights w' A n l := SlR.mono h fun _ _ _ _ => sightAt.ext e
theorem Sts.ext {A n l} (h : Sts w A n l) : Sts w' A n l := SlR.mono h fun _ _ _ _ => stAt.ext e
theorem IsSky.ext {A1 n1 home A2 n2 A3 n3 s} (h : IsSky w A1 n1 home A2 n2 A3 n3 s) : IsSky w' A1 n1 home A2 n2 A3 n3 s :=
  ⟨Bodies.ext e h.bodies, h.home, Stns.ext e h.stations, Cats.ext e h.catalogs⟩
end
end Go.Proofs.YtfniicgoeljmdaaGreat
