/- Missions, keyholes and campaigns in memory. No condition. -/
import Derived.Test.YtiladlangkjoiaaGreatPushLaw
import Derived.Test.YtiladlangkjoiaaGreatSlices
namespace Go.Proofs.YtiladlangkjoiaaGreat
open Go.RowKit

def misC (m : Mis) : List Value := [.int .i64 m.kind, .int .i64 m.launch, .int .i64 m.arrive, .int .i64 m.dur, .int .i64 m.mass.lo, .int .i64 m.mass.hi, .int .i64 m.power.lo, .int .i64 m.power.hi, .int .i64 m.mult.lo, .int .i64 m.mult.hi, .int .i64 m.dir.x, .int .i64 m.dir.y, .bool m.reserve, .int .i64 m.cost]
abbrev misV (m : Mis) : Value := .agg #[.int .i64 m.kind, .int .i64 m.launch, .int .i64 m.arrive, .int .i64 m.dur, .int .i64 m.mass.lo, .int .i64 m.mass.hi, .int .i64 m.power.lo, .int .i64 m.power.hi, .int .i64 m.mult.lo, .int .i64 m.mult.hi, .int .i64 m.dir.x, .int .i64 m.dir.y, .bool m.reserve, .int .i64 m.cost]
def misAt (w : World) (m : Mis) (b o : Nat) : Prop := w.cell? ⟨b, o, none⟩ = some (.int .i64 m.kind) ∧ w.cell? ⟨b, o + 1, none⟩ = some (.int .i64 m.launch) ∧ w.cell? ⟨b, o + 2, none⟩ = some (.int .i64 m.arrive) ∧ w.cell? ⟨b, o + 3, none⟩ = some (.int .i64 m.dur) ∧ w.cell? ⟨b, o + 4, none⟩ = some (.int .i64 m.mass.lo) ∧ w.cell? ⟨b, o + 5, none⟩ = some (.int .i64 m.mass.hi) ∧ w.cell? ⟨b, o + 6, none⟩ = some (.int .i64 m.power.lo) ∧ w.cell? ⟨b, o + 7, none⟩ = some (.int .i64 m.power.hi) ∧ w.cell? ⟨b, o + 8, none⟩ = some (.int .i64 m.mult.lo) ∧ w.cell? ⟨b, o + 9, none⟩ = some (.int .i64 m.mult.hi) ∧ w.cell? ⟨b, o + 10, none⟩ = some (.int .i64 m.dir.x) ∧ w.cell? ⟨b, o + 11, none⟩ = some (.int .i64 m.dir.y) ∧ w.cell? ⟨b, o + 12, none⟩ = some (.bool m.reserve) ∧ w.cell? ⟨b, o + 13, none⟩ = some (.int .i64 m.cost)
abbrev Miss (w : World) (A : Option Addr) (n : Nat) (l : List Mis) : Prop := SlR 14 (misAt w) A n l
def keyAt (w : World) (k : Key) (b o : Nat) : Prop := w.cell? ⟨b, o, none⟩ = some (.int .i64 k.tick) ∧ w.cell? ⟨b, o + 1, none⟩ = some (.int .i64 k.line.lo) ∧ w.cell? ⟨b, o + 2, none⟩ = some (.int .i64 k.line.hi)
abbrev Keys (w : World) (A : Option Addr) (n : Nat) (l : List Key) : Prop := SlR 3 (keyAt w) A n l
def campAt (w : World) (c : Camp) (b o : Nat) : Prop := ∃ A1 n1 c1 A2 n2 c2, w.cell? ⟨b, o, none⟩ = some (.slice A1 n1 c1) ∧ w.cell? ⟨b, o + 1, none⟩ = some (.int .i64 c.body.lo) ∧ w.cell? ⟨b, o + 2, none⟩ = some (.int .i64 c.body.hi) ∧ w.cell? ⟨b, o + 3, none⟩ = some (.int .i64 c.fast) ∧
  w.cell? ⟨b, o + 4, none⟩ = some (.int .i64 c.fails) ∧ w.cell? ⟨b, o + 5, none⟩ = some (.int .i64 c.miss) ∧ w.cell? ⟨b, o + 6, none⟩ = some (.int .i64 c.ticks) ∧ w.cell? ⟨b, o + 7, none⟩ = some (.slice A2 n2 c2) ∧ Miss w A1 n1 c.missions ∧ Keys w A2 n2 c.keys
abbrev Camps (w : World) (A : Option Addr) (n : Nat) (l : List Camp) : Prop := SlR 8 (campAt w) A n l
section
variable {w w' : World} (e : Ext w w')
include e
theorem misAt.ext {m : Mis} {b o : Nat} (h : misAt w m b o) : misAt w' m b o := by
  obtain ⟨h0, h1, h2, h3, h4, h5, h6, h7, h8, h9, h10, h11, h12, h13⟩ := h
  exact ⟨e.cell h0, e.cell h1, e.cell h2, e.cell h3, e.cell h4, e.cell h5, e.cell h6, e.cell h7, e.cell h8, e.cell h9, e.cell h10, e.cell h11, e.cell h12, e.cell h13⟩
theorem keyAt.ext {k : Key} {b o : Nat} (h : keyAt w k b o) : keyAt w' k b o := ⟨e.cell h.1, e.cell h.2.1, e.cell h.2.2⟩
theorem Miss.ext {A n l} (h : Miss w A n l) : Miss w' A n l := SlR.mono h fun _ _ _ _ => misAt.ext e
theorem Keys.ext {A n l} (h : Keys w A n l) : Keys w' A n l := SlR.mono h fun _ _ _ _ => keyAt.ext e
theorem campAt.ext {c : Camp} {b o : Nat} (h : campAt w c b o) : campAt w' c b o := by
  obtain ⟨A1, n1, c1, A2, n2, c2, h0, h1, h2, h3, h4, h5, h6, h7, h8, h9⟩ := h
  exact ⟨A1, n1, c1, A2, n2, c2, e.cell h0, e.cell h1, e.cell h2, e.cell h3, e.cell h4, e.cell h5, e.cell h6, e.cell h7, Miss.ext e h8, Keys.ext e h9⟩
theorem Camps.ext {A n l} (h : Camps w A n l) : Camps w' A n l := SlR.mono h fun _ _ _ _ => campAt.ext e
end
theorem mis_read (w : World) (x : Mis) (b o : Nat) (h : ∀ i u, (misC x)[i]? = some u → w.cell? ⟨b, o + i, none⟩ = some u) : misAt w x b o := ⟨h 0 _ rfl, h 1 _ rfl, h 2 _ rfl, h 3 _ rfl, h 4 _ rfl, h 5 _ rfl, h 6 _ rfl, h 7 _ rfl, h 8 _ rfl, h 9 _ rfl, h 10 _ rfl, h 11 _ rfl, h 12 _ rfl, h 13 _ rfl⟩
end Go.Proofs.YtiladlangkjoiaaGreat
