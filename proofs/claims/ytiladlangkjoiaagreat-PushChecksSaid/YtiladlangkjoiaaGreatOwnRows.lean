/- Lists of lists of numbers, and lists of flags, that the call itself makes. No condition. -/
import Derived.Test.YtiladlangkjoiaaGreatBelieve
import Derived.Test.YtiladlangkjoiaaGreatOwnInts
import Derived.Lib.AppendZeros
namespace Go.Proofs.YtiladlangkjoiaaGreat
open Go.RowKit

def rowAt (w : World) (p : List Int) (b o : Nat) : Prop := ∃ A n c, w.cell? ⟨b, o, none⟩ = some (.slice A n c) ∧ Ints w A n p
abbrev IRows (w : World) (A : Option Addr) (n : Nat) (l : List (List Int)) : Prop := SlR 1 (rowAt w) A n l
theorem rowAt.ext {w w' : World} (e : Ext w w') {p : List Int} {b o : Nat} (h : rowAt w p b o) : rowAt w' p b o := by
  obtain ⟨A, n, c, h1, h2⟩ := h
  exact ⟨A, n, c, e.cell h1, Ints.ext e h2⟩
theorem IRows.ext {w w' : World} (e : Ext w w') {A n l} (h : IRows w A n l) : IRows w' A n l := SlR.mono h fun _ _ _ _ => rowAt.ext e

def OwnRows (base : Nat) (w : World) (v : Value) (rows : List (List Int)) : Prop :=
  ∃ raw : List Value, raw.length = rows.length ∧ w.ownsRow base 56 1 v rows.length raw ∧ ∀ k (h : k < rows.length), ∃ u, raw[k]? = some u ∧ OwnInts base w u rows[k]
theorem OwnRows.nil (base : Nat) (w : World) : OwnRows base w (.slice none 0 0) [] := ⟨[], rfl, World.ownsRow_nil _ _ _ _, fun k h => by cases h⟩
theorem OwnRows.ext {base : Nat} {w w' : World} {v : Value} {rows : List (List Int)} (h : OwnRows base w v rows) (e : Ext w w') : OwnRows base w' v rows := by
  obtain ⟨raw, h1, h2, h3⟩ := h
  refine ⟨raw, h1, own_ext_keep h2 e, fun k hk => ?_⟩
  obtain ⟨u, g1, g2⟩ := h3 k hk
  exact ⟨u, g1, g2.ext e⟩
theorem OwnInts.grow {base : Nat} {w w' : World} {v : Value} {l : List Int} (h : OwnInts base w v l) {T : Nat} {t : TypeId} {cs : Array Value} (hB : Blk w T t cs) (hne : 3 ≠ t) (hg : w.grownBy w' (some T)) : OwnInts base w' v l :=
  World.ownsRow.kept h hg (.inr (own_blk h hB hne))
theorem OwnRows.grow {base : Nat} {w w' : World} {v : Value} {rows : List (List Int)} (h : OwnRows base w v rows) {T : Nat} {t : TypeId} {cs : Array Value} (hB : Blk w T t cs) (hne : 3 ≠ t) (hne' : 56 ≠ t) (hg : w.grownBy w' (some T)) : OwnRows base w' v rows := by
  obtain ⟨raw, h1, h2, h3⟩ := h
  refine ⟨raw, h1, World.ownsRow.kept h2 hg (.inr (own_blk h2 hB hne')), fun k hk => ?_⟩
  obtain ⟨u, g1, g2⟩ := h3 k hk
  exact ⟨u, g1, g2.grow hB hne hg⟩
theorem OwnRows.sl {base : Nat} {w : World} {v : Value} {rows : List (List Int)} (h : OwnRows base w v rows) : ∃ A c, v = .slice A rows.length c ∧ IRows w A rows.length rows := by
  obtain ⟨raw, h1, h3, h5⟩ := h
  rcases h3.2 with ⟨rfl, h0⟩ | ⟨g, cap, cur, rfl, hbg, hg, hnc, hcm, hcs, htk⟩
  · rw [h0]
    have : rows = [] := List.eq_nil_of_length_eq_zero h0
    subst this
    exact ⟨none, 0, rfl, SlR.nil _ _ _⟩
  · refine ⟨_, cap, rfl, rfl, by unfold maxLen at hcm; omega, .inr ⟨g, 0, rfl, fun k hk => ?_⟩⟩
    obtain ⟨u, q1, q2⟩ := h5 k hk
    obtain ⟨A, c, rfl, q3⟩ := q2.sl
    have h8 := h3.cells (g := g) rfl _ _ q1
    rw [add_none] at h8
    exact ⟨A, _, c, by rw [Nat.mul_one]; exact h8, q3⟩
end Go.Proofs.YtiladlangkjoiaaGreat
