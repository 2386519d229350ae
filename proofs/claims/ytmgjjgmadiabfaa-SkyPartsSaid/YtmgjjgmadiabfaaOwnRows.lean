/- Lists of lists of numbers, and lists of flags, that the call itself makes. No condition. -/
import Derived.Test.YtmgjjgmadiabfaaConcat
namespace Go.Proofs.Ytmgjjgmadiabfaa
open Go.RowKit

def rowAt (w : World) (p : List Int) (b o : Nat) : Prop := ∃ A n c, w.cell? ⟨b, o, none⟩ = some (.slice A n c) ∧ Ints w A n p
abbrev IRows (w : World) (A : Option Addr) (n : Nat) (l : List (List Int)) : Prop := SlR 1 (rowAt w) A n l
theorem rowAt.ext {w w' : World} (e : Ext w w') {p : List Int} {b o : Nat} (h : rowAt w p b o) : rowAt w' p b o := by
  obtain ⟨A, n, c, h1, h2⟩ := h
  exact ⟨A, n, c, e.cell h1, Ints.ext e h2⟩
theorem IRows.ext {w w' : World} (e : Ext w w') {A n l} (h : IRows w A n l) : IRows w' A n l := SlR.mono h fun _ _ _ _ => rowAt.ext e

def OwnRows (base : Nat) (w : World) (v : Value) (rows : List (List Int)) : Prop :=
  ∃ raw : List Value, raw.length = rows.length ∧ w.ownsRow base 38 1 v rows.length raw ∧ ∀ k (h : k < rows.length), ∃ u, raw[k]? = some u ∧ OwnInts base w u rows[k]
theorem OwnRows.nil (base : Nat) (w : World) : OwnRows base w (.slice none 0 0) [] := ⟨[], rfl, World.ownsRow_nil _ _ _ _, fun k h => by cases h⟩
theorem OwnRows.ext {base : Nat} {w w' : World} {v : Value} {rows : List (List Int)} (h : OwnRows base w v rows) (e : Ext w w') : OwnRows base w' v rows := by
  obtain ⟨raw, h1, h2, h3⟩ := h
  refine ⟨raw, h1, own_ext_keep h2 e, fun k hk => ?_⟩
  obtain ⟨u, g1, g2⟩ := h3 k hk
  exact ⟨u, g1, g2.ext e⟩
theorem OwnInts.grow {base : Nat} {w w' : World} {v : Value} {l : List Int} (h : OwnInts base w v l) {T : Nat} {t : TypeId} {cs : Array Value} (hB : Blk w T t cs) (hne : 3 ≠ t) (hg : w.grownBy w' (some T)) : OwnInts base w' v l :=
  World.ownsRow.kept h hg (.inr (own_blk h hB hne))
theorem OwnRows.grow {base : Nat} {w w' : World} {v : Value} {rows : List (List Int)} (h : OwnRows base w v rows) {T : Nat} {t : TypeId} {cs : Array Value} (hB : Blk w T t cs) (hne : 3 ≠ t) (hne' : 38 ≠ t) (hg : w.grownBy w' (some T)) : OwnRows base w' v rows := by
  obtain ⟨raw, h1, h2, h3⟩ := h
  refine ⟨raw, h1, World.ownsRow.kept h2 hg (.inr (own_blk h2 hB hne')), fun k hk => ?_⟩
  obtain ⟨u, g1, g2⟩ := h3 k hk
  exact ⟨u, g1, g2.grow hB hne hg⟩
theorem OwnRows.snoc {base : Nat} {w w' : World} {v v' u : Value} {rows : List (List Int)} {raw : List Value} {x : List Int} {n : Nat} (hn : n = 1) (h1 : raw.length = rows.length) (h2 : w.ownsRow base 38 1 v rows.length raw) (h3 : ∀ k (h : k < rows.length), ∃ u, raw[k]? = some u ∧ OwnInts base w u rows[k])
    (hu : OwnInts base w u x) (hg : w.grownBy w' v.ownBlock) (hv : w'.ownsRow base 38 1 v' (rows.length + n) (raw ++ [u])) : OwnRows base w' v' (rows ++ [x]) := by
  subst hn
  have keep : ∀ {q : Value} {l : List Int}, OwnInts base w q l → OwnInts base w' q l := fun h => World.ownsRow.kept h hg (own_ne h h2 (by decide))
  refine ⟨raw ++ [u], by simp [h1], by rw [List.length_append]; exact hv, fun k hk => ?_⟩
  by_cases hk' : k < rows.length
  · obtain ⟨q, g1, g2⟩ := h3 k hk'
    refine ⟨q, by rw [List.getElem?_append_left (by omega)]; exact g1, ?_⟩
    rw [List.getElem_append_left hk']
    exact keep g2
  · have hk2 : k = rows.length := by rw [List.length_append] at hk; simp at hk; omega
    subst hk2
    refine ⟨u, by rw [List.getElem?_append_right (by omega), h1]; simp, ?_⟩
    have e1 : (rows ++ [x])[rows.length] = x := by simp
    rw [e1]
    exact keep hu
theorem OwnRows.sl {base : Nat} {w : World} {v : Value} {rows : List (List Int)} (h : OwnRows base w v rows) : ∃ A c, v = .slice A rows.length c ∧ IRows w A rows.length rows := by
  obtain ⟨raw, h1, h3, h5⟩ := h
  rcases h3.2 with ⟨rfl, h0⟩ | ⟨g, cap, cur, rfl, hbg, hg, hnc, hcm, hcs, htk⟩
  · rw [h0]
    have : rows = [] := List.eq_nil_of_length_eq_zero h0
    subst this
    exact ⟨none, 0, rfl, SlR.nil _ _ _⟩
  · refine ⟨_, cap, rfl, rfl, by unfold maxLen at hcm; omega, .inr ⟨g, 0, rfl, fun k hk => ?_⟩⟩
    obtain ⟨u, q1, q2⟩ := h5 k hk
    obtain ⟨A, c, rfl, q3⟩ := q2.sl
    have h8 := h3.cells (g := g) rfl _ _ q1
    rw [add_none] at h8
    exact ⟨A, _, c, by rw [Nat.mul_one]; exact h8, q3⟩
theorem own_one {w : World} {base : Nat} {e : TypeId} {g : Nat} {v : Value} (hg : g = w.heap.size) (hb : base ≤ g) : (w.alloc (.cells #[v] e)).ownsRow base e 1 (.slice (some ⟨g, 0, none⟩) 1 1) 1 [v] := by
  subst hg
  exact ⟨rfl, .inr ⟨w.heap.size, 1, #[v], rfl, hb, heap_alloc_new w _, Nat.le_refl _, by decide, rfl, rfl⟩⟩
theorem info_bool : (Try.prog.info? 4).map (fun i => (i.zero, i.size, i.bytes)) = some (some (.bool false), 1, 1) := by kernel_rfl
theorem info_ints : (Try.prog.info? 38).map (fun i => (i.zero, i.size, i.bytes)) = some (some (.slice none 0 0), 1, 24) := by kernel_rfl

/-- The cells of flags. -/
def boolC (l : List Bool) : Array Value := (l.map Value.bool).toArray
theorem boolC_get (l : List Bool) (k : Nat) (h : k < l.length) : (boolC l)[k]? = some (.bool (l.getD k false)) := by
  unfold boolC
  simp [List.getD_eq_getElem?_getD, h]
theorem boolC_set (l : List Bool) (k : Nat) : (boolC l).setIfInBounds k (.bool true) = boolC (l.set k true) := by
  unfold boolC
  simp [List.map_set]
/-- A row whose cells are all there is of its block. -/
theorem own_full {w : World} {base : Nat} {e : TypeId} {g n : Nat} {l : List Bool} (hl : l.length = n) (h : w.ownsRow base e 1 (.slice (some ⟨g, 0, none⟩) n n) n (l.map Value.bool)) : Blk w g e (boolC l) := by
  rcases h.2 with ⟨hx, _⟩ | ⟨g', cap, cur, hx, _, hg, _, _, hcs, htk⟩
  · cases hx
  · injection hx with h1 h2 h3
    injection h1 with h1; injection h1 with h1
    subst h1
    subst h3
    have : cur = boolC l := by
      unfold boolC
      apply Array.ext'
      rw [← htk, List.take_of_length_le (by simp; omega)]
    rw [← this]
    exact hg
theorem made_bools (n : Nat) : (madeCells (Value.bool false).cells (n * 1)).toList = (List.replicate n false).map Value.bool := by
  unfold madeCells
  apply List.ext_getElem
  · simp
  · intro i h1 h2
    simp [Value.cells]
    have : i % 1 = 0 := Nat.mod_one i
    simp [Nat.mod_one]
theorem made_bools2 (n : Nat) : (madeCells #[Value.bool false] n).toList = (List.replicate n false).map Value.bool := by
  have h := made_bools n
  rw [Nat.mul_one] at h
  exact h
end Go.Proofs.Ytmgjjgmadiabfaa
