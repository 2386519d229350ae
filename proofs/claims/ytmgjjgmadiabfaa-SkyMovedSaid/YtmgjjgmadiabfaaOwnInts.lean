/- Lists of numbers that the call itself makes. No condition. -/
import Derived.Test.YtmgjjgmadiabfaaAsk
namespace Go.Proofs.Ytmgjjgmadiabfaa
open Go.RowKit

theorem info_int : (Try.prog.info? 3).map (fun i => (i.zero, i.size, i.bytes)) = some (some (.int .i64 0), 1, 8) := by kernel_rfl
theorem int_len (x : Int) : (intC x).length = 1 := rfl
theorem int_news (w : World) (x : Int) (b o : Nat) (h : intAt w x b o) : ∀ i u, (intC x)[i]? = some u → w.cell? ⟨b, o + i, none⟩ = some u
  | 0, _, hu => by rw [← hu]; exact h
theorem int_read (w : World) (x : Int) (b o : Nat) (h : ∀ i u, (intC x)[i]? = some u → w.cell? ⟨b, o + i, none⟩ = some u) : intAt w x b o := h 0 _ rfl
theorem int_one : ∀ x : Int, ∀ u ∈ intC x, u.oneCell' = true := by intro x u hu; simp [intC] at hu; rcases hu with rfl; rfl

def OwnInts (base : Nat) (w : World) (v : Value) (l : List Int) : Prop := w.ownsRow base 3 1 v l.length (l.flatMap intC)
theorem OwnInts.nil (base : Nat) (w : World) : OwnInts base w (.slice none 0 0) [] := World.ownsRow_nil _ _ _ _
theorem OwnInts.ext {base : Nat} {w w' : World} {v : Value} {l : List Int} (h : OwnInts base w v l) (e : Ext w w') : OwnInts base w' v l := own_ext_keep h e
theorem OwnInts.sl {base : Nat} {w : World} {v : Value} {l : List Int} (h : OwnInts base w v l) : ∃ A c, v = .slice A l.length c ∧ Ints w A l.length l := own_sl int_len (int_read w) h
theorem OwnInts.ofSnoc {base : Nat} {w : World} {v : Value} {l : List Int} {x : Int} {n : Nat} (hn : n = 1) (h : w.ownsRow base 3 1 v (l.length + n) (l.flatMap intC ++ [.int .i64 x])) : OwnInts base w v (l ++ [x]) := by
  subst hn
  unfold OwnInts
  rw [List.length_append, List.flatMap_append]
  exact h
end Go.Proofs.Ytmgjjgmadiabfaa
