/- Lists of numbers that the call itself makes. No condition. -/
import Derived.Test.YtfniicgoeljmdaaGreatRelTail
namespace Go.Proofs.YtfniicgoeljmdaaGreat
open Go.RowKit

theorem int_len (x : Int) : (intC x).length = 1 := rfl
theorem int_readO (w : World) (x : Int) (b o : Nat) (h : ∀ i u, (intC x)[i]? = some u → w.cell? ⟨b, o + i, none⟩ = some u) : intAt w x b o := h 0 _ rfl
def OwnInts (base : Nat) (w : World) (v : Value) (l : List Int) : Prop := w.ownsRow base 3 1 v l.length (l.flatMap intC)
theorem OwnInts.nil (base : Nat) (w : World) : OwnInts base w (.slice none 0 0) [] := World.ownsRow_nil _ _ _ _
theorem OwnInts.ext {base : Nat} {w w' : World} {v : Value} {l : List Int} (h : OwnInts base w v l) (e : Ext w w') : OwnInts base w' v l := own_ext_keep h e
theorem OwnInts.sl {base : Nat} {w : World} {v : Value} {l : List Int} (h : OwnInts base w v l) : ∃ A c, v = .slice A l.length c ∧ Ints w A l.length l := own_sl int_len (int_readO w) h
end Go.Proofs.YtfniicgoeljmdaaGreat
