/- Slices among the arguments of the sky's laws: what they read as. No condition. -/
import Derived.Test.YtfniicgoeljmdaaGreatLaw
import Derived.Test.YtfniicgoeljmdaaGreatBig
namespace Go.Proofs.YtfniicgoeljmdaaGreat
open Go.RowKit Go.ChangeShapes Go.WideShapes Go.ChangeAt

section
variable {H : Type} {enc : TypeId × Value → H} {w : World} {base : Nat}
instance : Inhabited (List Sight) := ⟨[]⟩
def intAt (w : World) (p : Int) (b o : Nat) : Prop := w.cell? ⟨b, o, none⟩ = some (.int .i64 p)
abbrev Ints (w : World) (A : Option Addr) (n : Nat) (l : List Int) : Prop := SlR 1 (intAt w) A n l
theorem Ints.ext {w w' : World} (e : Ext w w') {A n l} (h : Ints w A n l) : Ints w' A n l := SlR.mono h fun _ _ _ _ hx => e.cell hx
theorem elt_int (n b o : Nat) (cs : List Value) (y : DataW H × List MemPlace) (hc : ∀ i, i < 1 → w.cell? ⟨b, o + i, none⟩ = cs[i]?) (_ : cs.length = 1) (h : DataW.trod enc Tryz.prog w base (fun _ => true) true n 3 cs = some y) : ∃ x, intAt w x b o := by
  obtain ⟨p, rfl⟩ := open_i64 Tryz.underlying3 h
  exact ⟨p, hc 0 (by omega)⟩
theorem open_ints {fuel : Nat} {cs : List Value} {x : DataW H × List MemPlace} (h : DataW.trod enc Tryz.prog w base (fun _ => true) true fuel 48 cs = some x) : ∃ A n c l, cs = [.slice A n c] ∧ Ints w A n l :=
  open_sl (by omega) Tryz.underlying48 cells_int elt_int h
end
end Go.Proofs.YtfniicgoeljmdaaGreat
