/- Slices among the arguments of the sky's laws: what they read as. No condition. -/
import Derived.Test.YtfniicgoeljmdaaGreatLaw
import Derived.Test.YtfniicgoeljmdaaGreatBig
namespace Go.Proofs.YtfniicgoeljmdaaGreat
open Go.RowKit Go.ChangeShapes Go.WideShapes Go.ChangeAt

section
variable {H : Type} {enc : TypeId × Value → H} {w : World} {base : Nat}
theorem open_sights {fuel : Nat} {cs : List Value} {x : DataW H × List MemPlace} (h : DataW.trod enc Tryz.prog w base (fun _ => true) true fuel 70 cs = some x) : ∃ A n c l, cs = [.slice A n c] ∧ Sights w A n l :=
  open_sl (by omega) Tryz.underlying70 cells_sight elt_sight h
theorem open_states {fuel : Nat} {cs : List Value} {x : DataW H × List MemPlace} (h : DataW.trod enc Tryz.prog w base (fun _ => true) true fuel 31 cs = some x) : ∃ A n c l, cs = [.slice A n c] ∧ Sts w A n l :=
  open_sl (by omega) Tryz.underlying31 cells_state elt_state h
instance : Inhabited (List Sight) := ⟨[]⟩
def intAt (w : World) (p : Int) (b o : Nat) : Prop := w.cell? ⟨b, o, none⟩ = some (.int .i64 p)
abbrev Ints (w : World) (A : Option Addr) (n : Nat) (l : List Int) : Prop := SlR 1 (intAt w) A n l
theorem Ints.ext {w w' : World} (e : Ext w w') {A n l} (h : Ints w A n l) : Ints w' A n l := SlR.mono h fun _ _ _ _ hx => e.cell hx
end
end Go.Proofs.YtfniicgoeljmdaaGreat
