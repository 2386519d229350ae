/- Slices among the arguments of the sky's laws: what they read as. No condition. -/
import Derived.Test.YtiladlangkjoiaaGreatLaw
import Derived.Test.YtiladlangkjoiaaGreatBig
namespace Go.Proofs.YtiladlangkjoiaaGreat
open Go.RowKit Go.ChangeShapes Go.WideShapes Go.ChangeAt

section
variable {H : Type} {enc : TypeId × Value → H} {w : World} {base : Nat}
instance : Inhabited (List Sight) := ⟨[]⟩
def intAt (w : World) (p : Int) (b o : Nat) : Prop := w.cell? ⟨b, o, none⟩ = some (.int .i64 p)
abbrev Ints (w : World) (A : Option Addr) (n : Nat) (l : List Int) : Prop := SlR 1 (intAt w) A n l
theorem Ints.ext {w w' : World} (e : Ext w w') {A n l} (h : Ints w A n l) : Ints w' A n l := SlR.mono h fun _ _ _ _ hx => e.cell hx
end
end Go.Proofs.YtiladlangkjoiaaGreat
