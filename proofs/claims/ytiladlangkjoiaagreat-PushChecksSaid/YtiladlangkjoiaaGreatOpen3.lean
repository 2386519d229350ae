/- Boxes, drifts, slices of boxes among the arguments: what they read as. No condition. -/
import Derived.Test.YtiladlangkjoiaaGreatOpen2
import Derived.Test.YtiladlangkjoiaaGreatPushLaw
import Derived.Scope
import Derived.LoopN
namespace Go.Proofs.YtiladlangkjoiaaGreat
open Go.RowKit Go.ChangeShapes Go.WideShapes Go.ChangeAt

section
variable {H : Type} {enc : TypeId × Value → H} {w : World} {base : Nat} {spare : Nat → Bool} {held : Bool}
theorem len8 {α : Type} {cs : List α} (h : cs.length = 8) : ∃ a0 a1 a2 a3 a4 a5 a6 a7, cs = [a0, a1, a2, a3, a4, a5, a6, a7] := by
  match cs, h with
  | [a0, a1, a2, a3, a4, a5, a6, a7], _ => exact ⟨a0, a1, a2, a3, a4, a5, a6, a7, rfl⟩
end
section
variable {H : Type} {enc : TypeId × Value → H} {w : World} {base : Nat}
instance : Inhabited Bx := ⟨zeroB⟩
end
end Go.Proofs.YtiladlangkjoiaaGreat
