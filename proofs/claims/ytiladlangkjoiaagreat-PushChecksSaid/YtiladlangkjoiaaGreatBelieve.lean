/- Which guess is believed: the program. No condition. -/
import Derived.Test.YtiladlangkjoiaaGreatOwnInts
import Derived.Test.YtiladlangkjoiaaGreatGen
import Derived.Laws.EntriesVeiled
namespace Go.Proofs.YtiladlangkjoiaaGreat
open Go.RowKit

def Ret3 (w : World) (n : Int) (L : List Int) (er : Int) (e : Ending) (w' : World) : Prop :=
  ∃ A c, e = .returned (.tuple #[.int .i64 n, .slice A L.length c, .int .i64 er]) ∧ Ints w' A L.length L ∧ Ext w w'
theorem Ret3.mk {w w' : World} {n er : Int} {e : Ending} (he : e = .returned (.tuple #[.int .i64 n, .slice none 0 0, .int .i64 er])) (hw : Ext w w') : Ret3 w n [] er e w' := ⟨none, 0, he, SlR.nil _ _ _, hw⟩

end Go.Proofs.YtiladlangkjoiaaGreat
