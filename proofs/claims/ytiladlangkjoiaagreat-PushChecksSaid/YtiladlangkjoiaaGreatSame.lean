/- Worlds and skies that read as the same data are found equal. No condition. -/
import Derived.Test.YtiladlangkjoiaaGreatOwnInts
import Derived.RegionTactic
namespace Go.Proofs.YtiladlangkjoiaaGreat
open Go.RowKit

theorem name_world {Q : World → Prop} (w : World) (h : ∀ W, W = w → Q W) : Q w := h w rfl

end Go.Proofs.YtiladlangkjoiaaGreat
