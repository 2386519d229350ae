/- Worlds and skies that read as the same data are found equal. No condition. -/
import Derived.Test.YtfniicgoeljmdaaGreatRefWhere
import Derived.RegionTactic
namespace Go.Proofs.YtfniicgoeljmdaaGreat
open Go.RowKit

theorem name_world {Q : World → Prop} (w : World) (h : ∀ W, W = w → Q W) : Q w := h w rfl

end Go.Proofs.YtfniicgoeljmdaaGreat
