/- The corners of an area, handed out: the program. No condition. -/
import Derived.Test.YtfniicgoeljmdaaGreatForcedIn
import Derived.Test.YtfniicgoeljmdaaGreatBig
namespace Go.Proofs.YtfniicgoeljmdaaGreat
open Go.RowKit Go.Shelf
attribute [local go_sem] Oper.semAt_some

end Go.Proofs.YtfniicgoeljmdaaGreat
