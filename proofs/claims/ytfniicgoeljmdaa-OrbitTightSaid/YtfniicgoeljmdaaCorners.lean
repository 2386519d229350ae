/- The corners of an area, handed out: the program. No condition. -/
import Derived.Test.YtfniicgoeljmdaaIter
import Derived.Test.YtfniicgoeljmdaaAwake
namespace Go.Proofs.Ytfniicgoeljmdaa
open Go.RowKit Go.Shelf
attribute [local go_sem] Oper.semAt_some

end Go.Proofs.Ytfniicgoeljmdaa
