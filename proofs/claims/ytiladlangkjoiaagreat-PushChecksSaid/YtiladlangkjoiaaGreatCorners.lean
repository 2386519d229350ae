/- The corners of an area, handed out: the program. No condition. -/
import Derived.Test.YtiladlangkjoiaaGreatScopeIn
import Derived.Test.YtiladlangkjoiaaGreatBig
namespace Go.Proofs.YtiladlangkjoiaaGreat
open Go.RowKit Go.Shelf
attribute [local go_sem] Oper.semAt_some

def vecE (p : Vec) : Array Value := #[.agg #[.int .i64 p.x, .int .i64 p.y]]
def cornersL (xl xh yl yh : Int) : List Vec := [⟨xl, yl⟩, ⟨xl, yh⟩, ⟨xh, yl⟩, ⟨xh, yh⟩]

end Go.Proofs.YtiladlangkjoiaaGreat
