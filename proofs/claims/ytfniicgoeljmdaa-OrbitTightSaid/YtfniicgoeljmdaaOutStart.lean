/- Small tools for the walks of the laws that make their arguments by numbers. No condition. -/
import Derived.Test.YtfniicgoeljmdaaMadeFour
import Derived.Test.YtfniicgoeljmdaaSlices
import Derived.Test.YtfniicgoeljmdaaStep
namespace Go.Proofs.Ytfniicgoeljmdaa
open Go.RowKit

theorem smallB.ok {b : Bx} (h : smallB b) : bxErr b = 0 := by
  rw [bxErr_iff]
  unfold smallB at h
  unfold BxOk Sm
  omega
theorem inBx.holds {b : Bx} {s : St} (h : inBx b s) : holdsB b s = true := holdsB_iff.2 h
end Go.Proofs.Ytfniicgoeljmdaa
