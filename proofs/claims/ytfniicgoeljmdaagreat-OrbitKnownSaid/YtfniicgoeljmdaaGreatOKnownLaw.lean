/- The chapter's examples: what the models answer. No condition. -/
import Derived.Test.YtfniicgoeljmdaaGreatAwakeFour
import Derived.Test.YtfniicgoeljmdaaGreatTruth
import Derived.Test.YtfniicgoeljmdaaGreatCellsWalk
import Derived.Test.YtfniicgoeljmdaaGreatUpdate
import Derived.Test.YtfniicgoeljmdaaGreatPackAll
import Derived.Test.YtfniicgoeljmdaaGreatOwnBoxes
namespace Go.Proofs.YtfniicgoeljmdaaGreat
open Go.RowKit

def shownB : Bx := ⟨⟨0, 10⟩, ⟨0, 3⟩, ⟨5, 5⟩, ⟨-2, 0⟩⟩
def shownX : Bx := ⟨⟨0, 5⟩, ⟨0, 3⟩, ⟨5, 5⟩, ⟨-2, 0⟩⟩
def shownY : Bx := ⟨⟨6, 10⟩, ⟨0, 3⟩, ⟨5, 5⟩, ⟨-2, 0⟩⟩
def shownL : List Bx := [⟨⟨0, 2⟩, ⟨0, 3⟩, ⟨5, 5⟩, ⟨-2, 0⟩⟩, ⟨⟨3, 5⟩, ⟨0, 3⟩, ⟨5, 5⟩, ⟨-2, 0⟩⟩, shownY]
def heavenS : Sky := ⟨⟨stillL, 0⟩, [⟨1, ⟨0, 0⟩⟩], [⟨1, 0, 0⟩]⟩
theorem still_not1 : possibleB stillL 0 ⟨⟨0, 0⟩, ⟨0, 0⟩, 1⟩ 0 ⟨0, 0, 5, 0⟩ ⟨6, -1, 6, 1⟩ = false := by decide +kernel
theorem still_not2 : possibleB stillL 0 ⟨⟨0, 0⟩, ⟨0, 0⟩, 1⟩ 0 ⟨0, 0, 5, 0⟩ ⟨7, 0, 7, 0⟩ = false := by decide +kernel
theorem still_truth : truthM stillL 0 ⟨⟨0, 0⟩, ⟨0, 0⟩, 1⟩ 0 [⟨0, 0, 5, 0⟩, ⟨6, -1, 6, -1⟩, ⟨12, 0, 6, 2⟩] = 2 := by decide +kernel
theorem shown_split : splitV shownB = .tuple #[bxV shownX, bxV shownY, .bool true] := by kernel_rfl
theorem shown_cells : cellsL shownB 3 = shownL := by kernel_rfl
theorem shown_cells0 : cellsErr shownB 3 = 0 := by decide +kernel
theorem shown_filt0 : fltErr heavenS 0 [shownX, shownY] [⟨2, 1, 0, 0, 0, 0, 0, 0, 5⟩] = 0 := by decide +kernel
theorem shown_filt : filtL heavenS 0 [⟨2, 1, 0, 0, 0, 0, 0, 0, 5⟩] [shownX, shownY] = [shownX] := by kernel_rfl
theorem shown_pack0 : packErr shownL 1 = 0 := by decide +kernel
theorem shown_pack : packL shownL 1 = [shownB] := by kernel_rfl
theorem shown_hull : hullM shownL = shownB := by kernel_rfl
theorem shown_hull0 : hullOk shownL = true := by decide +kernel
end Go.Proofs.YtfniicgoeljmdaaGreat
