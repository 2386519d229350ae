/-
  No cell of these rows narrows 'for every input' (looked for: loops, veiled, ifaces, maps, wideKeys, modest, calm, conditions, laid).
  DERIVED. THE GIVEN ROWS OF THIS SEAT. 13 by the template 'for every input the law returns true; each argument reads behind the call as it read before'; 0 by the template 'total and deterministic' (their statements: YtfniicgoeljmdaaGreatTotals.lean).
  GIVEN WITH THE SEED: the statements are not yours to turn. If you find one false, say at which input.
  Laid BY PROGRAM, IN A SANDBOX (cutbox-rows.mjs): the forced cells as the released guide's own fill.sh prints them over the translation 45da829e3665e048… (all of the seat's roots in one cut). By AI agents, Wed Nov 11 2026. No macro, syntax, notation, axiom, sorry.
-/
import Derived.Test.YtfniicgoeljmdaaGreatChecked
import GoSem.Claim
import GoSem.ClaimJoined
import GoSem.ClaimMapViews
import Derived.JoinedTies
import Derived.KernelRfl
namespace Go.Proofs.YtfniicgoeljmdaaGreat
/- THE CELL 'sum', in the pinned program and in every row, IS THE sha256 OF THE DUMP (.gsa) THAT YtfniicgoeljmdaaGreatProg.lean LOADS. Nothing in Lean hashes anything: it is a label: what it is worth is what the hold of that sum in a sandbox is worth. -/
noncomputable def Tryz.pinned : Pinned := { name := "ytfniicgoeljmdaagreat", sum := "45da829e3665e048e86a6d586f1401e870e683d50745227fdf46fe57700a9e41", checked := Tryz.checked }
namespace Rows
def none {H : Type} : Left H := { results := [], args := [] }

/-- 'bolidelaw04.OrbitFollows': WHATEVER THE INPUT: true; the input reads as it did. -/
def orbitFollowsSpec : ChangeSpec := { name := "orbitFollows", fn := fun _ => fun
  | [d1, d2, d3, d4, d5, d6] => { results := [.lit (.bool true)], args := [d1, d2, d3, d4, d5, d6] }
  | _ => none }
def orbitFollowsRow : OpenClaim := { program := "ytfniicgoeljmdaagreat", sum := "45da829e3665e048e86a6d586f1401e870e683d50745227fdf46fe57700a9e41", func := "bolide/bolidelaw04.OrbitFollows", spec := "orbitFollows", unfollowed := true, recurses := true, named := ["math/bits.divideError", "math/bits.overflowError"], apart := false }
def OrbitFollowsSaid : Prop := orbitFollowsRow.holds Tryz.pinned (OpenSpec.ofChange orbitFollowsSpec)

/-- ITS FALSE NEIGHBOUR: 'it returns false'. Refute it at one input. -/
def orbitFollowsWrong : ChangeSpec := { name := "orbitFollows", fn := fun _ => fun
  | [d1, d2, d3, d4, d5, d6] => { results := [.lit (.bool false)], args := [d1, d2, d3, d4, d5, d6] }
  | _ => none }
def OrbitFollowsWrongFalsely : Prop := orbitFollowsRow.holds Tryz.pinned (OpenSpec.ofChange orbitFollowsWrong)

/-- 'bolidelaw04.OrbitSteps': WHATEVER THE INPUT: true; the input reads as it did. -/
def orbitStepsSpec : ChangeSpec := { name := "orbitSteps", fn := fun _ => fun
  | [d1, d2, d3, d4, d5, d6] => { results := [.lit (.bool true)], args := [d1, d2, d3, d4, d5, d6] }
  | _ => none }
def orbitStepsRow : OpenClaim := { program := "ytfniicgoeljmdaagreat", sum := "45da829e3665e048e86a6d586f1401e870e683d50745227fdf46fe57700a9e41", func := "bolide/bolidelaw04.OrbitSteps", spec := "orbitSteps", unfollowed := true, recurses := true, named := ["math/bits.divideError", "math/bits.overflowError"], apart := false }
def OrbitStepsSaid : Prop := orbitStepsRow.holds Tryz.pinned (OpenSpec.ofChange orbitStepsSpec)

/-- ITS FALSE NEIGHBOUR: 'it returns false'. Refute it at one input. -/
def orbitStepsWrong : ChangeSpec := { name := "orbitSteps", fn := fun _ => fun
  | [d1, d2, d3, d4, d5, d6] => { results := [.lit (.bool false)], args := [d1, d2, d3, d4, d5, d6] }
  | _ => none }
def OrbitStepsWrongFalsely : Prop := orbitStepsRow.holds Tryz.pinned (OpenSpec.ofChange orbitStepsWrong)

/-- 'bolidelaw04.OrbitContains': WHATEVER THE INPUT: true; the input reads as it did. -/
def orbitContainsSpec : ChangeSpec := { name := "orbitContains", fn := fun _ => fun
  | [d] => { results := [.lit (.bool true)], args := [d] }
  | _ => none }
def orbitContainsRow : OpenClaim := { program := "ytfniicgoeljmdaagreat", sum := "45da829e3665e048e86a6d586f1401e870e683d50745227fdf46fe57700a9e41", func := "bolide/bolidelaw04.OrbitContains", spec := "orbitContains", unfollowed := true, recurses := true, named := ["math/bits.divideError", "math/bits.overflowError"], apart := false }
def OrbitContainsSaid : Prop := orbitContainsRow.holds Tryz.pinned (OpenSpec.ofChange orbitContainsSpec)

/-- ITS FALSE NEIGHBOUR: 'it returns false'. Refute it at one input. -/
def orbitContainsWrong : ChangeSpec := { name := "orbitContains", fn := fun _ => fun
  | [d] => { results := [.lit (.bool false)], args := [d] }
  | _ => none }
def OrbitContainsWrongFalsely : Prop := orbitContainsRow.holds Tryz.pinned (OpenSpec.ofChange orbitContainsWrong)

/-- 'bolidelaw04.OrbitBoxes': WHATEVER THE INPUT: true; the input reads as it did. -/
def orbitBoxesSpec : ChangeSpec := { name := "orbitBoxes", fn := fun _ => fun
  | [d1, d2, d3, d4] => { results := [.lit (.bool true)], args := [d1, d2, d3, d4] }
  | _ => none }
def orbitBoxesRow : OpenClaim := { program := "ytfniicgoeljmdaagreat", sum := "45da829e3665e048e86a6d586f1401e870e683d50745227fdf46fe57700a9e41", func := "bolide/bolidelaw04.OrbitBoxes", spec := "orbitBoxes", unfollowed := true, recurses := true, named := ["math/bits.divideError", "math/bits.overflowError"], apart := false }
def OrbitBoxesSaid : Prop := orbitBoxesRow.holds Tryz.pinned (OpenSpec.ofChange orbitBoxesSpec)

/-- ITS FALSE NEIGHBOUR: 'it returns false'. Refute it at one input. -/
def orbitBoxesWrong : ChangeSpec := { name := "orbitBoxes", fn := fun _ => fun
  | [d1, d2, d3, d4] => { results := [.lit (.bool false)], args := [d1, d2, d3, d4] }
  | _ => none }
def OrbitBoxesWrongFalsely : Prop := orbitBoxesRow.holds Tryz.pinned (OpenSpec.ofChange orbitBoxesWrong)

/-- 'bolidelaw04.OrbitSplits': WHATEVER THE INPUT: true; the input reads as it did. -/
def orbitSplitsSpec : ChangeSpec := { name := "orbitSplits", fn := fun _ => fun
  | [d1, d2] => { results := [.lit (.bool true)], args := [d1, d2] }
  | _ => none }
def orbitSplitsRow : OpenClaim := { program := "ytfniicgoeljmdaagreat", sum := "45da829e3665e048e86a6d586f1401e870e683d50745227fdf46fe57700a9e41", func := "bolide/bolidelaw04.OrbitSplits", spec := "orbitSplits", inPlace := ["slices.overlaps[bolide/api.Box]"], unfollowed := true, recurses := true, named := ["math/bits.divideError", "math/bits.overflowError"], apart := false }
def OrbitSplitsSaid : Prop := orbitSplitsRow.holds Tryz.pinned (OpenSpec.ofChange orbitSplitsSpec)

/-- ITS FALSE NEIGHBOUR: 'it returns false'. Refute it at one input. -/
def orbitSplitsWrong : ChangeSpec := { name := "orbitSplits", fn := fun _ => fun
  | [d1, d2] => { results := [.lit (.bool false)], args := [d1, d2] }
  | _ => none }
def OrbitSplitsWrongFalsely : Prop := orbitSplitsRow.holds Tryz.pinned (OpenSpec.ofChange orbitSplitsWrong)

/-- 'bolidelaw04.OrbitFilters': WHATEVER THE INPUT: true; the input reads as it did. -/
def orbitFiltersSpec : ChangeSpec := { name := "orbitFilters", fn := fun _ => fun
  | [d1, d2, d3, d4, d5] => { results := [.lit (.bool true)], args := [d1, d2, d3, d4, d5] }
  | _ => none }
def orbitFiltersRow : OpenClaim := { program := "ytfniicgoeljmdaagreat", sum := "45da829e3665e048e86a6d586f1401e870e683d50745227fdf46fe57700a9e41", func := "bolide/bolidelaw04.OrbitFilters", spec := "orbitFilters", unfollowed := true, recurses := true, named := ["math/bits.divideError", "math/bits.overflowError"], apart := false }
def OrbitFiltersSaid : Prop := orbitFiltersRow.holds Tryz.pinned (OpenSpec.ofChange orbitFiltersSpec)

/-- ITS FALSE NEIGHBOUR: 'it returns false'. Refute it at one input. -/
def orbitFiltersWrong : ChangeSpec := { name := "orbitFilters", fn := fun _ => fun
  | [d1, d2, d3, d4, d5] => { results := [.lit (.bool false)], args := [d1, d2, d3, d4, d5] }
  | _ => none }
def OrbitFiltersWrongFalsely : Prop := orbitFiltersRow.holds Tryz.pinned (OpenSpec.ofChange orbitFiltersWrong)

/-- 'bolidelaw04.OrbitParts': WHATEVER THE INPUT: true; the input reads as it did. -/
def orbitPartsSpec : ChangeSpec := { name := "orbitParts", fn := fun _ => fun
  | [d1, d2, d3, d4] => { results := [.lit (.bool true)], args := [d1, d2, d3, d4] }
  | _ => none }
def orbitPartsRow : OpenClaim := { program := "ytfniicgoeljmdaagreat", sum := "45da829e3665e048e86a6d586f1401e870e683d50745227fdf46fe57700a9e41", func := "bolide/bolidelaw04.OrbitParts", spec := "orbitParts", inPlace := ["slices.overlaps[bolide/api.Box]"], unfollowed := true, recurses := true, named := ["math/bits.divideError", "math/bits.overflowError"], apart := false }
def OrbitPartsSaid : Prop := orbitPartsRow.holds Tryz.pinned (OpenSpec.ofChange orbitPartsSpec)

/-- ITS FALSE NEIGHBOUR: 'it returns false'. Refute it at one input. -/
def orbitPartsWrong : ChangeSpec := { name := "orbitParts", fn := fun _ => fun
  | [d1, d2, d3, d4] => { results := [.lit (.bool false)], args := [d1, d2, d3, d4] }
  | _ => none }
def OrbitPartsWrongFalsely : Prop := orbitPartsRow.holds Tryz.pinned (OpenSpec.ofChange orbitPartsWrong)

/-- 'bolidelaw04.OrbitUpdates': WHATEVER THE INPUT: true; the input reads as it did. -/
def orbitUpdatesSpec : ChangeSpec := { name := "orbitUpdates", fn := fun _ => fun
  | [d1, d2, d3, d4, d5, d6, d7] => { results := [.lit (.bool true)], args := [d1, d2, d3, d4, d5, d6, d7] }
  | _ => none }
def orbitUpdatesRow : OpenClaim := { program := "ytfniicgoeljmdaagreat", sum := "45da829e3665e048e86a6d586f1401e870e683d50745227fdf46fe57700a9e41", func := "bolide/bolidelaw04.OrbitUpdates", spec := "orbitUpdates", unfollowed := true, recurses := true, named := ["math/bits.divideError", "math/bits.overflowError"], apart := false }
def OrbitUpdatesSaid : Prop := orbitUpdatesRow.holds Tryz.pinned (OpenSpec.ofChange orbitUpdatesSpec)

/-- ITS FALSE NEIGHBOUR: 'it returns false'. Refute it at one input. -/
def orbitUpdatesWrong : ChangeSpec := { name := "orbitUpdates", fn := fun _ => fun
  | [d1, d2, d3, d4, d5, d6, d7] => { results := [.lit (.bool false)], args := [d1, d2, d3, d4, d5, d6, d7] }
  | _ => none }
def OrbitUpdatesWrongFalsely : Prop := orbitUpdatesRow.holds Tryz.pinned (OpenSpec.ofChange orbitUpdatesWrong)

/-- 'bolidelaw04.OrbitGoesOn': WHATEVER THE INPUT: true; the input reads as it did. -/
def orbitGoesOnSpec : ChangeSpec := { name := "orbitGoesOn", fn := fun _ => fun
  | [d1, d2, d3, d4] => { results := [.lit (.bool true)], args := [d1, d2, d3, d4] }
  | _ => none }
def orbitGoesOnRow : OpenClaim := { program := "ytfniicgoeljmdaagreat", sum := "45da829e3665e048e86a6d586f1401e870e683d50745227fdf46fe57700a9e41", func := "bolide/bolidelaw04.OrbitGoesOn", spec := "orbitGoesOn", inPlace := ["slices.overlaps[bolide/api.Box]"], unfollowed := true, recurses := true, named := ["math/bits.divideError", "math/bits.overflowError"], apart := false }
def OrbitGoesOnSaid : Prop := orbitGoesOnRow.holds Tryz.pinned (OpenSpec.ofChange orbitGoesOnSpec)

/-- ITS FALSE NEIGHBOUR: 'it returns false'. Refute it at one input. -/
def orbitGoesOnWrong : ChangeSpec := { name := "orbitGoesOn", fn := fun _ => fun
  | [d1, d2, d3, d4] => { results := [.lit (.bool false)], args := [d1, d2, d3, d4] }
  | _ => none }
def OrbitGoesOnWrongFalsely : Prop := orbitGoesOnRow.holds Tryz.pinned (OpenSpec.ofChange orbitGoesOnWrong)

/-- 'bolidelaw04.OrbitKnown': WHATEVER THE INPUT: true; the input reads as it did. -/
def orbitKnownSpec : ChangeSpec := { name := "orbitKnown", fn := fun _ => fun
  | [] => { results := [.lit (.bool true)], args := [] }
  | _ => none }
def orbitKnownRow : OpenClaim := { program := "ytfniicgoeljmdaagreat", sum := "45da829e3665e048e86a6d586f1401e870e683d50745227fdf46fe57700a9e41", func := "bolide/bolidelaw04.OrbitKnown", spec := "orbitKnown", inPlace := ["slices.overlaps[bolide/api.Box]"], unfollowed := true, recurses := true, named := ["math/bits.divideError", "math/bits.overflowError"], apart := false }
def OrbitKnownSaid : Prop := orbitKnownRow.holds Tryz.pinned (OpenSpec.ofChange orbitKnownSpec)

/-- ITS FALSE NEIGHBOUR: 'it returns false'. Refute it at one input. -/
def orbitKnownWrong : ChangeSpec := { name := "orbitKnown", fn := fun _ => fun
  | [] => { results := [.lit (.bool false)], args := [] }
  | _ => none }
def OrbitKnownWrongFalsely : Prop := orbitKnownRow.holds Tryz.pinned (OpenSpec.ofChange orbitKnownWrong)

/-- 'bolidelaw04.OrbitKeeps': WHATEVER THE INPUT: true; the input reads as it did. -/
def orbitKeepsSpec : ChangeSpec := { name := "orbitKeeps", fn := fun _ => fun
  | [d1, d2, d3] => { results := [.lit (.bool true)], args := [d1, d2, d3] }
  | _ => none }
def orbitKeepsRow : OpenClaim := { program := "ytfniicgoeljmdaagreat", sum := "45da829e3665e048e86a6d586f1401e870e683d50745227fdf46fe57700a9e41", func := "bolide/bolidelaw04.OrbitKeeps", spec := "orbitKeeps", inPlace := ["slices.overlaps[bolide/api.Box]"], unfollowed := true, recurses := true, named := ["math/bits.divideError", "math/bits.overflowError"], apart := false }
def OrbitKeepsSaid : Prop := orbitKeepsRow.holds Tryz.pinned (OpenSpec.ofChange orbitKeepsSpec)

/-- ITS FALSE NEIGHBOUR: 'it returns false'. Refute it at one input. -/
def orbitKeepsWrong : ChangeSpec := { name := "orbitKeeps", fn := fun _ => fun
  | [d1, d2, d3] => { results := [.lit (.bool false)], args := [d1, d2, d3] }
  | _ => none }
def OrbitKeepsWrongFalsely : Prop := orbitKeepsRow.holds Tryz.pinned (OpenSpec.ofChange orbitKeepsWrong)

/-- 'bolidelaw04.OrbitTruth': WHATEVER THE INPUT: true; the input reads as it did. -/
def orbitTruthSpec : ChangeSpec := { name := "orbitTruth", fn := fun _ => fun
  | [d1, d2, d3] => { results := [.lit (.bool true)], args := [d1, d2, d3] }
  | _ => none }
def orbitTruthRow : OpenClaim := { program := "ytfniicgoeljmdaagreat", sum := "45da829e3665e048e86a6d586f1401e870e683d50745227fdf46fe57700a9e41", func := "bolide/bolidelaw04.OrbitTruth", spec := "orbitTruth", inPlace := ["slices.overlaps[bolide/api.Box]"], unfollowed := true, recurses := true, named := ["math/bits.divideError", "math/bits.overflowError"], apart := false }
def OrbitTruthSaid : Prop := orbitTruthRow.holds Tryz.pinned (OpenSpec.ofChange orbitTruthSpec)

/-- ITS FALSE NEIGHBOUR: 'it returns false'. Refute it at one input. -/
def orbitTruthWrong : ChangeSpec := { name := "orbitTruth", fn := fun _ => fun
  | [d1, d2, d3] => { results := [.lit (.bool false)], args := [d1, d2, d3] }
  | _ => none }
def OrbitTruthWrongFalsely : Prop := orbitTruthRow.holds Tryz.pinned (OpenSpec.ofChange orbitTruthWrong)

/-- 'bolidelaw04.OrbitPacks': WHATEVER THE INPUT: true; the input reads as it did. -/
def orbitPacksSpec : ChangeSpec := { name := "orbitPacks", fn := fun _ => fun
  | [d1, d2, d3, d4] => { results := [.lit (.bool true)], args := [d1, d2, d3, d4] }
  | _ => none }
def orbitPacksRow : OpenClaim := { program := "ytfniicgoeljmdaagreat", sum := "45da829e3665e048e86a6d586f1401e870e683d50745227fdf46fe57700a9e41", func := "bolide/bolidelaw04.OrbitPacks", spec := "orbitPacks", inPlace := ["slices.overlaps[bolide/api.Box]"], unfollowed := true, recurses := true, named := ["math/bits.divideError", "math/bits.overflowError"], apart := false }
def OrbitPacksSaid : Prop := orbitPacksRow.holds Tryz.pinned (OpenSpec.ofChange orbitPacksSpec)

/-- ITS FALSE NEIGHBOUR: 'it returns false'. Refute it at one input. -/
def orbitPacksWrong : ChangeSpec := { name := "orbitPacks", fn := fun _ => fun
  | [d1, d2, d3, d4] => { results := [.lit (.bool false)], args := [d1, d2, d3, d4] }
  | _ => none }
def OrbitPacksWrongFalsely : Prop := orbitPacksRow.holds Tryz.pinned (OpenSpec.ofChange orbitPacksWrong)

/- THE SECOND FORM. 'bulk': how many values and letters a reading holds, each counted each time it is reached (what is shared counts as often as it is met; a slice's spare places count too). A statement '..UptoSaid' is the law's where the arguments, and the package variables that the reading takes, are together of bulk at most 1048576: NARROWER than '..Said'. Prove '..Said' where nothing that the law and all that it calls make is longer than what came in: it says more and counts as full. Else prove '..UptoSaid'. A law counts once. -/
mutual
def uptoBulk {H : Type} : DataW H → Nat
  | .lit (.string bytes) => bytes.length + 1
  | .lit _ => 1
  | .nil => 1
  | .ptr d => uptoBulk d + 1
  | .slice elems spare => uptoBulkAll elems + uptoBulkAll spare + 1
  | .agg parts => uptoBulkAll parts + 1
  | .iface _ d => uptoBulk d + 1
  | .map entries => uptoBulkEntries entries + 1
  | .held _ => 1
def uptoBulkAll {H : Type} : List (DataW H) → Nat
  | [] => 0
  | d :: r => uptoBulk d + uptoBulkAll r
def uptoBulkEntries {H : Type} : List (Lit × DataW H) → Nat
  | [] => 0
  | x :: r => uptoBulkEntry x + uptoBulkEntries r
def uptoBulkEntry {H : Type} : Lit × DataW H → Nat
  | (.string bytes, d) => bytes.length + uptoBulk d + 1
  | (_, d) => uptoBulk d + 1
 end
def uptoSmall : (H : Type) → List (DataW H) → Bool := fun _ ds => decide (uptoBulkAll ds ≤ 1048576)
def OpenSpec.upto (s : _root_.Go.ChangeSpec) : _root_.Go.OpenSpec := { _root_.Go.OpenSpec.ofChange s with cond := some uptoSmall }

/-- 'bolidelaw04.OrbitFollows', WHERE WHAT IT READS IS OF BULK AT MOST 1048576: true; the input reads as it did. -/
def orbitFollowsUptoRow : OpenClaim := { program := "ytfniicgoeljmdaagreat", sum := "45da829e3665e048e86a6d586f1401e870e683d50745227fdf46fe57700a9e41", func := "bolide/bolidelaw04.OrbitFollows", spec := "orbitFollows", unfollowed := true, recurses := true, named := ["math/bits.divideError", "math/bits.overflowError"], apart := false, narrowed := true }
def OrbitFollowsUptoSaid : Prop := orbitFollowsUptoRow.holds Tryz.pinned (OpenSpec.upto orbitFollowsSpec)

/-- 'bolidelaw04.OrbitSteps', WHERE WHAT IT READS IS OF BULK AT MOST 1048576: true; the input reads as it did. -/
def orbitStepsUptoRow : OpenClaim := { program := "ytfniicgoeljmdaagreat", sum := "45da829e3665e048e86a6d586f1401e870e683d50745227fdf46fe57700a9e41", func := "bolide/bolidelaw04.OrbitSteps", spec := "orbitSteps", unfollowed := true, recurses := true, named := ["math/bits.divideError", "math/bits.overflowError"], apart := false, narrowed := true }
def OrbitStepsUptoSaid : Prop := orbitStepsUptoRow.holds Tryz.pinned (OpenSpec.upto orbitStepsSpec)

/-- 'bolidelaw04.OrbitContains', WHERE WHAT IT READS IS OF BULK AT MOST 1048576: true; the input reads as it did. -/
def orbitContainsUptoRow : OpenClaim := { program := "ytfniicgoeljmdaagreat", sum := "45da829e3665e048e86a6d586f1401e870e683d50745227fdf46fe57700a9e41", func := "bolide/bolidelaw04.OrbitContains", spec := "orbitContains", unfollowed := true, recurses := true, named := ["math/bits.divideError", "math/bits.overflowError"], apart := false, narrowed := true }
def OrbitContainsUptoSaid : Prop := orbitContainsUptoRow.holds Tryz.pinned (OpenSpec.upto orbitContainsSpec)

/-- 'bolidelaw04.OrbitBoxes', WHERE WHAT IT READS IS OF BULK AT MOST 1048576: true; the input reads as it did. -/
def orbitBoxesUptoRow : OpenClaim := { program := "ytfniicgoeljmdaagreat", sum := "45da829e3665e048e86a6d586f1401e870e683d50745227fdf46fe57700a9e41", func := "bolide/bolidelaw04.OrbitBoxes", spec := "orbitBoxes", unfollowed := true, recurses := true, named := ["math/bits.divideError", "math/bits.overflowError"], apart := false, narrowed := true }
def OrbitBoxesUptoSaid : Prop := orbitBoxesUptoRow.holds Tryz.pinned (OpenSpec.upto orbitBoxesSpec)

/-- 'bolidelaw04.OrbitSplits', WHERE WHAT IT READS IS OF BULK AT MOST 1048576: true; the input reads as it did. -/
def orbitSplitsUptoRow : OpenClaim := { program := "ytfniicgoeljmdaagreat", sum := "45da829e3665e048e86a6d586f1401e870e683d50745227fdf46fe57700a9e41", func := "bolide/bolidelaw04.OrbitSplits", spec := "orbitSplits", inPlace := ["slices.overlaps[bolide/api.Box]"], unfollowed := true, recurses := true, named := ["math/bits.divideError", "math/bits.overflowError"], apart := false, narrowed := true }
def OrbitSplitsUptoSaid : Prop := orbitSplitsUptoRow.holds Tryz.pinned (OpenSpec.upto orbitSplitsSpec)

/-- 'bolidelaw04.OrbitFilters', WHERE WHAT IT READS IS OF BULK AT MOST 1048576: true; the input reads as it did. -/
def orbitFiltersUptoRow : OpenClaim := { program := "ytfniicgoeljmdaagreat", sum := "45da829e3665e048e86a6d586f1401e870e683d50745227fdf46fe57700a9e41", func := "bolide/bolidelaw04.OrbitFilters", spec := "orbitFilters", unfollowed := true, recurses := true, named := ["math/bits.divideError", "math/bits.overflowError"], apart := false, narrowed := true }
def OrbitFiltersUptoSaid : Prop := orbitFiltersUptoRow.holds Tryz.pinned (OpenSpec.upto orbitFiltersSpec)

/-- 'bolidelaw04.OrbitParts', WHERE WHAT IT READS IS OF BULK AT MOST 1048576: true; the input reads as it did. -/
def orbitPartsUptoRow : OpenClaim := { program := "ytfniicgoeljmdaagreat", sum := "45da829e3665e048e86a6d586f1401e870e683d50745227fdf46fe57700a9e41", func := "bolide/bolidelaw04.OrbitParts", spec := "orbitParts", inPlace := ["slices.overlaps[bolide/api.Box]"], unfollowed := true, recurses := true, named := ["math/bits.divideError", "math/bits.overflowError"], apart := false, narrowed := true }
def OrbitPartsUptoSaid : Prop := orbitPartsUptoRow.holds Tryz.pinned (OpenSpec.upto orbitPartsSpec)

/-- 'bolidelaw04.OrbitUpdates', WHERE WHAT IT READS IS OF BULK AT MOST 1048576: true; the input reads as it did. -/
def orbitUpdatesUptoRow : OpenClaim := { program := "ytfniicgoeljmdaagreat", sum := "45da829e3665e048e86a6d586f1401e870e683d50745227fdf46fe57700a9e41", func := "bolide/bolidelaw04.OrbitUpdates", spec := "orbitUpdates", unfollowed := true, recurses := true, named := ["math/bits.divideError", "math/bits.overflowError"], apart := false, narrowed := true }
def OrbitUpdatesUptoSaid : Prop := orbitUpdatesUptoRow.holds Tryz.pinned (OpenSpec.upto orbitUpdatesSpec)

/-- 'bolidelaw04.OrbitGoesOn', WHERE WHAT IT READS IS OF BULK AT MOST 1048576: true; the input reads as it did. -/
def orbitGoesOnUptoRow : OpenClaim := { program := "ytfniicgoeljmdaagreat", sum := "45da829e3665e048e86a6d586f1401e870e683d50745227fdf46fe57700a9e41", func := "bolide/bolidelaw04.OrbitGoesOn", spec := "orbitGoesOn", inPlace := ["slices.overlaps[bolide/api.Box]"], unfollowed := true, recurses := true, named := ["math/bits.divideError", "math/bits.overflowError"], apart := false, narrowed := true }
def OrbitGoesOnUptoSaid : Prop := orbitGoesOnUptoRow.holds Tryz.pinned (OpenSpec.upto orbitGoesOnSpec)

/-- 'bolidelaw04.OrbitKnown', WHERE WHAT IT READS IS OF BULK AT MOST 1048576: true; the input reads as it did. -/
def orbitKnownUptoRow : OpenClaim := { program := "ytfniicgoeljmdaagreat", sum := "45da829e3665e048e86a6d586f1401e870e683d50745227fdf46fe57700a9e41", func := "bolide/bolidelaw04.OrbitKnown", spec := "orbitKnown", inPlace := ["slices.overlaps[bolide/api.Box]"], unfollowed := true, recurses := true, named := ["math/bits.divideError", "math/bits.overflowError"], apart := false, narrowed := true }
def OrbitKnownUptoSaid : Prop := orbitKnownUptoRow.holds Tryz.pinned (OpenSpec.upto orbitKnownSpec)

/-- 'bolidelaw04.OrbitKeeps', WHERE WHAT IT READS IS OF BULK AT MOST 1048576: true; the input reads as it did. -/
def orbitKeepsUptoRow : OpenClaim := { program := "ytfniicgoeljmdaagreat", sum := "45da829e3665e048e86a6d586f1401e870e683d50745227fdf46fe57700a9e41", func := "bolide/bolidelaw04.OrbitKeeps", spec := "orbitKeeps", inPlace := ["slices.overlaps[bolide/api.Box]"], unfollowed := true, recurses := true, named := ["math/bits.divideError", "math/bits.overflowError"], apart := false, narrowed := true }
def OrbitKeepsUptoSaid : Prop := orbitKeepsUptoRow.holds Tryz.pinned (OpenSpec.upto orbitKeepsSpec)

/-- 'bolidelaw04.OrbitTruth', WHERE WHAT IT READS IS OF BULK AT MOST 1048576: true; the input reads as it did. -/
def orbitTruthUptoRow : OpenClaim := { program := "ytfniicgoeljmdaagreat", sum := "45da829e3665e048e86a6d586f1401e870e683d50745227fdf46fe57700a9e41", func := "bolide/bolidelaw04.OrbitTruth", spec := "orbitTruth", inPlace := ["slices.overlaps[bolide/api.Box]"], unfollowed := true, recurses := true, named := ["math/bits.divideError", "math/bits.overflowError"], apart := false, narrowed := true }
def OrbitTruthUptoSaid : Prop := orbitTruthUptoRow.holds Tryz.pinned (OpenSpec.upto orbitTruthSpec)

/-- 'bolidelaw04.OrbitPacks', WHERE WHAT IT READS IS OF BULK AT MOST 1048576: true; the input reads as it did. -/
def orbitPacksUptoRow : OpenClaim := { program := "ytfniicgoeljmdaagreat", sum := "45da829e3665e048e86a6d586f1401e870e683d50745227fdf46fe57700a9e41", func := "bolide/bolidelaw04.OrbitPacks", spec := "orbitPacks", inPlace := ["slices.overlaps[bolide/api.Box]"], unfollowed := true, recurses := true, named := ["math/bits.divideError", "math/bits.overflowError"], apart := false, narrowed := true }
def OrbitPacksUptoSaid : Prop := orbitPacksUptoRow.holds Tryz.pinned (OpenSpec.upto orbitPacksSpec)

end Rows
end Go.Proofs.YtfniicgoeljmdaaGreat
