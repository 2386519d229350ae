/-
  No cell of these rows narrows 'for every input' (looked for: loops, veiled, ifaces, maps, wideKeys, modest, calm, conditions, laid).
  DERIVED. THE GIVEN ROWS OF THIS SEAT. 16 by the template 'for every input the law returns true; each argument reads behind the call as it read before'; 0 by the template 'total and deterministic' (their statements: YtiladlangkjoiaaGreatTotals.lean).
  GIVEN WITH THE SEED: the statements are not yours to turn. If you find one false, say at which input.
  Laid BY PROGRAM, IN A SANDBOX (cutbox-rows.mjs): the forced cells as the released guide's own fill.sh prints them over the translation 9b6bbaaf3a532a68… (all of the seat's roots in one cut). By AI agents, Wed Nov 11 2026. No macro, syntax, notation, axiom, sorry.
-/
import Derived.Test.YtiladlangkjoiaaGreatChecked
import GoSem.Claim
import GoSem.ClaimJoined
import GoSem.ClaimMapViews
import Derived.JoinedTies
import Derived.KernelRfl
namespace Go.Proofs.YtiladlangkjoiaaGreat
/- THE CELL 'sum', in the pinned program and in every row, IS THE sha256 OF THE DUMP (.gsa) THAT YtiladlangkjoiaaGreatProg.lean LOADS. Nothing in Lean hashes anything: it is a label: what it is worth is what the hold of that sum in a sandbox is worth. -/
noncomputable def Tryz.pinned : Pinned := { name := "ytiladlangkjoiaagreat", sum := "9b6bbaaf3a532a68ba2c5e30668e39d33e1c8df709b7f55680e10dbc7d016e54", checked := Tryz.checked }
namespace Rows
def none {H : Type} : Left H := { results := [], args := [] }

/-- 'bolidelaw08.PushChecks': WHATEVER THE INPUT: true; the input reads as it did. -/
def pushChecksSpec : ChangeSpec := { name := "pushChecks", fn := fun _ => fun
  | [d1, d2, d3, d4, d5] => { results := [.lit (.bool true)], args := [d1, d2, d3, d4, d5] }
  | _ => none }
def pushChecksRow : OpenClaim := { program := "ytiladlangkjoiaagreat", sum := "9b6bbaaf3a532a68ba2c5e30668e39d33e1c8df709b7f55680e10dbc7d016e54", func := "bolide/bolidelaw08.PushChecks", spec := "pushChecks", unfollowed := true, recurses := true, named := ["math/bits.divideError", "math/bits.overflowError"], apart := false }
def PushChecksSaid : Prop := pushChecksRow.holds Tryz.pinned (OpenSpec.ofChange pushChecksSpec)

/-- ITS FALSE NEIGHBOUR: 'it returns false'. Refute it at one input. -/
def pushChecksWrong : ChangeSpec := { name := "pushChecks", fn := fun _ => fun
  | [d1, d2, d3, d4, d5] => { results := [.lit (.bool false)], args := [d1, d2, d3, d4, d5] }
  | _ => none }
def PushChecksWrongFalsely : Prop := pushChecksRow.holds Tryz.pinned (OpenSpec.ofChange pushChecksWrong)

/-- 'bolidelaw08.PushDoes': WHATEVER THE INPUT: true; the input reads as it did. -/
def pushDoesSpec : ChangeSpec := { name := "pushDoes", fn := fun _ => fun
  | [d1, d2, d3, d4, d5] => { results := [.lit (.bool true)], args := [d1, d2, d3, d4, d5] }
  | _ => none }
def pushDoesRow : OpenClaim := { program := "ytiladlangkjoiaagreat", sum := "9b6bbaaf3a532a68ba2c5e30668e39d33e1c8df709b7f55680e10dbc7d016e54", func := "bolide/bolidelaw08.PushDoes", spec := "pushDoes", unfollowed := true, recurses := true, named := ["math/bits.divideError", "math/bits.overflowError"], apart := false }
def PushDoesSaid : Prop := pushDoesRow.holds Tryz.pinned (OpenSpec.ofChange pushDoesSpec)

/-- ITS FALSE NEIGHBOUR: 'it returns false'. Refute it at one input. -/
def pushDoesWrong : ChangeSpec := { name := "pushDoes", fn := fun _ => fun
  | [d1, d2, d3, d4, d5] => { results := [.lit (.bool false)], args := [d1, d2, d3, d4, d5] }
  | _ => none }
def PushDoesWrongFalsely : Prop := pushDoesRow.holds Tryz.pinned (OpenSpec.ofChange pushDoesWrong)

/-- 'bolidelaw08.PushVerifies': WHATEVER THE INPUT: true; the input reads as it did. -/
def pushVerifiesSpec : ChangeSpec := { name := "pushVerifies", fn := fun _ => fun
  | [d1, d2, d3, d4, d5] => { results := [.lit (.bool true)], args := [d1, d2, d3, d4, d5] }
  | _ => none }
def pushVerifiesRow : OpenClaim := { program := "ytiladlangkjoiaagreat", sum := "9b6bbaaf3a532a68ba2c5e30668e39d33e1c8df709b7f55680e10dbc7d016e54", func := "bolide/bolidelaw08.PushVerifies", spec := "pushVerifies", unfollowed := true, recurses := true, named := ["math/bits.divideError", "math/bits.overflowError"], apart := false }
def PushVerifiesSaid : Prop := pushVerifiesRow.holds Tryz.pinned (OpenSpec.ofChange pushVerifiesSpec)

/-- ITS FALSE NEIGHBOUR: 'it returns false'. Refute it at one input. -/
def pushVerifiesWrong : ChangeSpec := { name := "pushVerifies", fn := fun _ => fun
  | [d1, d2, d3, d4, d5] => { results := [.lit (.bool false)], args := [d1, d2, d3, d4, d5] }
  | _ => none }
def PushVerifiesWrongFalsely : Prop := pushVerifiesRow.holds Tryz.pinned (OpenSpec.ofChange pushVerifiesWrong)

/-- 'bolidelaw08.PushNothing': WHATEVER THE INPUT: true; the input reads as it did. -/
def pushNothingSpec : ChangeSpec := { name := "pushNothing", fn := fun _ => fun
  | [d] => { results := [.lit (.bool true)], args := [d] }
  | _ => none }
def pushNothingRow : OpenClaim := { program := "ytiladlangkjoiaagreat", sum := "9b6bbaaf3a532a68ba2c5e30668e39d33e1c8df709b7f55680e10dbc7d016e54", func := "bolide/bolidelaw08.PushNothing", spec := "pushNothing", unfollowed := true, recurses := true, named := ["math/bits.divideError", "math/bits.overflowError"], apart := false }
def PushNothingSaid : Prop := pushNothingRow.holds Tryz.pinned (OpenSpec.ofChange pushNothingSpec)

/-- ITS FALSE NEIGHBOUR: 'it returns false'. Refute it at one input. -/
def pushNothingWrong : ChangeSpec := { name := "pushNothing", fn := fun _ => fun
  | [d] => { results := [.lit (.bool false)], args := [d] }
  | _ => none }
def PushNothingWrongFalsely : Prop := pushNothingRow.holds Tryz.pinned (OpenSpec.ofChange pushNothingWrong)

/-- 'bolidelaw08.PushFails': WHATEVER THE INPUT: true; the input reads as it did. -/
def pushFailsSpec : ChangeSpec := { name := "pushFails", fn := fun _ => fun
  | [d1, d2] => { results := [.lit (.bool true)], args := [d1, d2] }
  | _ => none }
def pushFailsRow : OpenClaim := { program := "ytiladlangkjoiaagreat", sum := "9b6bbaaf3a532a68ba2c5e30668e39d33e1c8df709b7f55680e10dbc7d016e54", func := "bolide/bolidelaw08.PushFails", spec := "pushFails", unfollowed := true, recurses := true, named := ["math/bits.divideError", "math/bits.overflowError"], apart := false }
def PushFailsSaid : Prop := pushFailsRow.holds Tryz.pinned (OpenSpec.ofChange pushFailsSpec)

/-- ITS FALSE NEIGHBOUR: 'it returns false'. Refute it at one input. -/
def pushFailsWrong : ChangeSpec := { name := "pushFails", fn := fun _ => fun
  | [d1, d2] => { results := [.lit (.bool false)], args := [d1, d2] }
  | _ => none }
def PushFailsWrongFalsely : Prop := pushFailsRow.holds Tryz.pinned (OpenSpec.ofChange pushFailsWrong)

/-- 'bolidelaw08.PushSets': WHATEVER THE INPUT: true; the input reads as it did. -/
def pushSetsSpec : ChangeSpec := { name := "pushSets", fn := fun _ => fun
  | [d] => { results := [.lit (.bool true)], args := [d] }
  | _ => none }
def pushSetsRow : OpenClaim := { program := "ytiladlangkjoiaagreat", sum := "9b6bbaaf3a532a68ba2c5e30668e39d33e1c8df709b7f55680e10dbc7d016e54", func := "bolide/bolidelaw08.PushSets", spec := "pushSets", unfollowed := true, recurses := true, named := ["math/bits.divideError", "math/bits.overflowError"], apart := false }
def PushSetsSaid : Prop := pushSetsRow.holds Tryz.pinned (OpenSpec.ofChange pushSetsSpec)

/-- ITS FALSE NEIGHBOUR: 'it returns false'. Refute it at one input. -/
def pushSetsWrong : ChangeSpec := { name := "pushSets", fn := fun _ => fun
  | [d] => { results := [.lit (.bool false)], args := [d] }
  | _ => none }
def PushSetsWrongFalsely : Prop := pushSetsRow.holds Tryz.pinned (OpenSpec.ofChange pushSetsWrong)

/-- 'bolidelaw08.PushBoxes': WHATEVER THE INPUT: true; the input reads as it did. -/
def pushBoxesSpec : ChangeSpec := { name := "pushBoxes", fn := fun _ => fun
  | [d1, d2, d3, d4, d5, d6, d7] => { results := [.lit (.bool true)], args := [d1, d2, d3, d4, d5, d6, d7] }
  | _ => none }
def pushBoxesRow : OpenClaim := { program := "ytiladlangkjoiaagreat", sum := "9b6bbaaf3a532a68ba2c5e30668e39d33e1c8df709b7f55680e10dbc7d016e54", func := "bolide/bolidelaw08.PushBoxes", spec := "pushBoxes", unfollowed := true, recurses := true, named := ["math/bits.divideError", "math/bits.overflowError"], apart := false }
def PushBoxesSaid : Prop := pushBoxesRow.holds Tryz.pinned (OpenSpec.ofChange pushBoxesSpec)

/-- ITS FALSE NEIGHBOUR: 'it returns false'. Refute it at one input. -/
def pushBoxesWrong : ChangeSpec := { name := "pushBoxes", fn := fun _ => fun
  | [d1, d2, d3, d4, d5, d6, d7] => { results := [.lit (.bool false)], args := [d1, d2, d3, d4, d5, d6, d7] }
  | _ => none }
def PushBoxesWrongFalsely : Prop := pushBoxesRow.holds Tryz.pinned (OpenSpec.ofChange pushBoxesWrong)

/-- 'bolidelaw08.PushContains': WHATEVER THE INPUT: true; the input reads as it did. -/
def pushContainsSpec : ChangeSpec := { name := "pushContains", fn := fun _ => fun
  | [d1, d2] => { results := [.lit (.bool true)], args := [d1, d2] }
  | _ => none }
def pushContainsRow : OpenClaim := { program := "ytiladlangkjoiaagreat", sum := "9b6bbaaf3a532a68ba2c5e30668e39d33e1c8df709b7f55680e10dbc7d016e54", func := "bolide/bolidelaw08.PushContains", spec := "pushContains", unfollowed := true, recurses := true, named := ["math/bits.divideError", "math/bits.overflowError"], apart := false }
def PushContainsSaid : Prop := pushContainsRow.holds Tryz.pinned (OpenSpec.ofChange pushContainsSpec)

/-- ITS FALSE NEIGHBOUR: 'it returns false'. Refute it at one input. -/
def pushContainsWrong : ChangeSpec := { name := "pushContains", fn := fun _ => fun
  | [d1, d2] => { results := [.lit (.bool false)], args := [d1, d2] }
  | _ => none }
def PushContainsWrongFalsely : Prop := pushContainsRow.holds Tryz.pinned (OpenSpec.ofChange pushContainsWrong)

/-- 'bolidelaw08.PushWindows': WHATEVER THE INPUT: true; the input reads as it did. -/
def pushWindowsSpec : ChangeSpec := { name := "pushWindows", fn := fun _ => fun
  | [d1, d2, d3, d4, d5, d6, d7] => { results := [.lit (.bool true)], args := [d1, d2, d3, d4, d5, d6, d7] }
  | _ => none }
def pushWindowsRow : OpenClaim := { program := "ytiladlangkjoiaagreat", sum := "9b6bbaaf3a532a68ba2c5e30668e39d33e1c8df709b7f55680e10dbc7d016e54", func := "bolide/bolidelaw08.PushWindows", spec := "pushWindows", unfollowed := true, recurses := true, named := ["math/bits.divideError", "math/bits.overflowError"], apart := false }
def PushWindowsSaid : Prop := pushWindowsRow.holds Tryz.pinned (OpenSpec.ofChange pushWindowsSpec)

/-- ITS FALSE NEIGHBOUR: 'it returns false'. Refute it at one input. -/
def pushWindowsWrong : ChangeSpec := { name := "pushWindows", fn := fun _ => fun
  | [d1, d2, d3, d4, d5, d6, d7] => { results := [.lit (.bool false)], args := [d1, d2, d3, d4, d5, d6, d7] }
  | _ => none }
def PushWindowsWrongFalsely : Prop := pushWindowsRow.holds Tryz.pinned (OpenSpec.ofChange pushWindowsWrong)

/-- 'bolidelaw08.PushChooses': WHATEVER THE INPUT: true; the input reads as it did. -/
def pushChoosesSpec : ChangeSpec := { name := "pushChooses", fn := fun _ => fun
  | [d1, d2, d3, d4, d5, d6] => { results := [.lit (.bool true)], args := [d1, d2, d3, d4, d5, d6] }
  | _ => none }
def pushChoosesRow : OpenClaim := { program := "ytiladlangkjoiaagreat", sum := "9b6bbaaf3a532a68ba2c5e30668e39d33e1c8df709b7f55680e10dbc7d016e54", func := "bolide/bolidelaw08.PushChooses", spec := "pushChooses", unfollowed := true, recurses := true, named := ["math/bits.divideError", "math/bits.overflowError"], apart := false }
def PushChoosesSaid : Prop := pushChoosesRow.holds Tryz.pinned (OpenSpec.ofChange pushChoosesSpec)

/-- ITS FALSE NEIGHBOUR: 'it returns false'. Refute it at one input. -/
def pushChoosesWrong : ChangeSpec := { name := "pushChooses", fn := fun _ => fun
  | [d1, d2, d3, d4, d5, d6] => { results := [.lit (.bool false)], args := [d1, d2, d3, d4, d5, d6] }
  | _ => none }
def PushChoosesWrongFalsely : Prop := pushChoosesRow.holds Tryz.pinned (OpenSpec.ofChange pushChoosesWrong)

/-- 'bolidelaw08.PushKnown': WHATEVER THE INPUT: true; the input reads as it did. -/
def pushKnownSpec : ChangeSpec := { name := "pushKnown", fn := fun _ => fun
  | [] => { results := [.lit (.bool true)], args := [] }
  | _ => none }
def pushKnownRow : OpenClaim := { program := "ytiladlangkjoiaagreat", sum := "9b6bbaaf3a532a68ba2c5e30668e39d33e1c8df709b7f55680e10dbc7d016e54", func := "bolide/bolidelaw08.PushKnown", spec := "pushKnown", unfollowed := true, recurses := true, named := ["math/bits.divideError", "math/bits.overflowError"], apart := false }
def PushKnownSaid : Prop := pushKnownRow.holds Tryz.pinned (OpenSpec.ofChange pushKnownSpec)

/-- ITS FALSE NEIGHBOUR: 'it returns false'. Refute it at one input. -/
def pushKnownWrong : ChangeSpec := { name := "pushKnown", fn := fun _ => fun
  | [] => { results := [.lit (.bool false)], args := [] }
  | _ => none }
def PushKnownWrongFalsely : Prop := pushKnownRow.holds Tryz.pinned (OpenSpec.ofChange pushKnownWrong)

/-- 'bolidelaw08.PushLess': WHATEVER THE INPUT: true; the input reads as it did. -/
def pushLessSpec : ChangeSpec := { name := "pushLess", fn := fun _ => fun
  | [d1, d2, d3, d4, d5] => { results := [.lit (.bool true)], args := [d1, d2, d3, d4, d5] }
  | _ => none }
def pushLessRow : OpenClaim := { program := "ytiladlangkjoiaagreat", sum := "9b6bbaaf3a532a68ba2c5e30668e39d33e1c8df709b7f55680e10dbc7d016e54", func := "bolide/bolidelaw08.PushLess", spec := "pushLess", inPlace := ["slices.overlaps[bolide/api.Box]"], unfollowed := true, recurses := true, named := ["math/bits.divideError", "math/bits.overflowError"], apart := false }
def PushLessSaid : Prop := pushLessRow.holds Tryz.pinned (OpenSpec.ofChange pushLessSpec)

/-- ITS FALSE NEIGHBOUR: 'it returns false'. Refute it at one input. -/
def pushLessWrong : ChangeSpec := { name := "pushLess", fn := fun _ => fun
  | [d1, d2, d3, d4, d5] => { results := [.lit (.bool false)], args := [d1, d2, d3, d4, d5] }
  | _ => none }
def PushLessWrongFalsely : Prop := pushLessRow.holds Tryz.pinned (OpenSpec.ofChange pushLessWrong)

/-- 'bolidelaw08.PushFirst': WHATEVER THE INPUT: true; the input reads as it did. -/
def pushFirstSpec : ChangeSpec := { name := "pushFirst", fn := fun _ => fun
  | [d1, d2] => { results := [.lit (.bool true)], args := [d1, d2] }
  | _ => none }
def pushFirstRow : OpenClaim := { program := "ytiladlangkjoiaagreat", sum := "9b6bbaaf3a532a68ba2c5e30668e39d33e1c8df709b7f55680e10dbc7d016e54", func := "bolide/bolidelaw08.PushFirst", spec := "pushFirst", inPlace := ["slices.overlaps[bolide/api.Box]"], unfollowed := true, recurses := true, named := ["math/bits.divideError", "math/bits.overflowError"], apart := false }
def PushFirstSaid : Prop := pushFirstRow.holds Tryz.pinned (OpenSpec.ofChange pushFirstSpec)

/-- ITS FALSE NEIGHBOUR: 'it returns false'. Refute it at one input. -/
def pushFirstWrong : ChangeSpec := { name := "pushFirst", fn := fun _ => fun
  | [d1, d2] => { results := [.lit (.bool false)], args := [d1, d2] }
  | _ => none }
def PushFirstWrongFalsely : Prop := pushFirstRow.holds Tryz.pinned (OpenSpec.ofChange pushFirstWrong)

/-- 'bolidelaw08.PushOpens': WHATEVER THE INPUT: true; the input reads as it did. -/
def pushOpensSpec : ChangeSpec := { name := "pushOpens", fn := fun _ => fun
  | [d1, d2, d3, d4, d5] => { results := [.lit (.bool true)], args := [d1, d2, d3, d4, d5] }
  | _ => none }
def pushOpensRow : OpenClaim := { program := "ytiladlangkjoiaagreat", sum := "9b6bbaaf3a532a68ba2c5e30668e39d33e1c8df709b7f55680e10dbc7d016e54", func := "bolide/bolidelaw08.PushOpens", spec := "pushOpens", inPlace := ["slices.overlaps[bolide/api.Box]"], unfollowed := true, recurses := true, named := ["math/bits.divideError", "math/bits.overflowError"], apart := false }
def PushOpensSaid : Prop := pushOpensRow.holds Tryz.pinned (OpenSpec.ofChange pushOpensSpec)

/-- ITS FALSE NEIGHBOUR: 'it returns false'. Refute it at one input. -/
def pushOpensWrong : ChangeSpec := { name := "pushOpens", fn := fun _ => fun
  | [d1, d2, d3, d4, d5] => { results := [.lit (.bool false)], args := [d1, d2, d3, d4, d5] }
  | _ => none }
def PushOpensWrongFalsely : Prop := pushOpensRow.holds Tryz.pinned (OpenSpec.ofChange pushOpensWrong)

/-- 'bolidelaw08.PushWorth': WHATEVER THE INPUT: true; the input reads as it did. -/
def pushWorthSpec : ChangeSpec := { name := "pushWorth", fn := fun _ => fun
  | [d1, d2, d3] => { results := [.lit (.bool true)], args := [d1, d2, d3] }
  | _ => none }
def pushWorthRow : OpenClaim := { program := "ytiladlangkjoiaagreat", sum := "9b6bbaaf3a532a68ba2c5e30668e39d33e1c8df709b7f55680e10dbc7d016e54", func := "bolide/bolidelaw08.PushWorth", spec := "pushWorth", inPlace := ["slices.overlaps[bolide/api.Box]"], unfollowed := true, recurses := true, named := ["math/bits.divideError", "math/bits.overflowError"], apart := false }
def PushWorthSaid : Prop := pushWorthRow.holds Tryz.pinned (OpenSpec.ofChange pushWorthSpec)

/-- ITS FALSE NEIGHBOUR: 'it returns false'. Refute it at one input. -/
def pushWorthWrong : ChangeSpec := { name := "pushWorth", fn := fun _ => fun
  | [d1, d2, d3] => { results := [.lit (.bool false)], args := [d1, d2, d3] }
  | _ => none }
def PushWorthWrongFalsely : Prop := pushWorthRow.holds Tryz.pinned (OpenSpec.ofChange pushWorthWrong)

/-- 'bolidelaw08.PushSafe': WHATEVER THE INPUT: true; the input reads as it did. -/
def pushSafeSpec : ChangeSpec := { name := "pushSafe", fn := fun _ => fun
  | [d1, d2, d3] => { results := [.lit (.bool true)], args := [d1, d2, d3] }
  | _ => none }
def pushSafeRow : OpenClaim := { program := "ytiladlangkjoiaagreat", sum := "9b6bbaaf3a532a68ba2c5e30668e39d33e1c8df709b7f55680e10dbc7d016e54", func := "bolide/bolidelaw08.PushSafe", spec := "pushSafe", inPlace := ["slices.overlaps[bolide/api.Box]"], unfollowed := true, recurses := true, named := ["math/bits.divideError", "math/bits.overflowError"], apart := false }
def PushSafeSaid : Prop := pushSafeRow.holds Tryz.pinned (OpenSpec.ofChange pushSafeSpec)

/-- ITS FALSE NEIGHBOUR: 'it returns false'. Refute it at one input. -/
def pushSafeWrong : ChangeSpec := { name := "pushSafe", fn := fun _ => fun
  | [d1, d2, d3] => { results := [.lit (.bool false)], args := [d1, d2, d3] }
  | _ => none }
def PushSafeWrongFalsely : Prop := pushSafeRow.holds Tryz.pinned (OpenSpec.ofChange pushSafeWrong)

/- THE SECOND FORM. 'bulk': how many values and letters a reading holds, each counted each time it is reached (what is shared counts as often as it is met; a slice's spare places count too). A statement '..UptoSaid' is the law's where the arguments, and the package variables that the reading takes, are together of bulk at most 1048576: NARROWER than '..Said'. Prove '..Said' where nothing that the law and all that it calls make is longer than what came in: it says more and counts as full. Else prove '..UptoSaid'. A law counts once. -/
mutual
def uptoBulk {H : Type} : DataW H → Nat
  | .lit (.string bytes) => bytes.length + 1
  | .lit _ => 1
  | .nil => 1
  | .ptr d => uptoBulk d + 1
  | .slice elems spare => uptoBulkAll elems + uptoBulkAll spare + 1
  | .agg parts => uptoBulkAll parts + 1
  | .iface _ d => uptoBulk d + 1
  | .map entries => uptoBulkEntries entries + 1
  | .held _ => 1
def uptoBulkAll {H : Type} : List (DataW H) → Nat
  | [] => 0
  | d :: r => uptoBulk d + uptoBulkAll r
def uptoBulkEntries {H : Type} : List (Lit × DataW H) → Nat
  | [] => 0
  | x :: r => uptoBulkEntry x + uptoBulkEntries r
def uptoBulkEntry {H : Type} : Lit × DataW H → Nat
  | (.string bytes, d) => bytes.length + uptoBulk d + 1
  | (_, d) => uptoBulk d + 1
 end
def uptoSmall : (H : Type) → List (DataW H) → Bool := fun _ ds => decide (uptoBulkAll ds ≤ 1048576)
def OpenSpec.upto (s : _root_.Go.ChangeSpec) : _root_.Go.OpenSpec := { _root_.Go.OpenSpec.ofChange s with cond := some uptoSmall }

/-- 'bolidelaw08.PushChecks', WHERE WHAT IT READS IS OF BULK AT MOST 1048576: true; the input reads as it did. -/
def pushChecksUptoRow : OpenClaim := { program := "ytiladlangkjoiaagreat", sum := "9b6bbaaf3a532a68ba2c5e30668e39d33e1c8df709b7f55680e10dbc7d016e54", func := "bolide/bolidelaw08.PushChecks", spec := "pushChecks", unfollowed := true, recurses := true, named := ["math/bits.divideError", "math/bits.overflowError"], apart := false, narrowed := true }
def PushChecksUptoSaid : Prop := pushChecksUptoRow.holds Tryz.pinned (OpenSpec.upto pushChecksSpec)

/-- 'bolidelaw08.PushDoes', WHERE WHAT IT READS IS OF BULK AT MOST 1048576: true; the input reads as it did. -/
def pushDoesUptoRow : OpenClaim := { program := "ytiladlangkjoiaagreat", sum := "9b6bbaaf3a532a68ba2c5e30668e39d33e1c8df709b7f55680e10dbc7d016e54", func := "bolide/bolidelaw08.PushDoes", spec := "pushDoes", unfollowed := true, recurses := true, named := ["math/bits.divideError", "math/bits.overflowError"], apart := false, narrowed := true }
def PushDoesUptoSaid : Prop := pushDoesUptoRow.holds Tryz.pinned (OpenSpec.upto pushDoesSpec)

/-- 'bolidelaw08.PushVerifies', WHERE WHAT IT READS IS OF BULK AT MOST 1048576: true; the input reads as it did. -/
def pushVerifiesUptoRow : OpenClaim := { program := "ytiladlangkjoiaagreat", sum := "9b6bbaaf3a532a68ba2c5e30668e39d33e1c8df709b7f55680e10dbc7d016e54", func := "bolide/bolidelaw08.PushVerifies", spec := "pushVerifies", unfollowed := true, recurses := true, named := ["math/bits.divideError", "math/bits.overflowError"], apart := false, narrowed := true }
def PushVerifiesUptoSaid : Prop := pushVerifiesUptoRow.holds Tryz.pinned (OpenSpec.upto pushVerifiesSpec)

/-- 'bolidelaw08.PushNothing', WHERE WHAT IT READS IS OF BULK AT MOST 1048576: true; the input reads as it did. -/
def pushNothingUptoRow : OpenClaim := { program := "ytiladlangkjoiaagreat", sum := "9b6bbaaf3a532a68ba2c5e30668e39d33e1c8df709b7f55680e10dbc7d016e54", func := "bolide/bolidelaw08.PushNothing", spec := "pushNothing", unfollowed := true, recurses := true, named := ["math/bits.divideError", "math/bits.overflowError"], apart := false, narrowed := true }
def PushNothingUptoSaid : Prop := pushNothingUptoRow.holds Tryz.pinned (OpenSpec.upto pushNothingSpec)

/-- 'bolidelaw08.PushFails', WHERE WHAT IT READS IS OF BULK AT MOST 1048576: true; the input reads as it did. -/
def pushFailsUptoRow : OpenClaim := { program := "ytiladlangkjoiaagreat", sum := "9b6bbaaf3a532a68ba2c5e30668e39d33e1c8df709b7f55680e10dbc7d016e54", func := "bolide/bolidelaw08.PushFails", spec := "pushFails", unfollowed := true, recurses := true, named := ["math/bits.divideError", "math/bits.overflowError"], apart := false, narrowed := true }
def PushFailsUptoSaid : Prop := pushFailsUptoRow.holds Tryz.pinned (OpenSpec.upto pushFailsSpec)

/-- 'bolidelaw08.PushSets', WHERE WHAT IT READS IS OF BULK AT MOST 1048576: true; the input reads as it did. -/
def pushSetsUptoRow : OpenClaim := { program := "ytiladlangkjoiaagreat", sum := "9b6bbaaf3a532a68ba2c5e30668e39d33e1c8df709b7f55680e10dbc7d016e54", func := "bolide/bolidelaw08.PushSets", spec := "pushSets", unfollowed := true, recurses := true, named := ["math/bits.divideError", "math/bits.overflowError"], apart := false, narrowed := true }
def PushSetsUptoSaid : Prop := pushSetsUptoRow.holds Tryz.pinned (OpenSpec.upto pushSetsSpec)

/-- 'bolidelaw08.PushBoxes', WHERE WHAT IT READS IS OF BULK AT MOST 1048576: true; the input reads as it did. -/
def pushBoxesUptoRow : OpenClaim := { program := "ytiladlangkjoiaagreat", sum := "9b6bbaaf3a532a68ba2c5e30668e39d33e1c8df709b7f55680e10dbc7d016e54", func := "bolide/bolidelaw08.PushBoxes", spec := "pushBoxes", unfollowed := true, recurses := true, named := ["math/bits.divideError", "math/bits.overflowError"], apart := false, narrowed := true }
def PushBoxesUptoSaid : Prop := pushBoxesUptoRow.holds Tryz.pinned (OpenSpec.upto pushBoxesSpec)

/-- 'bolidelaw08.PushContains', WHERE WHAT IT READS IS OF BULK AT MOST 1048576: true; the input reads as it did. -/
def pushContainsUptoRow : OpenClaim := { program := "ytiladlangkjoiaagreat", sum := "9b6bbaaf3a532a68ba2c5e30668e39d33e1c8df709b7f55680e10dbc7d016e54", func := "bolide/bolidelaw08.PushContains", spec := "pushContains", unfollowed := true, recurses := true, named := ["math/bits.divideError", "math/bits.overflowError"], apart := false, narrowed := true }
def PushContainsUptoSaid : Prop := pushContainsUptoRow.holds Tryz.pinned (OpenSpec.upto pushContainsSpec)

/-- 'bolidelaw08.PushWindows', WHERE WHAT IT READS IS OF BULK AT MOST 1048576: true; the input reads as it did. -/
def pushWindowsUptoRow : OpenClaim := { program := "ytiladlangkjoiaagreat", sum := "9b6bbaaf3a532a68ba2c5e30668e39d33e1c8df709b7f55680e10dbc7d016e54", func := "bolide/bolidelaw08.PushWindows", spec := "pushWindows", unfollowed := true, recurses := true, named := ["math/bits.divideError", "math/bits.overflowError"], apart := false, narrowed := true }
def PushWindowsUptoSaid : Prop := pushWindowsUptoRow.holds Tryz.pinned (OpenSpec.upto pushWindowsSpec)

/-- 'bolidelaw08.PushChooses', WHERE WHAT IT READS IS OF BULK AT MOST 1048576: true; the input reads as it did. -/
def pushChoosesUptoRow : OpenClaim := { program := "ytiladlangkjoiaagreat", sum := "9b6bbaaf3a532a68ba2c5e30668e39d33e1c8df709b7f55680e10dbc7d016e54", func := "bolide/bolidelaw08.PushChooses", spec := "pushChooses", unfollowed := true, recurses := true, named := ["math/bits.divideError", "math/bits.overflowError"], apart := false, narrowed := true }
def PushChoosesUptoSaid : Prop := pushChoosesUptoRow.holds Tryz.pinned (OpenSpec.upto pushChoosesSpec)

/-- 'bolidelaw08.PushKnown', WHERE WHAT IT READS IS OF BULK AT MOST 1048576: true; the input reads as it did. -/
def pushKnownUptoRow : OpenClaim := { program := "ytiladlangkjoiaagreat", sum := "9b6bbaaf3a532a68ba2c5e30668e39d33e1c8df709b7f55680e10dbc7d016e54", func := "bolide/bolidelaw08.PushKnown", spec := "pushKnown", unfollowed := true, recurses := true, named := ["math/bits.divideError", "math/bits.overflowError"], apart := false, narrowed := true }
def PushKnownUptoSaid : Prop := pushKnownUptoRow.holds Tryz.pinned (OpenSpec.upto pushKnownSpec)

/-- 'bolidelaw08.PushLess', WHERE WHAT IT READS IS OF BULK AT MOST 1048576: true; the input reads as it did. -/
def pushLessUptoRow : OpenClaim := { program := "ytiladlangkjoiaagreat", sum := "9b6bbaaf3a532a68ba2c5e30668e39d33e1c8df709b7f55680e10dbc7d016e54", func := "bolide/bolidelaw08.PushLess", spec := "pushLess", inPlace := ["slices.overlaps[bolide/api.Box]"], unfollowed := true, recurses := true, named := ["math/bits.divideError", "math/bits.overflowError"], apart := false, narrowed := true }
def PushLessUptoSaid : Prop := pushLessUptoRow.holds Tryz.pinned (OpenSpec.upto pushLessSpec)

/-- 'bolidelaw08.PushFirst', WHERE WHAT IT READS IS OF BULK AT MOST 1048576: true; the input reads as it did. -/
def pushFirstUptoRow : OpenClaim := { program := "ytiladlangkjoiaagreat", sum := "9b6bbaaf3a532a68ba2c5e30668e39d33e1c8df709b7f55680e10dbc7d016e54", func := "bolide/bolidelaw08.PushFirst", spec := "pushFirst", inPlace := ["slices.overlaps[bolide/api.Box]"], unfollowed := true, recurses := true, named := ["math/bits.divideError", "math/bits.overflowError"], apart := false, narrowed := true }
def PushFirstUptoSaid : Prop := pushFirstUptoRow.holds Tryz.pinned (OpenSpec.upto pushFirstSpec)

/-- 'bolidelaw08.PushOpens', WHERE WHAT IT READS IS OF BULK AT MOST 1048576: true; the input reads as it did. -/
def pushOpensUptoRow : OpenClaim := { program := "ytiladlangkjoiaagreat", sum := "9b6bbaaf3a532a68ba2c5e30668e39d33e1c8df709b7f55680e10dbc7d016e54", func := "bolide/bolidelaw08.PushOpens", spec := "pushOpens", inPlace := ["slices.overlaps[bolide/api.Box]"], unfollowed := true, recurses := true, named := ["math/bits.divideError", "math/bits.overflowError"], apart := false, narrowed := true }
def PushOpensUptoSaid : Prop := pushOpensUptoRow.holds Tryz.pinned (OpenSpec.upto pushOpensSpec)

/-- 'bolidelaw08.PushWorth', WHERE WHAT IT READS IS OF BULK AT MOST 1048576: true; the input reads as it did. -/
def pushWorthUptoRow : OpenClaim := { program := "ytiladlangkjoiaagreat", sum := "9b6bbaaf3a532a68ba2c5e30668e39d33e1c8df709b7f55680e10dbc7d016e54", func := "bolide/bolidelaw08.PushWorth", spec := "pushWorth", inPlace := ["slices.overlaps[bolide/api.Box]"], unfollowed := true, recurses := true, named := ["math/bits.divideError", "math/bits.overflowError"], apart := false, narrowed := true }
def PushWorthUptoSaid : Prop := pushWorthUptoRow.holds Tryz.pinned (OpenSpec.upto pushWorthSpec)

/-- 'bolidelaw08.PushSafe', WHERE WHAT IT READS IS OF BULK AT MOST 1048576: true; the input reads as it did. -/
def pushSafeUptoRow : OpenClaim := { program := "ytiladlangkjoiaagreat", sum := "9b6bbaaf3a532a68ba2c5e30668e39d33e1c8df709b7f55680e10dbc7d016e54", func := "bolide/bolidelaw08.PushSafe", spec := "pushSafe", inPlace := ["slices.overlaps[bolide/api.Box]"], unfollowed := true, recurses := true, named := ["math/bits.divideError", "math/bits.overflowError"], apart := false, narrowed := true }
def PushSafeUptoSaid : Prop := pushSafeUptoRow.holds Tryz.pinned (OpenSpec.upto pushSafeSpec)

end Rows
end Go.Proofs.YtiladlangkjoiaaGreat
