/-
  No cell of these rows narrows 'for every input' (looked for: loops, veiled, ifaces, maps, wideKeys, modest, calm, conditions, laid).
  DERIVED. THE GIVEN ROWS OF THIS SEAT. 14 by the template 'for every input the law returns true; each argument reads behind the call as it read before'; 0 by the template 'total and deterministic' (their statements: YtmgjjgmadiabfaaTotals.lean).
  GIVEN WITH THE SEED: the statements are not yours to turn. If you find one false, say at which input.
  Laid BY PROGRAM, IN A SANDBOX (cutbox-rows.mjs): the forced cells as the released guide's own fill.sh prints them over the translation ab819087e1272c66… (all of the seat's roots in one cut). By AI agents, Wed Nov 11 2026. No macro, syntax, notation, axiom, sorry.
-/
import Derived.Test.YtmgjjgmadiabfaaChecked
import GoSem.Claim
import GoSem.ClaimJoined
import GoSem.ClaimMapViews
import Derived.JoinedTies
import Derived.KernelRfl
namespace Go.Proofs.Ytmgjjgmadiabfaa
/- THE CELL 'sum', in the pinned program and in every row, IS THE sha256 OF THE DUMP (.gsa) THAT YtmgjjgmadiabfaaProg.lean LOADS. Nothing in Lean hashes anything: it is a label: what it is worth is what the hold of that sum in a sandbox is worth. -/
noncomputable def Try.pinned : Pinned := { name := "ytmgjjgmadiabfaa", sum := "ab819087e1272c66de741b6e3e1cafd064214cf5ddc16fd553bf6e80acad596b", checked := Try.checked }
namespace Rows
def none {H : Type} : Left H := { results := [], args := [] }

/-- 'bolidelaw02.SkySights': WHATEVER THE INPUT: true; the input reads as it did. -/
def skySightsSpec : ChangeSpec := { name := "skySights", fn := fun _ => fun
  | [d1, d2, d3] => { results := [.lit (.bool true)], args := [d1, d2, d3] }
  | _ => none }
def skySightsRow : OpenClaim := { program := "ytmgjjgmadiabfaa", sum := "ab819087e1272c66de741b6e3e1cafd064214cf5ddc16fd553bf6e80acad596b", func := "bolide/bolidelaw02.SkySights", spec := "skySights", unfollowed := true, recurses := true, apart := false }
def SkySightsSaid : Prop := skySightsRow.holds Try.pinned (OpenSpec.ofChange skySightsSpec)

/-- ITS FALSE NEIGHBOUR: 'it returns false'. Refute it at one input. -/
def skySightsWrong : ChangeSpec := { name := "skySights", fn := fun _ => fun
  | [d1, d2, d3] => { results := [.lit (.bool false)], args := [d1, d2, d3] }
  | _ => none }
def SkySightsWrongFalsely : Prop := skySightsRow.holds Try.pinned (OpenSpec.ofChange skySightsWrong)

/-- 'bolidelaw02.SkyLooks': WHATEVER THE INPUT: true; the input reads as it did. -/
def skyLooksSpec : ChangeSpec := { name := "skyLooks", fn := fun _ => fun
  | [d1, d2, d3] => { results := [.lit (.bool true)], args := [d1, d2, d3] }
  | _ => none }
def skyLooksRow : OpenClaim := { program := "ytmgjjgmadiabfaa", sum := "ab819087e1272c66de741b6e3e1cafd064214cf5ddc16fd553bf6e80acad596b", func := "bolide/bolidelaw02.SkyLooks", spec := "skyLooks", unfollowed := true, recurses := true, apart := false }
def SkyLooksSaid : Prop := skyLooksRow.holds Try.pinned (OpenSpec.ofChange skyLooksSpec)

/-- ITS FALSE NEIGHBOUR: 'it returns false'. Refute it at one input. -/
def skyLooksWrong : ChangeSpec := { name := "skyLooks", fn := fun _ => fun
  | [d1, d2, d3] => { results := [.lit (.bool false)], args := [d1, d2, d3] }
  | _ => none }
def SkyLooksWrongFalsely : Prop := skyLooksRow.holds Try.pinned (OpenSpec.ofChange skyLooksWrong)

/-- 'bolidelaw02.SkyChecks': WHATEVER THE INPUT: true; the input reads as it did. -/
def skyChecksSpec : ChangeSpec := { name := "skyChecks", fn := fun _ => fun
  | [d1, d2, d3, d4] => { results := [.lit (.bool true)], args := [d1, d2, d3, d4] }
  | _ => none }
def skyChecksRow : OpenClaim := { program := "ytmgjjgmadiabfaa", sum := "ab819087e1272c66de741b6e3e1cafd064214cf5ddc16fd553bf6e80acad596b", func := "bolide/bolidelaw02.SkyChecks", spec := "skyChecks", unfollowed := true, recurses := true, apart := false }
def SkyChecksSaid : Prop := skyChecksRow.holds Try.pinned (OpenSpec.ofChange skyChecksSpec)

/-- ITS FALSE NEIGHBOUR: 'it returns false'. Refute it at one input. -/
def skyChecksWrong : ChangeSpec := { name := "skyChecks", fn := fun _ => fun
  | [d1, d2, d3, d4] => { results := [.lit (.bool false)], args := [d1, d2, d3, d4] }
  | _ => none }
def SkyChecksWrongFalsely : Prop := skyChecksRow.holds Try.pinned (OpenSpec.ofChange skyChecksWrong)

/-- 'bolidelaw02.SkyMisses': WHATEVER THE INPUT: true; the input reads as it did. -/
def skyMissesSpec : ChangeSpec := { name := "skyMisses", fn := fun _ => fun
  | [d1, d2, d3, d4] => { results := [.lit (.bool true)], args := [d1, d2, d3, d4] }
  | _ => none }
def skyMissesRow : OpenClaim := { program := "ytmgjjgmadiabfaa", sum := "ab819087e1272c66de741b6e3e1cafd064214cf5ddc16fd553bf6e80acad596b", func := "bolide/bolidelaw02.SkyMisses", spec := "skyMisses", unfollowed := true, recurses := true, apart := false }
def SkyMissesSaid : Prop := skyMissesRow.holds Try.pinned (OpenSpec.ofChange skyMissesSpec)

/-- ITS FALSE NEIGHBOUR: 'it returns false'. Refute it at one input. -/
def skyMissesWrong : ChangeSpec := { name := "skyMisses", fn := fun _ => fun
  | [d1, d2, d3, d4] => { results := [.lit (.bool false)], args := [d1, d2, d3, d4] }
  | _ => none }
def SkyMissesWrongFalsely : Prop := skyMissesRow.holds Try.pinned (OpenSpec.ofChange skyMissesWrong)

/-- 'bolidelaw02.SkyExcludes': WHATEVER THE INPUT: true; the input reads as it did. -/
def skyExcludesSpec : ChangeSpec := { name := "skyExcludes", fn := fun _ => fun
  | [d1, d2, d3] => { results := [.lit (.bool true)], args := [d1, d2, d3] }
  | _ => none }
def skyExcludesRow : OpenClaim := { program := "ytmgjjgmadiabfaa", sum := "ab819087e1272c66de741b6e3e1cafd064214cf5ddc16fd553bf6e80acad596b", func := "bolide/bolidelaw02.SkyExcludes", spec := "skyExcludes", unfollowed := true, recurses := true, apart := false }
def SkyExcludesSaid : Prop := skyExcludesRow.holds Try.pinned (OpenSpec.ofChange skyExcludesSpec)

/-- ITS FALSE NEIGHBOUR: 'it returns false'. Refute it at one input. -/
def skyExcludesWrong : ChangeSpec := { name := "skyExcludes", fn := fun _ => fun
  | [d1, d2, d3] => { results := [.lit (.bool false)], args := [d1, d2, d3] }
  | _ => none }
def SkyExcludesWrongFalsely : Prop := skyExcludesRow.holds Try.pinned (OpenSpec.ofChange skyExcludesWrong)

/-- 'bolidelaw02.SkyOutside': WHATEVER THE INPUT: true; the input reads as it did. -/
def skyOutsideSpec : ChangeSpec := { name := "skyOutside", fn := fun _ => fun
  | [d1, d2, d3, d4, d5, d6, d7] => { results := [.lit (.bool true)], args := [d1, d2, d3, d4, d5, d6, d7] }
  | _ => none }
def skyOutsideRow : OpenClaim := { program := "ytmgjjgmadiabfaa", sum := "ab819087e1272c66de741b6e3e1cafd064214cf5ddc16fd553bf6e80acad596b", func := "bolide/bolidelaw02.SkyOutside", spec := "skyOutside", unfollowed := true, recurses := true, apart := false }
def SkyOutsideSaid : Prop := skyOutsideRow.holds Try.pinned (OpenSpec.ofChange skyOutsideSpec)

/-- ITS FALSE NEIGHBOUR: 'it returns false'. Refute it at one input. -/
def skyOutsideWrong : ChangeSpec := { name := "skyOutside", fn := fun _ => fun
  | [d1, d2, d3, d4, d5, d6, d7] => { results := [.lit (.bool false)], args := [d1, d2, d3, d4, d5, d6, d7] }
  | _ => none }
def SkyOutsideWrongFalsely : Prop := skyOutsideRow.holds Try.pinned (OpenSpec.ofChange skyOutsideWrong)

/-- 'bolidelaw02.SkyMoved': WHATEVER THE INPUT: true; the input reads as it did. -/
def skyMovedSpec : ChangeSpec := { name := "skyMoved", fn := fun _ => fun
  | [d1, d2, d3, d4, d5, d6] => { results := [.lit (.bool true)], args := [d1, d2, d3, d4, d5, d6] }
  | _ => none }
def skyMovedRow : OpenClaim := { program := "ytmgjjgmadiabfaa", sum := "ab819087e1272c66de741b6e3e1cafd064214cf5ddc16fd553bf6e80acad596b", func := "bolide/bolidelaw02.SkyMoved", spec := "skyMoved", unfollowed := true, recurses := true, apart := false }
def SkyMovedSaid : Prop := skyMovedRow.holds Try.pinned (OpenSpec.ofChange skyMovedSpec)

/-- ITS FALSE NEIGHBOUR: 'it returns false'. Refute it at one input. -/
def skyMovedWrong : ChangeSpec := { name := "skyMoved", fn := fun _ => fun
  | [d1, d2, d3, d4, d5, d6] => { results := [.lit (.bool false)], args := [d1, d2, d3, d4, d5, d6] }
  | _ => none }
def SkyMovedWrongFalsely : Prop := skyMovedRow.holds Try.pinned (OpenSpec.ofChange skyMovedWrong)

/-- 'bolidelaw02.SkyBelieves': WHATEVER THE INPUT: true; the input reads as it did. -/
def skyBelievesSpec : ChangeSpec := { name := "skyBelieves", fn := fun _ => fun
  | [d1, d2, d3, d4] => { results := [.lit (.bool true)], args := [d1, d2, d3, d4] }
  | _ => none }
def skyBelievesRow : OpenClaim := { program := "ytmgjjgmadiabfaa", sum := "ab819087e1272c66de741b6e3e1cafd064214cf5ddc16fd553bf6e80acad596b", func := "bolide/bolidelaw02.SkyBelieves", spec := "skyBelieves", unfollowed := true, recurses := true, apart := false }
def SkyBelievesSaid : Prop := skyBelievesRow.holds Try.pinned (OpenSpec.ofChange skyBelievesSpec)

/-- ITS FALSE NEIGHBOUR: 'it returns false'. Refute it at one input. -/
def skyBelievesWrong : ChangeSpec := { name := "skyBelieves", fn := fun _ => fun
  | [d1, d2, d3, d4] => { results := [.lit (.bool false)], args := [d1, d2, d3, d4] }
  | _ => none }
def SkyBelievesWrongFalsely : Prop := skyBelievesRow.holds Try.pinned (OpenSpec.ofChange skyBelievesWrong)

/-- 'bolidelaw02.SkyRight': WHATEVER THE INPUT: true; the input reads as it did. -/
def skyRightSpec : ChangeSpec := { name := "skyRight", fn := fun _ => fun
  | [d1, d2, d3] => { results := [.lit (.bool true)], args := [d1, d2, d3] }
  | _ => none }
def skyRightRow : OpenClaim := { program := "ytmgjjgmadiabfaa", sum := "ab819087e1272c66de741b6e3e1cafd064214cf5ddc16fd553bf6e80acad596b", func := "bolide/bolidelaw02.SkyRight", spec := "skyRight", unfollowed := true, recurses := true, apart := false }
def SkyRightSaid : Prop := skyRightRow.holds Try.pinned (OpenSpec.ofChange skyRightSpec)

/-- ITS FALSE NEIGHBOUR: 'it returns false'. Refute it at one input. -/
def skyRightWrong : ChangeSpec := { name := "skyRight", fn := fun _ => fun
  | [d1, d2, d3] => { results := [.lit (.bool false)], args := [d1, d2, d3] }
  | _ => none }
def SkyRightWrongFalsely : Prop := skyRightRow.holds Try.pinned (OpenSpec.ofChange skyRightWrong)

/-- 'bolidelaw02.SkyGroups': WHATEVER THE INPUT: true; the input reads as it did. -/
def skyGroupsSpec : ChangeSpec := { name := "skyGroups", fn := fun _ => fun
  | [d1, d2, d3, d4] => { results := [.lit (.bool true)], args := [d1, d2, d3, d4] }
  | _ => none }
def skyGroupsRow : OpenClaim := { program := "ytmgjjgmadiabfaa", sum := "ab819087e1272c66de741b6e3e1cafd064214cf5ddc16fd553bf6e80acad596b", func := "bolide/bolidelaw02.SkyGroups", spec := "skyGroups", unfollowed := true, recurses := true, apart := false }
def SkyGroupsSaid : Prop := skyGroupsRow.holds Try.pinned (OpenSpec.ofChange skyGroupsSpec)

/-- ITS FALSE NEIGHBOUR: 'it returns false'. Refute it at one input. -/
def skyGroupsWrong : ChangeSpec := { name := "skyGroups", fn := fun _ => fun
  | [d1, d2, d3, d4] => { results := [.lit (.bool false)], args := [d1, d2, d3, d4] }
  | _ => none }
def SkyGroupsWrongFalsely : Prop := skyGroupsRow.holds Try.pinned (OpenSpec.ofChange skyGroupsWrong)

/-- 'bolidelaw02.SkyParts': WHATEVER THE INPUT: true; the input reads as it did. -/
def skyPartsSpec : ChangeSpec := { name := "skyParts", fn := fun _ => fun
  | [d] => { results := [.lit (.bool true)], args := [d] }
  | _ => none }
def skyPartsRow : OpenClaim := { program := "ytmgjjgmadiabfaa", sum := "ab819087e1272c66de741b6e3e1cafd064214cf5ddc16fd553bf6e80acad596b", func := "bolide/bolidelaw02.SkyParts", spec := "skyParts", unfollowed := true, recurses := true, apart := false }
def SkyPartsSaid : Prop := skyPartsRow.holds Try.pinned (OpenSpec.ofChange skyPartsSpec)

/-- ITS FALSE NEIGHBOUR: 'it returns false'. Refute it at one input. -/
def skyPartsWrong : ChangeSpec := { name := "skyParts", fn := fun _ => fun
  | [d] => { results := [.lit (.bool false)], args := [d] }
  | _ => none }
def SkyPartsWrongFalsely : Prop := skyPartsRow.holds Try.pinned (OpenSpec.ofChange skyPartsWrong)

/-- 'bolidelaw02.SkyLinks': WHATEVER THE INPUT: true; the input reads as it did. -/
def skyLinksSpec : ChangeSpec := { name := "skyLinks", fn := fun _ => fun
  | [d1, d2, d3, d4, d5] => { results := [.lit (.bool true)], args := [d1, d2, d3, d4, d5] }
  | _ => none }
def skyLinksRow : OpenClaim := { program := "ytmgjjgmadiabfaa", sum := "ab819087e1272c66de741b6e3e1cafd064214cf5ddc16fd553bf6e80acad596b", func := "bolide/bolidelaw02.SkyLinks", spec := "skyLinks", unfollowed := true, recurses := true, apart := false }
def SkyLinksSaid : Prop := skyLinksRow.holds Try.pinned (OpenSpec.ofChange skyLinksSpec)

/-- ITS FALSE NEIGHBOUR: 'it returns false'. Refute it at one input. -/
def skyLinksWrong : ChangeSpec := { name := "skyLinks", fn := fun _ => fun
  | [d1, d2, d3, d4, d5] => { results := [.lit (.bool false)], args := [d1, d2, d3, d4, d5] }
  | _ => none }
def SkyLinksWrongFalsely : Prop := skyLinksRow.holds Try.pinned (OpenSpec.ofChange skyLinksWrong)

/-- 'bolidelaw02.SkyJoins': WHATEVER THE INPUT: true; the input reads as it did. -/
def skyJoinsSpec : ChangeSpec := { name := "skyJoins", fn := fun _ => fun
  | [d1, d2, d3] => { results := [.lit (.bool true)], args := [d1, d2, d3] }
  | _ => none }
def skyJoinsRow : OpenClaim := { program := "ytmgjjgmadiabfaa", sum := "ab819087e1272c66de741b6e3e1cafd064214cf5ddc16fd553bf6e80acad596b", func := "bolide/bolidelaw02.SkyJoins", spec := "skyJoins", unfollowed := true, recurses := true, apart := false }
def SkyJoinsSaid : Prop := skyJoinsRow.holds Try.pinned (OpenSpec.ofChange skyJoinsSpec)

/-- ITS FALSE NEIGHBOUR: 'it returns false'. Refute it at one input. -/
def skyJoinsWrong : ChangeSpec := { name := "skyJoins", fn := fun _ => fun
  | [d1, d2, d3] => { results := [.lit (.bool false)], args := [d1, d2, d3] }
  | _ => none }
def SkyJoinsWrongFalsely : Prop := skyJoinsRow.holds Try.pinned (OpenSpec.ofChange skyJoinsWrong)

/-- 'bolidelaw02.SkyKnown': WHATEVER THE INPUT: true; the input reads as it did. -/
def skyKnownSpec : ChangeSpec := { name := "skyKnown", fn := fun _ => fun
  | [] => { results := [.lit (.bool true)], args := [] }
  | _ => none }
def skyKnownRow : OpenClaim := { program := "ytmgjjgmadiabfaa", sum := "ab819087e1272c66de741b6e3e1cafd064214cf5ddc16fd553bf6e80acad596b", func := "bolide/bolidelaw02.SkyKnown", spec := "skyKnown", unfollowed := true, recurses := true, apart := false }
def SkyKnownSaid : Prop := skyKnownRow.holds Try.pinned (OpenSpec.ofChange skyKnownSpec)

/-- ITS FALSE NEIGHBOUR: 'it returns false'. Refute it at one input. -/
def skyKnownWrong : ChangeSpec := { name := "skyKnown", fn := fun _ => fun
  | [] => { results := [.lit (.bool false)], args := [] }
  | _ => none }
def SkyKnownWrongFalsely : Prop := skyKnownRow.holds Try.pinned (OpenSpec.ofChange skyKnownWrong)

/- THE SECOND FORM. 'bulk': how many values and letters a reading holds, each counted each time it is reached (what is shared counts as often as it is met; a slice's spare places count too). A statement '..UptoSaid' is the law's where the arguments, and the package variables that the reading takes, are together of bulk at most 1048576: NARROWER than '..Said'. Prove '..Said' where nothing that the law and all that it calls make is longer than what came in: it says more and counts as full. Else prove '..UptoSaid'. A law counts once. -/
mutual
def uptoBulk {H : Type} : DataW H → Nat
  | .lit (.string bytes) => bytes.length + 1
  | .lit _ => 1
  | .nil => 1
  | .ptr d => uptoBulk d + 1
  | .slice elems spare => uptoBulkAll elems + uptoBulkAll spare + 1
  | .agg parts => uptoBulkAll parts + 1
  | .iface _ d => uptoBulk d + 1
  | .map entries => uptoBulkEntries entries + 1
  | .held _ => 1
def uptoBulkAll {H : Type} : List (DataW H) → Nat
  | [] => 0
  | d :: r => uptoBulk d + uptoBulkAll r
def uptoBulkEntries {H : Type} : List (Lit × DataW H) → Nat
  | [] => 0
  | x :: r => uptoBulkEntry x + uptoBulkEntries r
def uptoBulkEntry {H : Type} : Lit × DataW H → Nat
  | (.string bytes, d) => bytes.length + uptoBulk d + 1
  | (_, d) => uptoBulk d + 1
 end
def uptoSmall : (H : Type) → List (DataW H) → Bool := fun _ ds => decide (uptoBulkAll ds ≤ 1048576)
def OpenSpec.upto (s : _root_.Go.ChangeSpec) : _root_.Go.OpenSpec := { _root_.Go.OpenSpec.ofChange s with cond := some uptoSmall }

/-- 'bolidelaw02.SkySights', WHERE WHAT IT READS IS OF BULK AT MOST 1048576: true; the input reads as it did. -/
def skySightsUptoRow : OpenClaim := { program := "ytmgjjgmadiabfaa", sum := "ab819087e1272c66de741b6e3e1cafd064214cf5ddc16fd553bf6e80acad596b", func := "bolide/bolidelaw02.SkySights", spec := "skySights", unfollowed := true, recurses := true, apart := false, narrowed := true }
def SkySightsUptoSaid : Prop := skySightsUptoRow.holds Try.pinned (OpenSpec.upto skySightsSpec)

/-- 'bolidelaw02.SkyLooks', WHERE WHAT IT READS IS OF BULK AT MOST 1048576: true; the input reads as it did. -/
def skyLooksUptoRow : OpenClaim := { program := "ytmgjjgmadiabfaa", sum := "ab819087e1272c66de741b6e3e1cafd064214cf5ddc16fd553bf6e80acad596b", func := "bolide/bolidelaw02.SkyLooks", spec := "skyLooks", unfollowed := true, recurses := true, apart := false, narrowed := true }
def SkyLooksUptoSaid : Prop := skyLooksUptoRow.holds Try.pinned (OpenSpec.upto skyLooksSpec)

/-- 'bolidelaw02.SkyChecks', WHERE WHAT IT READS IS OF BULK AT MOST 1048576: true; the input reads as it did. -/
def skyChecksUptoRow : OpenClaim := { program := "ytmgjjgmadiabfaa", sum := "ab819087e1272c66de741b6e3e1cafd064214cf5ddc16fd553bf6e80acad596b", func := "bolide/bolidelaw02.SkyChecks", spec := "skyChecks", unfollowed := true, recurses := true, apart := false, narrowed := true }
def SkyChecksUptoSaid : Prop := skyChecksUptoRow.holds Try.pinned (OpenSpec.upto skyChecksSpec)

/-- 'bolidelaw02.SkyMisses', WHERE WHAT IT READS IS OF BULK AT MOST 1048576: true; the input reads as it did. -/
def skyMissesUptoRow : OpenClaim := { program := "ytmgjjgmadiabfaa", sum := "ab819087e1272c66de741b6e3e1cafd064214cf5ddc16fd553bf6e80acad596b", func := "bolide/bolidelaw02.SkyMisses", spec := "skyMisses", unfollowed := true, recurses := true, apart := false, narrowed := true }
def SkyMissesUptoSaid : Prop := skyMissesUptoRow.holds Try.pinned (OpenSpec.upto skyMissesSpec)

/-- 'bolidelaw02.SkyExcludes', WHERE WHAT IT READS IS OF BULK AT MOST 1048576: true; the input reads as it did. -/
def skyExcludesUptoRow : OpenClaim := { program := "ytmgjjgmadiabfaa", sum := "ab819087e1272c66de741b6e3e1cafd064214cf5ddc16fd553bf6e80acad596b", func := "bolide/bolidelaw02.SkyExcludes", spec := "skyExcludes", unfollowed := true, recurses := true, apart := false, narrowed := true }
def SkyExcludesUptoSaid : Prop := skyExcludesUptoRow.holds Try.pinned (OpenSpec.upto skyExcludesSpec)

/-- 'bolidelaw02.SkyOutside', WHERE WHAT IT READS IS OF BULK AT MOST 1048576: true; the input reads as it did. -/
def skyOutsideUptoRow : OpenClaim := { program := "ytmgjjgmadiabfaa", sum := "ab819087e1272c66de741b6e3e1cafd064214cf5ddc16fd553bf6e80acad596b", func := "bolide/bolidelaw02.SkyOutside", spec := "skyOutside", unfollowed := true, recurses := true, apart := false, narrowed := true }
def SkyOutsideUptoSaid : Prop := skyOutsideUptoRow.holds Try.pinned (OpenSpec.upto skyOutsideSpec)

/-- 'bolidelaw02.SkyMoved', WHERE WHAT IT READS IS OF BULK AT MOST 1048576: true; the input reads as it did. -/
def skyMovedUptoRow : OpenClaim := { program := "ytmgjjgmadiabfaa", sum := "ab819087e1272c66de741b6e3e1cafd064214cf5ddc16fd553bf6e80acad596b", func := "bolide/bolidelaw02.SkyMoved", spec := "skyMoved", unfollowed := true, recurses := true, apart := false, narrowed := true }
def SkyMovedUptoSaid : Prop := skyMovedUptoRow.holds Try.pinned (OpenSpec.upto skyMovedSpec)

/-- 'bolidelaw02.SkyBelieves', WHERE WHAT IT READS IS OF BULK AT MOST 1048576: true; the input reads as it did. -/
def skyBelievesUptoRow : OpenClaim := { program := "ytmgjjgmadiabfaa", sum := "ab819087e1272c66de741b6e3e1cafd064214cf5ddc16fd553bf6e80acad596b", func := "bolide/bolidelaw02.SkyBelieves", spec := "skyBelieves", unfollowed := true, recurses := true, apart := false, narrowed := true }
def SkyBelievesUptoSaid : Prop := skyBelievesUptoRow.holds Try.pinned (OpenSpec.upto skyBelievesSpec)

/-- 'bolidelaw02.SkyRight', WHERE WHAT IT READS IS OF BULK AT MOST 1048576: true; the input reads as it did. -/
def skyRightUptoRow : OpenClaim := { program := "ytmgjjgmadiabfaa", sum := "ab819087e1272c66de741b6e3e1cafd064214cf5ddc16fd553bf6e80acad596b", func := "bolide/bolidelaw02.SkyRight", spec := "skyRight", unfollowed := true, recurses := true, apart := false, narrowed := true }
def SkyRightUptoSaid : Prop := skyRightUptoRow.holds Try.pinned (OpenSpec.upto skyRightSpec)

/-- 'bolidelaw02.SkyGroups', WHERE WHAT IT READS IS OF BULK AT MOST 1048576: true; the input reads as it did. -/
def skyGroupsUptoRow : OpenClaim := { program := "ytmgjjgmadiabfaa", sum := "ab819087e1272c66de741b6e3e1cafd064214cf5ddc16fd553bf6e80acad596b", func := "bolide/bolidelaw02.SkyGroups", spec := "skyGroups", unfollowed := true, recurses := true, apart := false, narrowed := true }
def SkyGroupsUptoSaid : Prop := skyGroupsUptoRow.holds Try.pinned (OpenSpec.upto skyGroupsSpec)

/-- 'bolidelaw02.SkyParts', WHERE WHAT IT READS IS OF BULK AT MOST 1048576: true; the input reads as it did. -/
def skyPartsUptoRow : OpenClaim := { program := "ytmgjjgmadiabfaa", sum := "ab819087e1272c66de741b6e3e1cafd064214cf5ddc16fd553bf6e80acad596b", func := "bolide/bolidelaw02.SkyParts", spec := "skyParts", unfollowed := true, recurses := true, apart := false, narrowed := true }
def SkyPartsUptoSaid : Prop := skyPartsUptoRow.holds Try.pinned (OpenSpec.upto skyPartsSpec)

/-- 'bolidelaw02.SkyLinks', WHERE WHAT IT READS IS OF BULK AT MOST 1048576: true; the input reads as it did. -/
def skyLinksUptoRow : OpenClaim := { program := "ytmgjjgmadiabfaa", sum := "ab819087e1272c66de741b6e3e1cafd064214cf5ddc16fd553bf6e80acad596b", func := "bolide/bolidelaw02.SkyLinks", spec := "skyLinks", unfollowed := true, recurses := true, apart := false, narrowed := true }
def SkyLinksUptoSaid : Prop := skyLinksUptoRow.holds Try.pinned (OpenSpec.upto skyLinksSpec)

/-- 'bolidelaw02.SkyJoins', WHERE WHAT IT READS IS OF BULK AT MOST 1048576: true; the input reads as it did. -/
def skyJoinsUptoRow : OpenClaim := { program := "ytmgjjgmadiabfaa", sum := "ab819087e1272c66de741b6e3e1cafd064214cf5ddc16fd553bf6e80acad596b", func := "bolide/bolidelaw02.SkyJoins", spec := "skyJoins", unfollowed := true, recurses := true, apart := false, narrowed := true }
def SkyJoinsUptoSaid : Prop := skyJoinsUptoRow.holds Try.pinned (OpenSpec.upto skyJoinsSpec)

/-- 'bolidelaw02.SkyKnown', WHERE WHAT IT READS IS OF BULK AT MOST 1048576: true; the input reads as it did. -/
def skyKnownUptoRow : OpenClaim := { program := "ytmgjjgmadiabfaa", sum := "ab819087e1272c66de741b6e3e1cafd064214cf5ddc16fd553bf6e80acad596b", func := "bolide/bolidelaw02.SkyKnown", spec := "skyKnown", unfollowed := true, recurses := true, apart := false, narrowed := true }
def SkyKnownUptoSaid : Prop := skyKnownUptoRow.holds Try.pinned (OpenSpec.upto skyKnownSpec)

end Rows
end Go.Proofs.Ytmgjjgmadiabfaa
