/-
  No cell of these rows narrows 'for every input' (looked for: loops, veiled, ifaces, maps, wideKeys, modest, calm, conditions, laid).
  DERIVED. THE GIVEN ROWS OF THIS SEAT. 9 by the template 'for every input the law returns true; each argument reads behind the call as it read before'; 0 by the template 'total and deterministic' (their statements: YtidaiafmhidooaaTotals.lean).
  GIVEN WITH THE SEED: the statements are not yours to turn. If you find one false, say at which input.
  Laid BY PROGRAM, IN A SANDBOX (cutbox-rows.mjs): the forced cells as the released guide's own fill.sh prints them over the translation f9dc2ec4701f86a1… (all of the seat's roots in one cut). By AI agents, Wed Nov 11 2026. No macro, syntax, notation, axiom, sorry.
-/
import Derived.Test.YtidaiafmhidooaaChecked
import GoSem.Claim
import GoSem.ClaimJoined
import GoSem.ClaimMapViews
import Derived.JoinedTies
import Derived.KernelRfl
namespace Go.Proofs.Ytidaiafmhidooaa
/- THE CELL 'sum', in the pinned program and in every row, IS THE sha256 OF THE DUMP (.gsa) THAT YtidaiafmhidooaaProg.lean LOADS. Nothing in Lean hashes anything: it is a label: what it is worth is what the hold of that sum in a sandbox is worth. -/
noncomputable def Try.pinned : Pinned := { name := "ytidaiafmhidooaa", sum := "f9dc2ec4701f86a1258907bb6b205adb583713be982820529ae7133e93348c8d", checked := Try.checked }
namespace Rows
def none {H : Type} : Left H := { results := [], args := [] }

/-- 'catchmentlaw06.CompactKeeps': WHATEVER THE INPUT: true; the input reads as it did. -/
def compactKeepsSpec : ChangeSpec := { name := "compactKeeps", fn := fun _ => fun
  | [d1, d2, d3, d4] => { results := [.lit (.bool true)], args := [d1, d2, d3, d4] }
  | _ => none }
def compactKeepsRow : OpenClaim := { program := "ytidaiafmhidooaa", sum := "f9dc2ec4701f86a1258907bb6b205adb583713be982820529ae7133e93348c8d", func := "catchment/catchmentlaw06.CompactKeeps", spec := "compactKeeps", unfollowed := true, recurses := true, apart := false }
def CompactKeepsSaid : Prop := compactKeepsRow.holds Try.pinned (OpenSpec.ofChange compactKeepsSpec)

/-- ITS FALSE NEIGHBOUR: 'it returns false'. Refute it at one input. -/
def compactKeepsWrong : ChangeSpec := { name := "compactKeeps", fn := fun _ => fun
  | [d1, d2, d3, d4] => { results := [.lit (.bool false)], args := [d1, d2, d3, d4] }
  | _ => none }
def CompactKeepsWrongFalsely : Prop := compactKeepsRow.holds Try.pinned (OpenSpec.ofChange compactKeepsWrong)

/-- 'catchmentlaw06.CompactShort': WHATEVER THE INPUT: true; the input reads as it did. -/
def compactShortSpec : ChangeSpec := { name := "compactShort", fn := fun _ => fun
  | [d] => { results := [.lit (.bool true)], args := [d] }
  | _ => none }
def compactShortRow : OpenClaim := { program := "ytidaiafmhidooaa", sum := "f9dc2ec4701f86a1258907bb6b205adb583713be982820529ae7133e93348c8d", func := "catchment/catchmentlaw06.CompactShort", spec := "compactShort", unfollowed := true, recurses := true, apart := false }
def CompactShortSaid : Prop := compactShortRow.holds Try.pinned (OpenSpec.ofChange compactShortSpec)

/-- ITS FALSE NEIGHBOUR: 'it returns false'. Refute it at one input. -/
def compactShortWrong : ChangeSpec := { name := "compactShort", fn := fun _ => fun
  | [d] => { results := [.lit (.bool false)], args := [d] }
  | _ => none }
def CompactShortWrongFalsely : Prop := compactShortRow.holds Try.pinned (OpenSpec.ofChange compactShortWrong)

/-- 'catchmentlaw06.CompactAlike': WHATEVER THE INPUT: true; the input reads as it did. -/
def compactAlikeSpec : ChangeSpec := { name := "compactAlike", fn := fun _ => fun
  | [d1, d2, d3, d4] => { results := [.lit (.bool true)], args := [d1, d2, d3, d4] }
  | _ => none }
def compactAlikeRow : OpenClaim := { program := "ytidaiafmhidooaa", sum := "f9dc2ec4701f86a1258907bb6b205adb583713be982820529ae7133e93348c8d", func := "catchment/catchmentlaw06.CompactAlike", spec := "compactAlike", unfollowed := true, recurses := true, apart := false }
def CompactAlikeSaid : Prop := compactAlikeRow.holds Try.pinned (OpenSpec.ofChange compactAlikeSpec)

/-- ITS FALSE NEIGHBOUR: 'it returns false'. Refute it at one input. -/
def compactAlikeWrong : ChangeSpec := { name := "compactAlike", fn := fun _ => fun
  | [d1, d2, d3, d4] => { results := [.lit (.bool false)], args := [d1, d2, d3, d4] }
  | _ => none }
def CompactAlikeWrongFalsely : Prop := compactAlikeRow.holds Try.pinned (OpenSpec.ofChange compactAlikeWrong)

/-- 'catchmentlaw05.FoldParts': WHATEVER THE INPUT: true; the input reads as it did. -/
def foldPartsSpec : ChangeSpec := { name := "foldParts", fn := fun _ => fun
  | [d1, d2, d3, d4] => { results := [.lit (.bool true)], args := [d1, d2, d3, d4] }
  | _ => none }
def foldPartsRow : OpenClaim := { program := "ytidaiafmhidooaa", sum := "f9dc2ec4701f86a1258907bb6b205adb583713be982820529ae7133e93348c8d", func := "catchment/catchmentlaw05.FoldParts", spec := "foldParts", unfollowed := true, recurses := true, apart := false }
def FoldPartsSaid : Prop := foldPartsRow.holds Try.pinned (OpenSpec.ofChange foldPartsSpec)

/-- ITS FALSE NEIGHBOUR: 'it returns false'. Refute it at one input. -/
def foldPartsWrong : ChangeSpec := { name := "foldParts", fn := fun _ => fun
  | [d1, d2, d3, d4] => { results := [.lit (.bool false)], args := [d1, d2, d3, d4] }
  | _ => none }
def FoldPartsWrongFalsely : Prop := foldPartsRow.holds Try.pinned (OpenSpec.ofChange foldPartsWrong)

/-- 'catchmentlaw05.FoldClips': WHATEVER THE INPUT: true; the input reads as it did. -/
def foldClipsSpec : ChangeSpec := { name := "foldClips", fn := fun _ => fun
  | [d1, d2, d3] => { results := [.lit (.bool true)], args := [d1, d2, d3] }
  | _ => none }
def foldClipsRow : OpenClaim := { program := "ytidaiafmhidooaa", sum := "f9dc2ec4701f86a1258907bb6b205adb583713be982820529ae7133e93348c8d", func := "catchment/catchmentlaw05.FoldClips", spec := "foldClips", unfollowed := true, recurses := true, apart := false }
def FoldClipsSaid : Prop := foldClipsRow.holds Try.pinned (OpenSpec.ofChange foldClipsSpec)

/-- ITS FALSE NEIGHBOUR: 'it returns false'. Refute it at one input. -/
def foldClipsWrong : ChangeSpec := { name := "foldClips", fn := fun _ => fun
  | [d1, d2, d3] => { results := [.lit (.bool false)], args := [d1, d2, d3] }
  | _ => none }
def FoldClipsWrongFalsely : Prop := foldClipsRow.holds Try.pinned (OpenSpec.ofChange foldClipsWrong)

/-- 'catchmentlaw05.FoldEntries': WHATEVER THE INPUT: true; the input reads as it did. -/
def foldEntriesSpec : ChangeSpec := { name := "foldEntries", fn := fun _ => fun
  | [d1, d2, d3, d4] => { results := [.lit (.bool true)], args := [d1, d2, d3, d4] }
  | _ => none }
def foldEntriesRow : OpenClaim := { program := "ytidaiafmhidooaa", sum := "f9dc2ec4701f86a1258907bb6b205adb583713be982820529ae7133e93348c8d", func := "catchment/catchmentlaw05.FoldEntries", spec := "foldEntries", unfollowed := true, recurses := true, apart := false }
def FoldEntriesSaid : Prop := foldEntriesRow.holds Try.pinned (OpenSpec.ofChange foldEntriesSpec)

/-- ITS FALSE NEIGHBOUR: 'it returns false'. Refute it at one input. -/
def foldEntriesWrong : ChangeSpec := { name := "foldEntries", fn := fun _ => fun
  | [d1, d2, d3, d4] => { results := [.lit (.bool false)], args := [d1, d2, d3, d4] }
  | _ => none }
def FoldEntriesWrongFalsely : Prop := foldEntriesRow.holds Try.pinned (OpenSpec.ofChange foldEntriesWrong)

/-- 'catchmentlaw05.FoldChanges': WHATEVER THE INPUT: true; the input reads as it did. -/
def foldChangesSpec : ChangeSpec := { name := "foldChanges", fn := fun _ => fun
  | [d1, d2, d3] => { results := [.lit (.bool true)], args := [d1, d2, d3] }
  | _ => none }
def foldChangesRow : OpenClaim := { program := "ytidaiafmhidooaa", sum := "f9dc2ec4701f86a1258907bb6b205adb583713be982820529ae7133e93348c8d", func := "catchment/catchmentlaw05.FoldChanges", spec := "foldChanges", unfollowed := true, recurses := true, apart := false }
def FoldChangesSaid : Prop := foldChangesRow.holds Try.pinned (OpenSpec.ofChange foldChangesSpec)

/-- ITS FALSE NEIGHBOUR: 'it returns false'. Refute it at one input. -/
def foldChangesWrong : ChangeSpec := { name := "foldChanges", fn := fun _ => fun
  | [d1, d2, d3] => { results := [.lit (.bool false)], args := [d1, d2, d3] }
  | _ => none }
def FoldChangesWrongFalsely : Prop := foldChangesRow.holds Try.pinned (OpenSpec.ofChange foldChangesWrong)

/-- 'catchmentlaw05.FoldValues': WHATEVER THE INPUT: true; the input reads as it did. -/
def foldValuesSpec : ChangeSpec := { name := "foldValues", fn := fun _ => fun
  | [d1, d2, d3, d4, d5] => { results := [.lit (.bool true)], args := [d1, d2, d3, d4, d5] }
  | _ => none }
def foldValuesRow : OpenClaim := { program := "ytidaiafmhidooaa", sum := "f9dc2ec4701f86a1258907bb6b205adb583713be982820529ae7133e93348c8d", func := "catchment/catchmentlaw05.FoldValues", spec := "foldValues", unfollowed := true, recurses := true, apart := false }
def FoldValuesSaid : Prop := foldValuesRow.holds Try.pinned (OpenSpec.ofChange foldValuesSpec)

/-- ITS FALSE NEIGHBOUR: 'it returns false'. Refute it at one input. -/
def foldValuesWrong : ChangeSpec := { name := "foldValues", fn := fun _ => fun
  | [d1, d2, d3, d4, d5] => { results := [.lit (.bool false)], args := [d1, d2, d3, d4, d5] }
  | _ => none }
def FoldValuesWrongFalsely : Prop := foldValuesRow.holds Try.pinned (OpenSpec.ofChange foldValuesWrong)

/-- 'catchmentlaw06.CompactTurns': WHATEVER THE INPUT: true; the input reads as it did. -/
def compactTurnsSpec : ChangeSpec := { name := "compactTurns", fn := fun _ => fun
  | [d1, d2] => { results := [.lit (.bool true)], args := [d1, d2] }
  | _ => none }
def compactTurnsRow : OpenClaim := { program := "ytidaiafmhidooaa", sum := "f9dc2ec4701f86a1258907bb6b205adb583713be982820529ae7133e93348c8d", func := "catchment/catchmentlaw06.CompactTurns", spec := "compactTurns", unfollowed := true, recurses := true, apart := false }
def CompactTurnsSaid : Prop := compactTurnsRow.holds Try.pinned (OpenSpec.ofChange compactTurnsSpec)

/-- ITS FALSE NEIGHBOUR: 'it returns false'. Refute it at one input. -/
def compactTurnsWrong : ChangeSpec := { name := "compactTurns", fn := fun _ => fun
  | [d1, d2] => { results := [.lit (.bool false)], args := [d1, d2] }
  | _ => none }
def CompactTurnsWrongFalsely : Prop := compactTurnsRow.holds Try.pinned (OpenSpec.ofChange compactTurnsWrong)

/- THE SECOND FORM. 'bulk': how many values and letters a reading holds, each counted each time it is reached (what is shared counts as often as it is met; a slice's spare places count too). A statement '..UptoSaid' is the law's where the arguments, and the package variables that the reading takes, are together of bulk at most 1048576: NARROWER than '..Said'. Prove '..Said' where nothing that the law and all that it calls make is longer than what came in: it says more and counts as full. Else prove '..UptoSaid'. A law counts once. -/
mutual
def uptoBulk {H : Type} : DataW H → Nat
  | .lit (.string bytes) => bytes.length + 1
  | .lit _ => 1
  | .nil => 1
  | .ptr d => uptoBulk d + 1
  | .slice elems spare => uptoBulkAll elems + uptoBulkAll spare + 1
  | .agg parts => uptoBulkAll parts + 1
  | .iface _ d => uptoBulk d + 1
  | .map entries => uptoBulkEntries entries + 1
  | .held _ => 1
def uptoBulkAll {H : Type} : List (DataW H) → Nat
  | [] => 0
  | d :: r => uptoBulk d + uptoBulkAll r
def uptoBulkEntries {H : Type} : List (Lit × DataW H) → Nat
  | [] => 0
  | x :: r => uptoBulkEntry x + uptoBulkEntries r
def uptoBulkEntry {H : Type} : Lit × DataW H → Nat
  | (.string bytes, d) => bytes.length + uptoBulk d + 1
  | (_, d) => uptoBulk d + 1
 end
def uptoSmall : (H : Type) → List (DataW H) → Bool := fun _ ds => decide (uptoBulkAll ds ≤ 1048576)
def OpenSpec.upto (s : _root_.Go.ChangeSpec) : _root_.Go.OpenSpec := { _root_.Go.OpenSpec.ofChange s with cond := some uptoSmall }

/-- 'catchmentlaw06.CompactKeeps', WHERE WHAT IT READS IS OF BULK AT MOST 1048576: true; the input reads as it did. -/
def compactKeepsUptoRow : OpenClaim := { program := "ytidaiafmhidooaa", sum := "f9dc2ec4701f86a1258907bb6b205adb583713be982820529ae7133e93348c8d", func := "catchment/catchmentlaw06.CompactKeeps", spec := "compactKeeps", unfollowed := true, recurses := true, apart := false, narrowed := true }
def CompactKeepsUptoSaid : Prop := compactKeepsUptoRow.holds Try.pinned (OpenSpec.upto compactKeepsSpec)

/-- 'catchmentlaw06.CompactShort', WHERE WHAT IT READS IS OF BULK AT MOST 1048576: true; the input reads as it did. -/
def compactShortUptoRow : OpenClaim := { program := "ytidaiafmhidooaa", sum := "f9dc2ec4701f86a1258907bb6b205adb583713be982820529ae7133e93348c8d", func := "catchment/catchmentlaw06.CompactShort", spec := "compactShort", unfollowed := true, recurses := true, apart := false, narrowed := true }
def CompactShortUptoSaid : Prop := compactShortUptoRow.holds Try.pinned (OpenSpec.upto compactShortSpec)

/-- 'catchmentlaw06.CompactAlike', WHERE WHAT IT READS IS OF BULK AT MOST 1048576: true; the input reads as it did. -/
def compactAlikeUptoRow : OpenClaim := { program := "ytidaiafmhidooaa", sum := "f9dc2ec4701f86a1258907bb6b205adb583713be982820529ae7133e93348c8d", func := "catchment/catchmentlaw06.CompactAlike", spec := "compactAlike", unfollowed := true, recurses := true, apart := false, narrowed := true }
def CompactAlikeUptoSaid : Prop := compactAlikeUptoRow.holds Try.pinned (OpenSpec.upto compactAlikeSpec)

/-- 'catchmentlaw05.FoldParts', WHERE WHAT IT READS IS OF BULK AT MOST 1048576: true; the input reads as it did. -/
def foldPartsUptoRow : OpenClaim := { program := "ytidaiafmhidooaa", sum := "f9dc2ec4701f86a1258907bb6b205adb583713be982820529ae7133e93348c8d", func := "catchment/catchmentlaw05.FoldParts", spec := "foldParts", unfollowed := true, recurses := true, apart := false, narrowed := true }
def FoldPartsUptoSaid : Prop := foldPartsUptoRow.holds Try.pinned (OpenSpec.upto foldPartsSpec)

/-- 'catchmentlaw05.FoldClips', WHERE WHAT IT READS IS OF BULK AT MOST 1048576: true; the input reads as it did. -/
def foldClipsUptoRow : OpenClaim := { program := "ytidaiafmhidooaa", sum := "f9dc2ec4701f86a1258907bb6b205adb583713be982820529ae7133e93348c8d", func := "catchment/catchmentlaw05.FoldClips", spec := "foldClips", unfollowed := true, recurses := true, apart := false, narrowed := true }
def FoldClipsUptoSaid : Prop := foldClipsUptoRow.holds Try.pinned (OpenSpec.upto foldClipsSpec)

/-- 'catchmentlaw05.FoldEntries', WHERE WHAT IT READS IS OF BULK AT MOST 1048576: true; the input reads as it did. -/
def foldEntriesUptoRow : OpenClaim := { program := "ytidaiafmhidooaa", sum := "f9dc2ec4701f86a1258907bb6b205adb583713be982820529ae7133e93348c8d", func := "catchment/catchmentlaw05.FoldEntries", spec := "foldEntries", unfollowed := true, recurses := true, apart := false, narrowed := true }
def FoldEntriesUptoSaid : Prop := foldEntriesUptoRow.holds Try.pinned (OpenSpec.upto foldEntriesSpec)

/-- 'catchmentlaw05.FoldChanges', WHERE WHAT IT READS IS OF BULK AT MOST 1048576: true; the input reads as it did. -/
def foldChangesUptoRow : OpenClaim := { program := "ytidaiafmhidooaa", sum := "f9dc2ec4701f86a1258907bb6b205adb583713be982820529ae7133e93348c8d", func := "catchment/catchmentlaw05.FoldChanges", spec := "foldChanges", unfollowed := true, recurses := true, apart := false, narrowed := true }
def FoldChangesUptoSaid : Prop := foldChangesUptoRow.holds Try.pinned (OpenSpec.upto foldChangesSpec)

/-- 'catchmentlaw05.FoldValues', WHERE WHAT IT READS IS OF BULK AT MOST 1048576: true; the input reads as it did. -/
def foldValuesUptoRow : OpenClaim := { program := "ytidaiafmhidooaa", sum := "f9dc2ec4701f86a1258907bb6b205adb583713be982820529ae7133e93348c8d", func := "catchment/catchmentlaw05.FoldValues", spec := "foldValues", unfollowed := true, recurses := true, apart := false, narrowed := true }
def FoldValuesUptoSaid : Prop := foldValuesUptoRow.holds Try.pinned (OpenSpec.upto foldValuesSpec)

/-- 'catchmentlaw06.CompactTurns', WHERE WHAT IT READS IS OF BULK AT MOST 1048576: true; the input reads as it did. -/
def compactTurnsUptoRow : OpenClaim := { program := "ytidaiafmhidooaa", sum := "f9dc2ec4701f86a1258907bb6b205adb583713be982820529ae7133e93348c8d", func := "catchment/catchmentlaw06.CompactTurns", spec := "compactTurns", unfollowed := true, recurses := true, apart := false, narrowed := true }
def CompactTurnsUptoSaid : Prop := compactTurnsUptoRow.holds Try.pinned (OpenSpec.upto compactTurnsSpec)

end Rows
end Go.Proofs.Ytidaiafmhidooaa
