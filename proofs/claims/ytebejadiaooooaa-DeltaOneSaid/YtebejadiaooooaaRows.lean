/-
  No cell of these rows narrows 'for every input' (looked for: loops, veiled, ifaces, maps, wideKeys, modest, calm, conditions, laid).
  DERIVED. THE GIVEN ROWS OF THIS SEAT. 10 by the template 'for every input the law returns true; each argument reads behind the call as it read before'; 0 by the template 'total and deterministic' (their statements: YtebejadiaooooaaTotals.lean).
  GIVEN WITH THE SEED: the statements are not yours to turn. If you find one false, say at which input.
  Laid BY PROGRAM, IN A SANDBOX (cutbox-rows.mjs): the forced cells as the released guide's own fill.sh prints them over the translation be027009169705ee… (all of the seat's roots in one cut). By AI agents, Wed Nov 11 2026. No macro, syntax, notation, axiom, sorry.
-/
import Derived.Test.YtebejadiaooooaaChecked
import GoSem.Claim
import GoSem.ClaimJoined
import GoSem.ClaimMapViews
import Derived.JoinedTies
import Derived.KernelRfl
namespace Go.Proofs.Ytebejadiaooooaa
/- THE CELL 'sum', in the pinned program and in every row, IS THE sha256 OF THE DUMP (.gsa) THAT YtebejadiaooooaaProg.lean LOADS. Nothing in Lean hashes anything: it is a label: what it is worth is what the hold of that sum in a sandbox is worth. -/
noncomputable def Try.pinned : Pinned := { name := "ytebejadiaooooaa", sum := "be027009169705eebb8274f154ed404c1df599e0dd86d9c3cb74604750fdc904", checked := Try.checked }
namespace Rows
def none {H : Type} : Left H := { results := [], args := [] }

/-- 'catchmenttop.TopParted': WHATEVER THE INPUT: true; the input reads as it did. -/
def topPartedSpec : ChangeSpec := { name := "topParted", fn := fun _ => fun
  | [d1, d2, d3] => { results := [.lit (.bool true)], args := [d1, d2, d3] }
  | _ => none }
def topPartedRow : OpenClaim := { program := "ytebejadiaooooaa", sum := "be027009169705eebb8274f154ed404c1df599e0dd86d9c3cb74604750fdc904", func := "catchment/catchmenttop.TopParted", spec := "topParted", unfollowed := true, recurses := true, apart := false }
def TopPartedSaid : Prop := topPartedRow.holds Try.pinned (OpenSpec.ofChange topPartedSpec)

/-- ITS FALSE NEIGHBOUR: 'it returns false'. Refute it at one input. -/
def topPartedWrong : ChangeSpec := { name := "topParted", fn := fun _ => fun
  | [d1, d2, d3] => { results := [.lit (.bool false)], args := [d1, d2, d3] }
  | _ => none }
def TopPartedWrongFalsely : Prop := topPartedRow.holds Try.pinned (OpenSpec.ofChange topPartedWrong)

/-- 'catchmenttop.TopUndone': WHATEVER THE INPUT: true; the input reads as it did. -/
def topUndoneSpec : ChangeSpec := { name := "topUndone", fn := fun _ => fun
  | [d1, d2] => { results := [.lit (.bool true)], args := [d1, d2] }
  | _ => none }
def topUndoneRow : OpenClaim := { program := "ytebejadiaooooaa", sum := "be027009169705eebb8274f154ed404c1df599e0dd86d9c3cb74604750fdc904", func := "catchment/catchmenttop.TopUndone", spec := "topUndone", unfollowed := true, recurses := true, apart := false }
def TopUndoneSaid : Prop := topUndoneRow.holds Try.pinned (OpenSpec.ofChange topUndoneSpec)

/-- ITS FALSE NEIGHBOUR: 'it returns false'. Refute it at one input. -/
def topUndoneWrong : ChangeSpec := { name := "topUndone", fn := fun _ => fun
  | [d1, d2] => { results := [.lit (.bool false)], args := [d1, d2] }
  | _ => none }
def TopUndoneWrongFalsely : Prop := topUndoneRow.holds Try.pinned (OpenSpec.ofChange topUndoneWrong)

/-- 'catchmentlaw05.FoldEntries': WHATEVER THE INPUT: true; the input reads as it did. -/
def foldEntriesSpec : ChangeSpec := { name := "foldEntries", fn := fun _ => fun
  | [d1, d2, d3, d4] => { results := [.lit (.bool true)], args := [d1, d2, d3, d4] }
  | _ => none }
def foldEntriesRow : OpenClaim := { program := "ytebejadiaooooaa", sum := "be027009169705eebb8274f154ed404c1df599e0dd86d9c3cb74604750fdc904", func := "catchment/catchmentlaw05.FoldEntries", spec := "foldEntries", unfollowed := true, recurses := true, apart := false }
def FoldEntriesSaid : Prop := foldEntriesRow.holds Try.pinned (OpenSpec.ofChange foldEntriesSpec)

/-- ITS FALSE NEIGHBOUR: 'it returns false'. Refute it at one input. -/
def foldEntriesWrong : ChangeSpec := { name := "foldEntries", fn := fun _ => fun
  | [d1, d2, d3, d4] => { results := [.lit (.bool false)], args := [d1, d2, d3, d4] }
  | _ => none }
def FoldEntriesWrongFalsely : Prop := foldEntriesRow.holds Try.pinned (OpenSpec.ofChange foldEntriesWrong)

/-- 'catchmentlaw05.FoldChanges': WHATEVER THE INPUT: true; the input reads as it did. -/
def foldChangesSpec : ChangeSpec := { name := "foldChanges", fn := fun _ => fun
  | [d1, d2, d3] => { results := [.lit (.bool true)], args := [d1, d2, d3] }
  | _ => none }
def foldChangesRow : OpenClaim := { program := "ytebejadiaooooaa", sum := "be027009169705eebb8274f154ed404c1df599e0dd86d9c3cb74604750fdc904", func := "catchment/catchmentlaw05.FoldChanges", spec := "foldChanges", unfollowed := true, recurses := true, apart := false }
def FoldChangesSaid : Prop := foldChangesRow.holds Try.pinned (OpenSpec.ofChange foldChangesSpec)

/-- ITS FALSE NEIGHBOUR: 'it returns false'. Refute it at one input. -/
def foldChangesWrong : ChangeSpec := { name := "foldChanges", fn := fun _ => fun
  | [d1, d2, d3] => { results := [.lit (.bool false)], args := [d1, d2, d3] }
  | _ => none }
def FoldChangesWrongFalsely : Prop := foldChangesRow.holds Try.pinned (OpenSpec.ofChange foldChangesWrong)

/-- 'catchmentlaw05.FoldValues': WHATEVER THE INPUT: true; the input reads as it did. -/
def foldValuesSpec : ChangeSpec := { name := "foldValues", fn := fun _ => fun
  | [d1, d2, d3, d4, d5] => { results := [.lit (.bool true)], args := [d1, d2, d3, d4, d5] }
  | _ => none }
def foldValuesRow : OpenClaim := { program := "ytebejadiaooooaa", sum := "be027009169705eebb8274f154ed404c1df599e0dd86d9c3cb74604750fdc904", func := "catchment/catchmentlaw05.FoldValues", spec := "foldValues", unfollowed := true, recurses := true, apart := false }
def FoldValuesSaid : Prop := foldValuesRow.holds Try.pinned (OpenSpec.ofChange foldValuesSpec)

/-- ITS FALSE NEIGHBOUR: 'it returns false'. Refute it at one input. -/
def foldValuesWrong : ChangeSpec := { name := "foldValues", fn := fun _ => fun
  | [d1, d2, d3, d4, d5] => { results := [.lit (.bool false)], args := [d1, d2, d3, d4, d5] }
  | _ => none }
def FoldValuesWrongFalsely : Prop := foldValuesRow.holds Try.pinned (OpenSpec.ofChange foldValuesWrong)

/-- 'catchmentlaw37.DeltaDiffs': WHATEVER THE INPUT: true; the input reads as it did. -/
def deltaDiffsSpec : ChangeSpec := { name := "deltaDiffs", fn := fun _ => fun
  | [d1, d2] => { results := [.lit (.bool true)], args := [d1, d2] }
  | _ => none }
def deltaDiffsRow : OpenClaim := { program := "ytebejadiaooooaa", sum := "be027009169705eebb8274f154ed404c1df599e0dd86d9c3cb74604750fdc904", func := "catchment/catchmentlaw37.DeltaDiffs", spec := "deltaDiffs", unfollowed := true, recurses := true, apart := false }
def DeltaDiffsSaid : Prop := deltaDiffsRow.holds Try.pinned (OpenSpec.ofChange deltaDiffsSpec)

/-- ITS FALSE NEIGHBOUR: 'it returns false'. Refute it at one input. -/
def deltaDiffsWrong : ChangeSpec := { name := "deltaDiffs", fn := fun _ => fun
  | [d1, d2] => { results := [.lit (.bool false)], args := [d1, d2] }
  | _ => none }
def DeltaDiffsWrongFalsely : Prop := deltaDiffsRow.holds Try.pinned (OpenSpec.ofChange deltaDiffsWrong)

/-- 'catchmentlaw37.DeltaBack': WHATEVER THE INPUT: true; the input reads as it did. -/
def deltaBackSpec : ChangeSpec := { name := "deltaBack", fn := fun _ => fun
  | [d1, d2, d3] => { results := [.lit (.bool true)], args := [d1, d2, d3] }
  | _ => none }
def deltaBackRow : OpenClaim := { program := "ytebejadiaooooaa", sum := "be027009169705eebb8274f154ed404c1df599e0dd86d9c3cb74604750fdc904", func := "catchment/catchmentlaw37.DeltaBack", spec := "deltaBack", unfollowed := true, recurses := true, apart := false }
def DeltaBackSaid : Prop := deltaBackRow.holds Try.pinned (OpenSpec.ofChange deltaBackSpec)

/-- ITS FALSE NEIGHBOUR: 'it returns false'. Refute it at one input. -/
def deltaBackWrong : ChangeSpec := { name := "deltaBack", fn := fun _ => fun
  | [d1, d2, d3] => { results := [.lit (.bool false)], args := [d1, d2, d3] }
  | _ => none }
def DeltaBackWrongFalsely : Prop := deltaBackRow.holds Try.pinned (OpenSpec.ofChange deltaBackWrong)

/-- 'catchmentlaw37.DeltaThree': WHATEVER THE INPUT: true; the input reads as it did. -/
def deltaThreeSpec : ChangeSpec := { name := "deltaThree", fn := fun _ => fun
  | [d1, d2, d3] => { results := [.lit (.bool true)], args := [d1, d2, d3] }
  | _ => none }
def deltaThreeRow : OpenClaim := { program := "ytebejadiaooooaa", sum := "be027009169705eebb8274f154ed404c1df599e0dd86d9c3cb74604750fdc904", func := "catchment/catchmentlaw37.DeltaThree", spec := "deltaThree", unfollowed := true, recurses := true, apart := false }
def DeltaThreeSaid : Prop := deltaThreeRow.holds Try.pinned (OpenSpec.ofChange deltaThreeSpec)

/-- ITS FALSE NEIGHBOUR: 'it returns false'. Refute it at one input. -/
def deltaThreeWrong : ChangeSpec := { name := "deltaThree", fn := fun _ => fun
  | [d1, d2, d3] => { results := [.lit (.bool false)], args := [d1, d2, d3] }
  | _ => none }
def DeltaThreeWrongFalsely : Prop := deltaThreeRow.holds Try.pinned (OpenSpec.ofChange deltaThreeWrong)

/-- 'catchmentlaw37.DeltaOne': WHATEVER THE INPUT: true; the input reads as it did. -/
def deltaOneSpec : ChangeSpec := { name := "deltaOne", fn := fun _ => fun
  | [d1, d2, d3] => { results := [.lit (.bool true)], args := [d1, d2, d3] }
  | _ => none }
def deltaOneRow : OpenClaim := { program := "ytebejadiaooooaa", sum := "be027009169705eebb8274f154ed404c1df599e0dd86d9c3cb74604750fdc904", func := "catchment/catchmentlaw37.DeltaOne", spec := "deltaOne", unfollowed := true, recurses := true, apart := false }
def DeltaOneSaid : Prop := deltaOneRow.holds Try.pinned (OpenSpec.ofChange deltaOneSpec)

/-- ITS FALSE NEIGHBOUR: 'it returns false'. Refute it at one input. -/
def deltaOneWrong : ChangeSpec := { name := "deltaOne", fn := fun _ => fun
  | [d1, d2, d3] => { results := [.lit (.bool false)], args := [d1, d2, d3] }
  | _ => none }
def DeltaOneWrongFalsely : Prop := deltaOneRow.holds Try.pinned (OpenSpec.ofChange deltaOneWrong)

/-- 'catchmentlaw37.DeltaSwaps': WHATEVER THE INPUT: true; the input reads as it did. -/
def deltaSwapsSpec : ChangeSpec := { name := "deltaSwaps", fn := fun _ => fun
  | [d1, d2, d3, d4] => { results := [.lit (.bool true)], args := [d1, d2, d3, d4] }
  | _ => none }
def deltaSwapsRow : OpenClaim := { program := "ytebejadiaooooaa", sum := "be027009169705eebb8274f154ed404c1df599e0dd86d9c3cb74604750fdc904", func := "catchment/catchmentlaw37.DeltaSwaps", spec := "deltaSwaps", unfollowed := true, recurses := true, apart := false }
def DeltaSwapsSaid : Prop := deltaSwapsRow.holds Try.pinned (OpenSpec.ofChange deltaSwapsSpec)

/-- ITS FALSE NEIGHBOUR: 'it returns false'. Refute it at one input. -/
def deltaSwapsWrong : ChangeSpec := { name := "deltaSwaps", fn := fun _ => fun
  | [d1, d2, d3, d4] => { results := [.lit (.bool false)], args := [d1, d2, d3, d4] }
  | _ => none }
def DeltaSwapsWrongFalsely : Prop := deltaSwapsRow.holds Try.pinned (OpenSpec.ofChange deltaSwapsWrong)

/- THE SECOND FORM. 'bulk': how many values and letters a reading holds, each counted each time it is reached (what is shared counts as often as it is met; a slice's spare places count too). A statement '..UptoSaid' is the law's where the arguments, and the package variables that the reading takes, are together of bulk at most 1048576: NARROWER than '..Said'. Prove '..Said' where nothing that the law and all that it calls make is longer than what came in: it says more and counts as full. Else prove '..UptoSaid'. A law counts once. -/
mutual
def uptoBulk {H : Type} : DataW H → Nat
  | .lit (.string bytes) => bytes.length + 1
  | .lit _ => 1
  | .nil => 1
  | .ptr d => uptoBulk d + 1
  | .slice elems spare => uptoBulkAll elems + uptoBulkAll spare + 1
  | .agg parts => uptoBulkAll parts + 1
  | .iface _ d => uptoBulk d + 1
  | .map entries => uptoBulkEntries entries + 1
  | .held _ => 1
def uptoBulkAll {H : Type} : List (DataW H) → Nat
  | [] => 0
  | d :: r => uptoBulk d + uptoBulkAll r
def uptoBulkEntries {H : Type} : List (Lit × DataW H) → Nat
  | [] => 0
  | x :: r => uptoBulkEntry x + uptoBulkEntries r
def uptoBulkEntry {H : Type} : Lit × DataW H → Nat
  | (.string bytes, d) => bytes.length + uptoBulk d + 1
  | (_, d) => uptoBulk d + 1
 end
def uptoSmall : (H : Type) → List (DataW H) → Bool := fun _ ds => decide (uptoBulkAll ds ≤ 1048576)
def OpenSpec.upto (s : _root_.Go.ChangeSpec) : _root_.Go.OpenSpec := { _root_.Go.OpenSpec.ofChange s with cond := some uptoSmall }

/-- 'catchmenttop.TopParted', WHERE WHAT IT READS IS OF BULK AT MOST 1048576: true; the input reads as it did. -/
def topPartedUptoRow : OpenClaim := { program := "ytebejadiaooooaa", sum := "be027009169705eebb8274f154ed404c1df599e0dd86d9c3cb74604750fdc904", func := "catchment/catchmenttop.TopParted", spec := "topParted", unfollowed := true, recurses := true, apart := false, narrowed := true }
def TopPartedUptoSaid : Prop := topPartedUptoRow.holds Try.pinned (OpenSpec.upto topPartedSpec)

/-- 'catchmenttop.TopUndone', WHERE WHAT IT READS IS OF BULK AT MOST 1048576: true; the input reads as it did. -/
def topUndoneUptoRow : OpenClaim := { program := "ytebejadiaooooaa", sum := "be027009169705eebb8274f154ed404c1df599e0dd86d9c3cb74604750fdc904", func := "catchment/catchmenttop.TopUndone", spec := "topUndone", unfollowed := true, recurses := true, apart := false, narrowed := true }
def TopUndoneUptoSaid : Prop := topUndoneUptoRow.holds Try.pinned (OpenSpec.upto topUndoneSpec)

/-- 'catchmentlaw05.FoldEntries', WHERE WHAT IT READS IS OF BULK AT MOST 1048576: true; the input reads as it did. -/
def foldEntriesUptoRow : OpenClaim := { program := "ytebejadiaooooaa", sum := "be027009169705eebb8274f154ed404c1df599e0dd86d9c3cb74604750fdc904", func := "catchment/catchmentlaw05.FoldEntries", spec := "foldEntries", unfollowed := true, recurses := true, apart := false, narrowed := true }
def FoldEntriesUptoSaid : Prop := foldEntriesUptoRow.holds Try.pinned (OpenSpec.upto foldEntriesSpec)

/-- 'catchmentlaw05.FoldChanges', WHERE WHAT IT READS IS OF BULK AT MOST 1048576: true; the input reads as it did. -/
def foldChangesUptoRow : OpenClaim := { program := "ytebejadiaooooaa", sum := "be027009169705eebb8274f154ed404c1df599e0dd86d9c3cb74604750fdc904", func := "catchment/catchmentlaw05.FoldChanges", spec := "foldChanges", unfollowed := true, recurses := true, apart := false, narrowed := true }
def FoldChangesUptoSaid : Prop := foldChangesUptoRow.holds Try.pinned (OpenSpec.upto foldChangesSpec)

/-- 'catchmentlaw05.FoldValues', WHERE WHAT IT READS IS OF BULK AT MOST 1048576: true; the input reads as it did. -/
def foldValuesUptoRow : OpenClaim := { program := "ytebejadiaooooaa", sum := "be027009169705eebb8274f154ed404c1df599e0dd86d9c3cb74604750fdc904", func := "catchment/catchmentlaw05.FoldValues", spec := "foldValues", unfollowed := true, recurses := true, apart := false, narrowed := true }
def FoldValuesUptoSaid : Prop := foldValuesUptoRow.holds Try.pinned (OpenSpec.upto foldValuesSpec)

/-- 'catchmentlaw37.DeltaDiffs', WHERE WHAT IT READS IS OF BULK AT MOST 1048576: true; the input reads as it did. -/
def deltaDiffsUptoRow : OpenClaim := { program := "ytebejadiaooooaa", sum := "be027009169705eebb8274f154ed404c1df599e0dd86d9c3cb74604750fdc904", func := "catchment/catchmentlaw37.DeltaDiffs", spec := "deltaDiffs", unfollowed := true, recurses := true, apart := false, narrowed := true }
def DeltaDiffsUptoSaid : Prop := deltaDiffsUptoRow.holds Try.pinned (OpenSpec.upto deltaDiffsSpec)

/-- 'catchmentlaw37.DeltaBack', WHERE WHAT IT READS IS OF BULK AT MOST 1048576: true; the input reads as it did. -/
def deltaBackUptoRow : OpenClaim := { program := "ytebejadiaooooaa", sum := "be027009169705eebb8274f154ed404c1df599e0dd86d9c3cb74604750fdc904", func := "catchment/catchmentlaw37.DeltaBack", spec := "deltaBack", unfollowed := true, recurses := true, apart := false, narrowed := true }
def DeltaBackUptoSaid : Prop := deltaBackUptoRow.holds Try.pinned (OpenSpec.upto deltaBackSpec)

/-- 'catchmentlaw37.DeltaThree', WHERE WHAT IT READS IS OF BULK AT MOST 1048576: true; the input reads as it did. -/
def deltaThreeUptoRow : OpenClaim := { program := "ytebejadiaooooaa", sum := "be027009169705eebb8274f154ed404c1df599e0dd86d9c3cb74604750fdc904", func := "catchment/catchmentlaw37.DeltaThree", spec := "deltaThree", unfollowed := true, recurses := true, apart := false, narrowed := true }
def DeltaThreeUptoSaid : Prop := deltaThreeUptoRow.holds Try.pinned (OpenSpec.upto deltaThreeSpec)

/-- 'catchmentlaw37.DeltaOne', WHERE WHAT IT READS IS OF BULK AT MOST 1048576: true; the input reads as it did. -/
def deltaOneUptoRow : OpenClaim := { program := "ytebejadiaooooaa", sum := "be027009169705eebb8274f154ed404c1df599e0dd86d9c3cb74604750fdc904", func := "catchment/catchmentlaw37.DeltaOne", spec := "deltaOne", unfollowed := true, recurses := true, apart := false, narrowed := true }
def DeltaOneUptoSaid : Prop := deltaOneUptoRow.holds Try.pinned (OpenSpec.upto deltaOneSpec)

/-- 'catchmentlaw37.DeltaSwaps', WHERE WHAT IT READS IS OF BULK AT MOST 1048576: true; the input reads as it did. -/
def deltaSwapsUptoRow : OpenClaim := { program := "ytebejadiaooooaa", sum := "be027009169705eebb8274f154ed404c1df599e0dd86d9c3cb74604750fdc904", func := "catchment/catchmentlaw37.DeltaSwaps", spec := "deltaSwaps", unfollowed := true, recurses := true, apart := false, narrowed := true }
def DeltaSwapsUptoSaid : Prop := deltaSwapsUptoRow.holds Try.pinned (OpenSpec.upto deltaSwapsSpec)

end Rows
end Go.Proofs.Ytebejadiaooooaa
