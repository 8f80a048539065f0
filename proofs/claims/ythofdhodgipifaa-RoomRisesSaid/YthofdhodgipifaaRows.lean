/-
  No cell of these rows narrows 'for every input' (looked for: loops, veiled, ifaces, maps, wideKeys, modest, calm, conditions, laid).
  DERIVED. THE GIVEN ROWS OF THIS SEAT. 3 by the template 'for every input the law returns true; each argument reads behind the call as it read before'; 0 by the template 'total and deterministic' (their statements: YthofdhodgipifaaTotals.lean).
  GIVEN WITH THE SEED: the statements are not yours to turn. If you find one false, say at which input.
  Laid BY PROGRAM, IN A SANDBOX (cutbox-rows.mjs): the forced cells as the released guide's own fill.sh prints them over the translation 2377d8e5347a4611… (all of the seat's roots in one cut). By AI agents, Wed Nov 11 2026. No macro, syntax, notation, axiom, sorry.
-/
import Derived.Test.YthofdhodgipifaaChecked
import GoSem.Claim
import GoSem.ClaimJoined
import GoSem.ClaimMapViews
import Derived.JoinedTies
import Derived.KernelRfl
namespace Go.Proofs.Ythofdhodgipifaa
/- THE CELL 'sum', in the pinned program and in every row, IS THE sha256 OF THE DUMP (.gsa) THAT YthofdhodgipifaaProg.lean LOADS. Nothing in Lean hashes anything: it is a label: what it is worth is what the hold of that sum in a sandbox is worth. -/
noncomputable def Try.pinned : Pinned := { name := "ythofdhodgipifaa", sum := "2377d8e5347a4611560070d16c02b836c56fa481d66ca37a1258568490d717fb", checked := Try.checked }
namespace Rows
def none {H : Type} : Left H := { results := [], args := [] }

/-- 'catchmentlaw21.RoomChecks': WHATEVER THE INPUT: true; the input reads as it did. -/
def roomChecksSpec : ChangeSpec := { name := "roomChecks", fn := fun _ => fun
  | [d1, d2] => { results := [.lit (.bool true)], args := [d1, d2] }
  | _ => none }
def roomChecksRow : OpenClaim := { program := "ythofdhodgipifaa", sum := "2377d8e5347a4611560070d16c02b836c56fa481d66ca37a1258568490d717fb", func := "catchment/catchmentlaw21.RoomChecks", spec := "roomChecks", apart := false }
def RoomChecksSaid : Prop := roomChecksRow.holds Try.pinned (OpenSpec.ofChange roomChecksSpec)

/-- ITS FALSE NEIGHBOUR: 'it returns false'. Refute it at one input. -/
def roomChecksWrong : ChangeSpec := { name := "roomChecks", fn := fun _ => fun
  | [d1, d2] => { results := [.lit (.bool false)], args := [d1, d2] }
  | _ => none }
def RoomChecksWrongFalsely : Prop := roomChecksRow.holds Try.pinned (OpenSpec.ofChange roomChecksWrong)

/-- 'catchmentlaw21.RoomWider': WHATEVER THE INPUT: true; the input reads as it did. -/
def roomWiderSpec : ChangeSpec := { name := "roomWider", fn := fun _ => fun
  | [d1, d2, d3, d4, d5] => { results := [.lit (.bool true)], args := [d1, d2, d3, d4, d5] }
  | _ => none }
def roomWiderRow : OpenClaim := { program := "ythofdhodgipifaa", sum := "2377d8e5347a4611560070d16c02b836c56fa481d66ca37a1258568490d717fb", func := "catchment/catchmentlaw21.RoomWider", spec := "roomWider", apart := false }
def RoomWiderSaid : Prop := roomWiderRow.holds Try.pinned (OpenSpec.ofChange roomWiderSpec)

/-- ITS FALSE NEIGHBOUR: 'it returns false'. Refute it at one input. -/
def roomWiderWrong : ChangeSpec := { name := "roomWider", fn := fun _ => fun
  | [d1, d2, d3, d4, d5] => { results := [.lit (.bool false)], args := [d1, d2, d3, d4, d5] }
  | _ => none }
def RoomWiderWrongFalsely : Prop := roomWiderRow.holds Try.pinned (OpenSpec.ofChange roomWiderWrong)

/-- 'catchmentlaw21.RoomRises': WHATEVER THE INPUT: true; the input reads as it did. -/
def roomRisesSpec : ChangeSpec := { name := "roomRises", fn := fun _ => fun
  | [d1, d2, d3] => { results := [.lit (.bool true)], args := [d1, d2, d3] }
  | _ => none }
def roomRisesRow : OpenClaim := { program := "ythofdhodgipifaa", sum := "2377d8e5347a4611560070d16c02b836c56fa481d66ca37a1258568490d717fb", func := "catchment/catchmentlaw21.RoomRises", spec := "roomRises", apart := false }
def RoomRisesSaid : Prop := roomRisesRow.holds Try.pinned (OpenSpec.ofChange roomRisesSpec)

/-- ITS FALSE NEIGHBOUR: 'it returns false'. Refute it at one input. -/
def roomRisesWrong : ChangeSpec := { name := "roomRises", fn := fun _ => fun
  | [d1, d2, d3] => { results := [.lit (.bool false)], args := [d1, d2, d3] }
  | _ => none }
def RoomRisesWrongFalsely : Prop := roomRisesRow.holds Try.pinned (OpenSpec.ofChange roomRisesWrong)

/- THE SECOND FORM. 'bulk': how many values and letters a reading holds, each counted each time it is reached (what is shared counts as often as it is met; a slice's spare places count too). A statement '..UptoSaid' is the law's where the arguments, and the package variables that the reading takes, are together of bulk at most 1048576: NARROWER than '..Said'. Prove '..Said' where nothing that the law and all that it calls make is longer than what came in: it says more and counts as full. Else prove '..UptoSaid'. A law counts once. -/
mutual
def uptoBulk {H : Type} : DataW H → Nat
  | .lit (.string bytes) => bytes.length + 1
  | .lit _ => 1
  | .nil => 1
  | .ptr d => uptoBulk d + 1
  | .slice elems spare => uptoBulkAll elems + uptoBulkAll spare + 1
  | .agg parts => uptoBulkAll parts + 1
  | .iface _ d => uptoBulk d + 1
  | .map entries => uptoBulkEntries entries + 1
  | .held _ => 1
def uptoBulkAll {H : Type} : List (DataW H) → Nat
  | [] => 0
  | d :: r => uptoBulk d + uptoBulkAll r
def uptoBulkEntries {H : Type} : List (Lit × DataW H) → Nat
  | [] => 0
  | x :: r => uptoBulkEntry x + uptoBulkEntries r
def uptoBulkEntry {H : Type} : Lit × DataW H → Nat
  | (.string bytes, d) => bytes.length + uptoBulk d + 1
  | (_, d) => uptoBulk d + 1
 end
def uptoSmall : (H : Type) → List (DataW H) → Bool := fun _ ds => decide (uptoBulkAll ds ≤ 1048576)
def OpenSpec.upto (s : _root_.Go.ChangeSpec) : _root_.Go.OpenSpec := { _root_.Go.OpenSpec.ofChange s with cond := some uptoSmall }

/-- 'catchmentlaw21.RoomChecks', WHERE WHAT IT READS IS OF BULK AT MOST 1048576: true; the input reads as it did. -/
def roomChecksUptoRow : OpenClaim := { program := "ythofdhodgipifaa", sum := "2377d8e5347a4611560070d16c02b836c56fa481d66ca37a1258568490d717fb", func := "catchment/catchmentlaw21.RoomChecks", spec := "roomChecks", apart := false, narrowed := true }
def RoomChecksUptoSaid : Prop := roomChecksUptoRow.holds Try.pinned (OpenSpec.upto roomChecksSpec)

/-- 'catchmentlaw21.RoomWider', WHERE WHAT IT READS IS OF BULK AT MOST 1048576: true; the input reads as it did. -/
def roomWiderUptoRow : OpenClaim := { program := "ythofdhodgipifaa", sum := "2377d8e5347a4611560070d16c02b836c56fa481d66ca37a1258568490d717fb", func := "catchment/catchmentlaw21.RoomWider", spec := "roomWider", apart := false, narrowed := true }
def RoomWiderUptoSaid : Prop := roomWiderUptoRow.holds Try.pinned (OpenSpec.upto roomWiderSpec)

/-- 'catchmentlaw21.RoomRises', WHERE WHAT IT READS IS OF BULK AT MOST 1048576: true; the input reads as it did. -/
def roomRisesUptoRow : OpenClaim := { program := "ythofdhodgipifaa", sum := "2377d8e5347a4611560070d16c02b836c56fa481d66ca37a1258568490d717fb", func := "catchment/catchmentlaw21.RoomRises", spec := "roomRises", apart := false, narrowed := true }
def RoomRisesUptoSaid : Prop := roomRisesUptoRow.holds Try.pinned (OpenSpec.upto roomRisesSpec)

end Rows
end Go.Proofs.Ythofdhodgipifaa
