/-
  No cell of these rows narrows 'for every input' (looked for: loops, veiled, ifaces, maps, wideKeys, modest, calm, conditions, laid).
  DERIVED. THE GIVEN ROWS OF THIS SEAT. 6 by the template 'for every input the law returns true; each argument reads behind the call as it read before'; 0 by the template 'total and deterministic' (their statements: YtdbkjpnejihnhaaTotals.lean).
  GIVEN WITH THE SEED: the statements are not yours to turn. If you find one false, say at which input.
  Laid BY PROGRAM, IN A SANDBOX (cutbox-rows.mjs): the forced cells as the released guide's own fill.sh prints them over the translation 74e451db2a6e7490… (all of the seat's roots in one cut). By AI agents, Wed Nov 11 2026. No macro, syntax, notation, axiom, sorry.
-/
import Derived.Test.YtdbkjpnejihnhaaChecked
import GoSem.Claim
import GoSem.ClaimJoined
import GoSem.ClaimMapViews
import Derived.JoinedTies
import Derived.KernelRfl
namespace Go.Proofs.Ytdbkjpnejihnhaa
/- THE CELL 'sum', in the pinned program and in every row, IS THE sha256 OF THE DUMP (.gsa) THAT YtdbkjpnejihnhaaProg.lean LOADS. Nothing in Lean hashes anything: it is a label: what it is worth is what the hold of that sum in a sandbox is worth. -/
noncomputable def Try.pinned : Pinned := { name := "ytdbkjpnejihnhaa", sum := "74e451db2a6e74901cd80342976c64818888d7054e0308259e96f9a079f1e816", checked := Try.checked }
namespace Rows
def none {H : Type} : Left H := { results := [], args := [] }

/-- 'catchmentlaw01.OrderNumbers': WHATEVER THE INPUT: true; the input reads as it did. -/
def orderNumbersSpec : ChangeSpec := { name := "orderNumbers", fn := fun _ => fun
  | [d] => { results := [.lit (.bool true)], args := [d] }
  | _ => none }
def orderNumbersRow : OpenClaim := { program := "ytdbkjpnejihnhaa", sum := "74e451db2a6e74901cd80342976c64818888d7054e0308259e96f9a079f1e816", func := "catchment/catchmentlaw01.OrderNumbers", spec := "orderNumbers", unfollowed := true, recurses := true, apart := false }
def OrderNumbersSaid : Prop := orderNumbersRow.holds Try.pinned (OpenSpec.ofChange orderNumbersSpec)

/-- ITS FALSE NEIGHBOUR: 'it returns false'. Refute it at one input. -/
def orderNumbersWrong : ChangeSpec := { name := "orderNumbers", fn := fun _ => fun
  | [d] => { results := [.lit (.bool false)], args := [d] }
  | _ => none }
def OrderNumbersWrongFalsely : Prop := orderNumbersRow.holds Try.pinned (OpenSpec.ofChange orderNumbersWrong)

/-- 'catchmentlaw01.OrderStops': WHATEVER THE INPUT: true; the input reads as it did. -/
def orderStopsSpec : ChangeSpec := { name := "orderStops", fn := fun _ => fun
  | [d1, d2, d3] => { results := [.lit (.bool true)], args := [d1, d2, d3] }
  | _ => none }
def orderStopsRow : OpenClaim := { program := "ytdbkjpnejihnhaa", sum := "74e451db2a6e74901cd80342976c64818888d7054e0308259e96f9a079f1e816", func := "catchment/catchmentlaw01.OrderStops", spec := "orderStops", unfollowed := true, recurses := true, apart := false }
def OrderStopsSaid : Prop := orderStopsRow.holds Try.pinned (OpenSpec.ofChange orderStopsSpec)

/-- ITS FALSE NEIGHBOUR: 'it returns false'. Refute it at one input. -/
def orderStopsWrong : ChangeSpec := { name := "orderStops", fn := fun _ => fun
  | [d1, d2, d3] => { results := [.lit (.bool false)], args := [d1, d2, d3] }
  | _ => none }
def OrderStopsWrongFalsely : Prop := orderStopsRow.holds Try.pinned (OpenSpec.ofChange orderStopsWrong)

/-- 'catchmentlaw01.OrderPlays': WHATEVER THE INPUT: true; the input reads as it did. -/
def orderPlaysSpec : ChangeSpec := { name := "orderPlays", fn := fun _ => fun
  | [d] => { results := [.lit (.bool true)], args := [d] }
  | _ => none }
def orderPlaysRow : OpenClaim := { program := "ytdbkjpnejihnhaa", sum := "74e451db2a6e74901cd80342976c64818888d7054e0308259e96f9a079f1e816", func := "catchment/catchmentlaw01.OrderPlays", spec := "orderPlays", unfollowed := true, recurses := true, apart := false }
def OrderPlaysSaid : Prop := orderPlaysRow.holds Try.pinned (OpenSpec.ofChange orderPlaysSpec)

/-- ITS FALSE NEIGHBOUR: 'it returns false'. Refute it at one input. -/
def orderPlaysWrong : ChangeSpec := { name := "orderPlays", fn := fun _ => fun
  | [d] => { results := [.lit (.bool false)], args := [d] }
  | _ => none }
def OrderPlaysWrongFalsely : Prop := orderPlaysRow.holds Try.pinned (OpenSpec.ofChange orderPlaysWrong)

/-- 'catchmentlaw01.OrderRises': WHATEVER THE INPUT: true; the input reads as it did. -/
def orderRisesSpec : ChangeSpec := { name := "orderRises", fn := fun _ => fun
  | [d] => { results := [.lit (.bool true)], args := [d] }
  | _ => none }
def orderRisesRow : OpenClaim := { program := "ytdbkjpnejihnhaa", sum := "74e451db2a6e74901cd80342976c64818888d7054e0308259e96f9a079f1e816", func := "catchment/catchmentlaw01.OrderRises", spec := "orderRises", unfollowed := true, recurses := true, apart := false }
def OrderRisesSaid : Prop := orderRisesRow.holds Try.pinned (OpenSpec.ofChange orderRisesSpec)

/-- ITS FALSE NEIGHBOUR: 'it returns false'. Refute it at one input. -/
def orderRisesWrong : ChangeSpec := { name := "orderRises", fn := fun _ => fun
  | [d] => { results := [.lit (.bool false)], args := [d] }
  | _ => none }
def OrderRisesWrongFalsely : Prop := orderRisesRow.holds Try.pinned (OpenSpec.ofChange orderRisesWrong)

/-- 'catchmentlaw01.OrderForks': WHATEVER THE INPUT: true; the input reads as it did. -/
def orderForksSpec : ChangeSpec := { name := "orderForks", fn := fun _ => fun
  | [d1, d2] => { results := [.lit (.bool true)], args := [d1, d2] }
  | _ => none }
def orderForksRow : OpenClaim := { program := "ytdbkjpnejihnhaa", sum := "74e451db2a6e74901cd80342976c64818888d7054e0308259e96f9a079f1e816", func := "catchment/catchmentlaw01.OrderForks", spec := "orderForks", unfollowed := true, recurses := true, apart := false }
def OrderForksSaid : Prop := orderForksRow.holds Try.pinned (OpenSpec.ofChange orderForksSpec)

/-- ITS FALSE NEIGHBOUR: 'it returns false'. Refute it at one input. -/
def orderForksWrong : ChangeSpec := { name := "orderForks", fn := fun _ => fun
  | [d1, d2] => { results := [.lit (.bool false)], args := [d1, d2] }
  | _ => none }
def OrderForksWrongFalsely : Prop := orderForksRow.holds Try.pinned (OpenSpec.ofChange orderForksWrong)

/-- 'catchmentlaw01.OrderNil': WHATEVER THE INPUT: true; the input reads as it did. -/
def orderNilSpec : ChangeSpec := { name := "orderNil", fn := fun _ => fun
  | [d] => { results := [.lit (.bool true)], args := [d] }
  | _ => none }
def orderNilRow : OpenClaim := { program := "ytdbkjpnejihnhaa", sum := "74e451db2a6e74901cd80342976c64818888d7054e0308259e96f9a079f1e816", func := "catchment/catchmentlaw01.OrderNil", spec := "orderNil", unfollowed := true, recurses := true, apart := false }
def OrderNilSaid : Prop := orderNilRow.holds Try.pinned (OpenSpec.ofChange orderNilSpec)

/-- ITS FALSE NEIGHBOUR: 'it returns false'. Refute it at one input. -/
def orderNilWrong : ChangeSpec := { name := "orderNil", fn := fun _ => fun
  | [d] => { results := [.lit (.bool false)], args := [d] }
  | _ => none }
def OrderNilWrongFalsely : Prop := orderNilRow.holds Try.pinned (OpenSpec.ofChange orderNilWrong)

/- THE SECOND FORM. 'bulk': how many values and letters a reading holds, each counted each time it is reached (what is shared counts as often as it is met; a slice's spare places count too). A statement '..UptoSaid' is the law's where the arguments, and the package variables that the reading takes, are together of bulk at most 1048576: NARROWER than '..Said'. Prove '..Said' where nothing that the law and all that it calls make is longer than what came in: it says more and counts as full. Else prove '..UptoSaid'. A law counts once. -/
mutual
def uptoBulk {H : Type} : DataW H → Nat
  | .lit (.string bytes) => bytes.length + 1
  | .lit _ => 1
  | .nil => 1
  | .ptr d => uptoBulk d + 1
  | .slice elems spare => uptoBulkAll elems + uptoBulkAll spare + 1
  | .agg parts => uptoBulkAll parts + 1
  | .iface _ d => uptoBulk d + 1
  | .map entries => uptoBulkEntries entries + 1
  | .held _ => 1
def uptoBulkAll {H : Type} : List (DataW H) → Nat
  | [] => 0
  | d :: r => uptoBulk d + uptoBulkAll r
def uptoBulkEntries {H : Type} : List (Lit × DataW H) → Nat
  | [] => 0
  | x :: r => uptoBulkEntry x + uptoBulkEntries r
def uptoBulkEntry {H : Type} : Lit × DataW H → Nat
  | (.string bytes, d) => bytes.length + uptoBulk d + 1
  | (_, d) => uptoBulk d + 1
 end
def uptoSmall : (H : Type) → List (DataW H) → Bool := fun _ ds => decide (uptoBulkAll ds ≤ 1048576)
def OpenSpec.upto (s : _root_.Go.ChangeSpec) : _root_.Go.OpenSpec := { _root_.Go.OpenSpec.ofChange s with cond := some uptoSmall }

/-- 'catchmentlaw01.OrderNumbers', WHERE WHAT IT READS IS OF BULK AT MOST 1048576: true; the input reads as it did. -/
def orderNumbersUptoRow : OpenClaim := { program := "ytdbkjpnejihnhaa", sum := "74e451db2a6e74901cd80342976c64818888d7054e0308259e96f9a079f1e816", func := "catchment/catchmentlaw01.OrderNumbers", spec := "orderNumbers", unfollowed := true, recurses := true, apart := false, narrowed := true }
def OrderNumbersUptoSaid : Prop := orderNumbersUptoRow.holds Try.pinned (OpenSpec.upto orderNumbersSpec)

/-- 'catchmentlaw01.OrderStops', WHERE WHAT IT READS IS OF BULK AT MOST 1048576: true; the input reads as it did. -/
def orderStopsUptoRow : OpenClaim := { program := "ytdbkjpnejihnhaa", sum := "74e451db2a6e74901cd80342976c64818888d7054e0308259e96f9a079f1e816", func := "catchment/catchmentlaw01.OrderStops", spec := "orderStops", unfollowed := true, recurses := true, apart := false, narrowed := true }
def OrderStopsUptoSaid : Prop := orderStopsUptoRow.holds Try.pinned (OpenSpec.upto orderStopsSpec)

/-- 'catchmentlaw01.OrderPlays', WHERE WHAT IT READS IS OF BULK AT MOST 1048576: true; the input reads as it did. -/
def orderPlaysUptoRow : OpenClaim := { program := "ytdbkjpnejihnhaa", sum := "74e451db2a6e74901cd80342976c64818888d7054e0308259e96f9a079f1e816", func := "catchment/catchmentlaw01.OrderPlays", spec := "orderPlays", unfollowed := true, recurses := true, apart := false, narrowed := true }
def OrderPlaysUptoSaid : Prop := orderPlaysUptoRow.holds Try.pinned (OpenSpec.upto orderPlaysSpec)

/-- 'catchmentlaw01.OrderRises', WHERE WHAT IT READS IS OF BULK AT MOST 1048576: true; the input reads as it did. -/
def orderRisesUptoRow : OpenClaim := { program := "ytdbkjpnejihnhaa", sum := "74e451db2a6e74901cd80342976c64818888d7054e0308259e96f9a079f1e816", func := "catchment/catchmentlaw01.OrderRises", spec := "orderRises", unfollowed := true, recurses := true, apart := false, narrowed := true }
def OrderRisesUptoSaid : Prop := orderRisesUptoRow.holds Try.pinned (OpenSpec.upto orderRisesSpec)

/-- 'catchmentlaw01.OrderForks', WHERE WHAT IT READS IS OF BULK AT MOST 1048576: true; the input reads as it did. -/
def orderForksUptoRow : OpenClaim := { program := "ytdbkjpnejihnhaa", sum := "74e451db2a6e74901cd80342976c64818888d7054e0308259e96f9a079f1e816", func := "catchment/catchmentlaw01.OrderForks", spec := "orderForks", unfollowed := true, recurses := true, apart := false, narrowed := true }
def OrderForksUptoSaid : Prop := orderForksUptoRow.holds Try.pinned (OpenSpec.upto orderForksSpec)

/-- 'catchmentlaw01.OrderNil', WHERE WHAT IT READS IS OF BULK AT MOST 1048576: true; the input reads as it did. -/
def orderNilUptoRow : OpenClaim := { program := "ytdbkjpnejihnhaa", sum := "74e451db2a6e74901cd80342976c64818888d7054e0308259e96f9a079f1e816", func := "catchment/catchmentlaw01.OrderNil", spec := "orderNil", unfollowed := true, recurses := true, apart := false, narrowed := true }
def OrderNilUptoSaid : Prop := orderNilUptoRow.holds Try.pinned (OpenSpec.upto orderNilSpec)

end Rows
end Go.Proofs.Ytdbkjpnejihnhaa
