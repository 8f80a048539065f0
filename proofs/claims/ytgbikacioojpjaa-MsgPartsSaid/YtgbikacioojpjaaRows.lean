/-
  No cell of these rows narrows 'for every input' (looked for: loops, veiled, ifaces, maps, wideKeys, modest, calm, conditions, laid).
  DERIVED. THE GIVEN ROWS OF THIS SEAT. 4 by the template 'for every input the law returns true; each argument reads behind the call as it read before'; 0 by the template 'total and deterministic' (their statements: YtgbikacioojpjaaTotals.lean).
  GIVEN WITH THE SEED: the statements are not yours to turn. If you find one false, say at which input.
  Laid BY PROGRAM, IN A SANDBOX (cutbox-rows.mjs): the forced cells as the released guide's own fill.sh prints them over the translation c15743352e53afec… (all of the seat's roots in one cut). By AI agents, Wed Nov 11 2026. No macro, syntax, notation, axiom, sorry.
-/
import Derived.Test.YtgbikacioojpjaaChecked
import GoSem.Claim
import GoSem.ClaimJoined
import GoSem.ClaimMapViews
import Derived.JoinedTies
import Derived.KernelRfl
namespace Go.Proofs.Ytgbikacioojpjaa
/- THE CELL 'sum', in the pinned program and in every row, IS THE sha256 OF THE DUMP (.gsa) THAT YtgbikacioojpjaaProg.lean LOADS. Nothing in Lean hashes anything: it is a label: what it is worth is what the hold of that sum in a sandbox is worth. -/
noncomputable def Try.pinned : Pinned := { name := "ytgbikacioojpjaa", sum := "c15743352e53afec265a42b634ad2cddc32a953034dbf778d50d09f89042d1b5", checked := Try.checked }
namespace Rows
def none {H : Type} : Left H := { results := [], args := [] }

/-- 'catchmentlaw04.MsgDoes': WHATEVER THE INPUT: true; the input reads as it did. -/
def msgDoesSpec : ChangeSpec := { name := "msgDoes", fn := fun _ => fun
  | [d1, d2, d3, d4] => { results := [.lit (.bool true)], args := [d1, d2, d3, d4] }
  | _ => none }
def msgDoesRow : OpenClaim := { program := "ytgbikacioojpjaa", sum := "c15743352e53afec265a42b634ad2cddc32a953034dbf778d50d09f89042d1b5", func := "catchment/catchmentlaw04.MsgDoes", spec := "msgDoes", apart := false }
def MsgDoesSaid : Prop := msgDoesRow.holds Try.pinned (OpenSpec.ofChange msgDoesSpec)

/-- ITS FALSE NEIGHBOUR: 'it returns false'. Refute it at one input. -/
def msgDoesWrong : ChangeSpec := { name := "msgDoes", fn := fun _ => fun
  | [d1, d2, d3, d4] => { results := [.lit (.bool false)], args := [d1, d2, d3, d4] }
  | _ => none }
def MsgDoesWrongFalsely : Prop := msgDoesRow.holds Try.pinned (OpenSpec.ofChange msgDoesWrong)

/-- 'catchmentlaw04.MsgParts': WHATEVER THE INPUT: true; the input reads as it did. -/
def msgPartsSpec : ChangeSpec := { name := "msgParts", fn := fun _ => fun
  | [d1, d2] => { results := [.lit (.bool true)], args := [d1, d2] }
  | _ => none }
def msgPartsRow : OpenClaim := { program := "ytgbikacioojpjaa", sum := "c15743352e53afec265a42b634ad2cddc32a953034dbf778d50d09f89042d1b5", func := "catchment/catchmentlaw04.MsgParts", spec := "msgParts", apart := false }
def MsgPartsSaid : Prop := msgPartsRow.holds Try.pinned (OpenSpec.ofChange msgPartsSpec)

/-- ITS FALSE NEIGHBOUR: 'it returns false'. Refute it at one input. -/
def msgPartsWrong : ChangeSpec := { name := "msgParts", fn := fun _ => fun
  | [d1, d2] => { results := [.lit (.bool false)], args := [d1, d2] }
  | _ => none }
def MsgPartsWrongFalsely : Prop := msgPartsRow.holds Try.pinned (OpenSpec.ofChange msgPartsWrong)

/-- 'catchmentlaw04.MsgClips': WHATEVER THE INPUT: true; the input reads as it did. -/
def msgClipsSpec : ChangeSpec := { name := "msgClips", fn := fun _ => fun
  | [d1, d2, d3, d4, d5] => { results := [.lit (.bool true)], args := [d1, d2, d3, d4, d5] }
  | _ => none }
def msgClipsRow : OpenClaim := { program := "ytgbikacioojpjaa", sum := "c15743352e53afec265a42b634ad2cddc32a953034dbf778d50d09f89042d1b5", func := "catchment/catchmentlaw04.MsgClips", spec := "msgClips", apart := false }
def MsgClipsSaid : Prop := msgClipsRow.holds Try.pinned (OpenSpec.ofChange msgClipsSpec)

/-- ITS FALSE NEIGHBOUR: 'it returns false'. Refute it at one input. -/
def msgClipsWrong : ChangeSpec := { name := "msgClips", fn := fun _ => fun
  | [d1, d2, d3, d4, d5] => { results := [.lit (.bool false)], args := [d1, d2, d3, d4, d5] }
  | _ => none }
def MsgClipsWrongFalsely : Prop := msgClipsRow.holds Try.pinned (OpenSpec.ofChange msgClipsWrong)

/-- 'catchmentlaw04.MsgChecks': WHATEVER THE INPUT: true; the input reads as it did. -/
def msgChecksSpec : ChangeSpec := { name := "msgChecks", fn := fun _ => fun
  | [d1, d2] => { results := [.lit (.bool true)], args := [d1, d2] }
  | _ => none }
def msgChecksRow : OpenClaim := { program := "ytgbikacioojpjaa", sum := "c15743352e53afec265a42b634ad2cddc32a953034dbf778d50d09f89042d1b5", func := "catchment/catchmentlaw04.MsgChecks", spec := "msgChecks", apart := false }
def MsgChecksSaid : Prop := msgChecksRow.holds Try.pinned (OpenSpec.ofChange msgChecksSpec)

/-- ITS FALSE NEIGHBOUR: 'it returns false'. Refute it at one input. -/
def msgChecksWrong : ChangeSpec := { name := "msgChecks", fn := fun _ => fun
  | [d1, d2] => { results := [.lit (.bool false)], args := [d1, d2] }
  | _ => none }
def MsgChecksWrongFalsely : Prop := msgChecksRow.holds Try.pinned (OpenSpec.ofChange msgChecksWrong)

/- THE SECOND FORM. 'bulk': how many values and letters a reading holds, each counted each time it is reached (what is shared counts as often as it is met; a slice's spare places count too). A statement '..UptoSaid' is the law's where the arguments, and the package variables that the reading takes, are together of bulk at most 1048576: NARROWER than '..Said'. Prove '..Said' where nothing that the law and all that it calls make is longer than what came in: it says more and counts as full. Else prove '..UptoSaid'. A law counts once. -/
mutual
def uptoBulk {H : Type} : DataW H → Nat
  | .lit (.string bytes) => bytes.length + 1
  | .lit _ => 1
  | .nil => 1
  | .ptr d => uptoBulk d + 1
  | .slice elems spare => uptoBulkAll elems + uptoBulkAll spare + 1
  | .agg parts => uptoBulkAll parts + 1
  | .iface _ d => uptoBulk d + 1
  | .map entries => uptoBulkEntries entries + 1
  | .held _ => 1
def uptoBulkAll {H : Type} : List (DataW H) → Nat
  | [] => 0
  | d :: r => uptoBulk d + uptoBulkAll r
def uptoBulkEntries {H : Type} : List (Lit × DataW H) → Nat
  | [] => 0
  | x :: r => uptoBulkEntry x + uptoBulkEntries r
def uptoBulkEntry {H : Type} : Lit × DataW H → Nat
  | (.string bytes, d) => bytes.length + uptoBulk d + 1
  | (_, d) => uptoBulk d + 1
 end
def uptoSmall : (H : Type) → List (DataW H) → Bool := fun _ ds => decide (uptoBulkAll ds ≤ 1048576)
def OpenSpec.upto (s : _root_.Go.ChangeSpec) : _root_.Go.OpenSpec := { _root_.Go.OpenSpec.ofChange s with cond := some uptoSmall }

/-- 'catchmentlaw04.MsgDoes', WHERE WHAT IT READS IS OF BULK AT MOST 1048576: true; the input reads as it did. -/
def msgDoesUptoRow : OpenClaim := { program := "ytgbikacioojpjaa", sum := "c15743352e53afec265a42b634ad2cddc32a953034dbf778d50d09f89042d1b5", func := "catchment/catchmentlaw04.MsgDoes", spec := "msgDoes", apart := false, narrowed := true }
def MsgDoesUptoSaid : Prop := msgDoesUptoRow.holds Try.pinned (OpenSpec.upto msgDoesSpec)

/-- 'catchmentlaw04.MsgParts', WHERE WHAT IT READS IS OF BULK AT MOST 1048576: true; the input reads as it did. -/
def msgPartsUptoRow : OpenClaim := { program := "ytgbikacioojpjaa", sum := "c15743352e53afec265a42b634ad2cddc32a953034dbf778d50d09f89042d1b5", func := "catchment/catchmentlaw04.MsgParts", spec := "msgParts", apart := false, narrowed := true }
def MsgPartsUptoSaid : Prop := msgPartsUptoRow.holds Try.pinned (OpenSpec.upto msgPartsSpec)

/-- 'catchmentlaw04.MsgClips', WHERE WHAT IT READS IS OF BULK AT MOST 1048576: true; the input reads as it did. -/
def msgClipsUptoRow : OpenClaim := { program := "ytgbikacioojpjaa", sum := "c15743352e53afec265a42b634ad2cddc32a953034dbf778d50d09f89042d1b5", func := "catchment/catchmentlaw04.MsgClips", spec := "msgClips", apart := false, narrowed := true }
def MsgClipsUptoSaid : Prop := msgClipsUptoRow.holds Try.pinned (OpenSpec.upto msgClipsSpec)

/-- 'catchmentlaw04.MsgChecks', WHERE WHAT IT READS IS OF BULK AT MOST 1048576: true; the input reads as it did. -/
def msgChecksUptoRow : OpenClaim := { program := "ytgbikacioojpjaa", sum := "c15743352e53afec265a42b634ad2cddc32a953034dbf778d50d09f89042d1b5", func := "catchment/catchmentlaw04.MsgChecks", spec := "msgChecks", apart := false, narrowed := true }
def MsgChecksUptoSaid : Prop := msgChecksUptoRow.holds Try.pinned (OpenSpec.upto msgChecksSpec)

end Rows
end Go.Proofs.Ytgbikacioojpjaa
