/-
  No cell of these rows narrows 'for every input' (looked for: loops, veiled, ifaces, maps, wideKeys, modest, calm, conditions, laid).
  DERIVED. THE GIVEN ROWS OF THIS SEAT. 7 by the template 'for every input the law returns true; each argument reads behind the call as it read before'; 0 by the template 'total and deterministic' (their statements: YtljnlnbopohghaaTotals.lean).
  GIVEN WITH THE SEED: the statements are not yours to turn. If you find one false, say at which input.
  Laid BY PROGRAM, IN A SANDBOX (cutbox-rows.mjs): the forced cells as the released guide's own fill.sh prints them over the translation 9f773ec96cc375b0… (all of the seat's roots in one cut). By AI agents, Wed Nov 11 2026. No macro, syntax, notation, axiom, sorry.
-/
import Derived.Test.YtljnlnbopohghaaChecked
import GoSem.Claim
import GoSem.ClaimJoined
import GoSem.ClaimMapViews
import Derived.JoinedTies
import Derived.KernelRfl
namespace Go.Proofs.Ytljnlnbopohghaa
/- THE CELL 'sum', in the pinned program and in every row, IS THE sha256 OF THE DUMP (.gsa) THAT YtljnlnbopohghaaProg.lean LOADS. Nothing in Lean hashes anything: it is a label: what it is worth is what the hold of that sum in a sandbox is worth. -/
noncomputable def Try.pinned : Pinned := { name := "ytljnlnbopohghaa", sum := "9f773ec96cc375b0c6cf7d05ab038c7efe28d8869cb15924ee0dc54163c780fd", checked := Try.checked }
namespace Rows
def none {H : Type} : Left H := { results := [], args := [] }

/-- 'catchmentlaw27.CursorPlays': WHATEVER THE INPUT: true; the input reads as it did. -/
def cursorPlaysSpec : ChangeSpec := { name := "cursorPlays", fn := fun _ => fun
  | [d] => { results := [.lit (.bool true)], args := [d] }
  | _ => none }
def cursorPlaysRow : OpenClaim := { program := "ytljnlnbopohghaa", sum := "9f773ec96cc375b0c6cf7d05ab038c7efe28d8869cb15924ee0dc54163c780fd", func := "catchment/catchmentlaw27.CursorPlays", spec := "cursorPlays", unfollowed := true, recurses := true, apart := false }
def CursorPlaysSaid : Prop := cursorPlaysRow.holds Try.pinned (OpenSpec.ofChange cursorPlaysSpec)

/-- ITS FALSE NEIGHBOUR: 'it returns false'. Refute it at one input. -/
def cursorPlaysWrong : ChangeSpec := { name := "cursorPlays", fn := fun _ => fun
  | [d] => { results := [.lit (.bool false)], args := [d] }
  | _ => none }
def CursorPlaysWrongFalsely : Prop := cursorPlaysRow.holds Try.pinned (OpenSpec.ofChange cursorPlaysWrong)

/-- 'catchmentlaw27.CursorForks': WHATEVER THE INPUT: true; the input reads as it did. -/
def cursorForksSpec : ChangeSpec := { name := "cursorForks", fn := fun _ => fun
  | [d1, d2] => { results := [.lit (.bool true)], args := [d1, d2] }
  | _ => none }
def cursorForksRow : OpenClaim := { program := "ytljnlnbopohghaa", sum := "9f773ec96cc375b0c6cf7d05ab038c7efe28d8869cb15924ee0dc54163c780fd", func := "catchment/catchmentlaw27.CursorForks", spec := "cursorForks", inPlace := ["maps.clone"], unfollowed := true, recurses := true, apart := false }
def CursorForksSaid : Prop := cursorForksRow.holds Try.pinned (OpenSpec.ofChange cursorForksSpec)

/-- ITS FALSE NEIGHBOUR: 'it returns false'. Refute it at one input. -/
def cursorForksWrong : ChangeSpec := { name := "cursorForks", fn := fun _ => fun
  | [d1, d2] => { results := [.lit (.bool false)], args := [d1, d2] }
  | _ => none }
def CursorForksWrongFalsely : Prop := cursorForksRow.holds Try.pinned (OpenSpec.ofChange cursorForksWrong)

/-- 'catchmentlaw28.ModelSends': WHATEVER THE INPUT: true; the input reads as it did. -/
def modelSendsSpec : ChangeSpec := { name := "modelSends", fn := fun _ => fun
  | [d1, d2, d3, d4] => { results := [.lit (.bool true)], args := [d1, d2, d3, d4] }
  | _ => none }
def modelSendsRow : OpenClaim := { program := "ytljnlnbopohghaa", sum := "9f773ec96cc375b0c6cf7d05ab038c7efe28d8869cb15924ee0dc54163c780fd", func := "catchment/catchmentlaw28.ModelSends", spec := "modelSends", unfollowed := true, recurses := true, apart := false }
def ModelSendsSaid : Prop := modelSendsRow.holds Try.pinned (OpenSpec.ofChange modelSendsSpec)

/-- ITS FALSE NEIGHBOUR: 'it returns false'. Refute it at one input. -/
def modelSendsWrong : ChangeSpec := { name := "modelSends", fn := fun _ => fun
  | [d1, d2, d3, d4] => { results := [.lit (.bool false)], args := [d1, d2, d3, d4] }
  | _ => none }
def ModelSendsWrongFalsely : Prop := modelSendsRow.holds Try.pinned (OpenSpec.ofChange modelSendsWrong)

/-- 'catchmentlaw28.ModelWalks': WHATEVER THE INPUT: true; the input reads as it did. -/
def modelWalksSpec : ChangeSpec := { name := "modelWalks", fn := fun _ => fun
  | [d1, d2, d3] => { results := [.lit (.bool true)], args := [d1, d2, d3] }
  | _ => none }
def modelWalksRow : OpenClaim := { program := "ytljnlnbopohghaa", sum := "9f773ec96cc375b0c6cf7d05ab038c7efe28d8869cb15924ee0dc54163c780fd", func := "catchment/catchmentlaw28.ModelWalks", spec := "modelWalks", unfollowed := true, recurses := true, apart := false }
def ModelWalksSaid : Prop := modelWalksRow.holds Try.pinned (OpenSpec.ofChange modelWalksSpec)

/-- ITS FALSE NEIGHBOUR: 'it returns false'. Refute it at one input. -/
def modelWalksWrong : ChangeSpec := { name := "modelWalks", fn := fun _ => fun
  | [d1, d2, d3] => { results := [.lit (.bool false)], args := [d1, d2, d3] }
  | _ => none }
def ModelWalksWrongFalsely : Prop := modelWalksRow.holds Try.pinned (OpenSpec.ofChange modelWalksWrong)

/-- 'catchmentlaw28.ModelSame': WHATEVER THE INPUT: true; the input reads as it did. -/
def modelSameSpec : ChangeSpec := { name := "modelSame", fn := fun _ => fun
  | [d1, d2] => { results := [.lit (.bool true)], args := [d1, d2] }
  | _ => none }
def modelSameRow : OpenClaim := { program := "ytljnlnbopohghaa", sum := "9f773ec96cc375b0c6cf7d05ab038c7efe28d8869cb15924ee0dc54163c780fd", func := "catchment/catchmentlaw28.ModelSame", spec := "modelSame", unfollowed := true, recurses := true, apart := false }
def ModelSameSaid : Prop := modelSameRow.holds Try.pinned (OpenSpec.ofChange modelSameSpec)

/-- ITS FALSE NEIGHBOUR: 'it returns false'. Refute it at one input. -/
def modelSameWrong : ChangeSpec := { name := "modelSame", fn := fun _ => fun
  | [d1, d2] => { results := [.lit (.bool false)], args := [d1, d2] }
  | _ => none }
def ModelSameWrongFalsely : Prop := modelSameRow.holds Try.pinned (OpenSpec.ofChange modelSameWrong)

/-- 'catchmentlaw28.ModelPlays': WHATEVER THE INPUT: true; the input reads as it did. -/
def modelPlaysSpec : ChangeSpec := { name := "modelPlays", fn := fun _ => fun
  | [d1, d2, d3] => { results := [.lit (.bool true)], args := [d1, d2, d3] }
  | _ => none }
def modelPlaysRow : OpenClaim := { program := "ytljnlnbopohghaa", sum := "9f773ec96cc375b0c6cf7d05ab038c7efe28d8869cb15924ee0dc54163c780fd", func := "catchment/catchmentlaw28.ModelPlays", spec := "modelPlays", unfollowed := true, recurses := true, apart := false }
def ModelPlaysSaid : Prop := modelPlaysRow.holds Try.pinned (OpenSpec.ofChange modelPlaysSpec)

/-- ITS FALSE NEIGHBOUR: 'it returns false'. Refute it at one input. -/
def modelPlaysWrong : ChangeSpec := { name := "modelPlays", fn := fun _ => fun
  | [d1, d2, d3] => { results := [.lit (.bool false)], args := [d1, d2, d3] }
  | _ => none }
def ModelPlaysWrongFalsely : Prop := modelPlaysRow.holds Try.pinned (OpenSpec.ofChange modelPlaysWrong)

/-- 'catchmentlaw28.ModelStays': WHATEVER THE INPUT: true; the input reads as it did. -/
def modelStaysSpec : ChangeSpec := { name := "modelStays", fn := fun _ => fun
  | [d1, d2, d3] => { results := [.lit (.bool true)], args := [d1, d2, d3] }
  | _ => none }
def modelStaysRow : OpenClaim := { program := "ytljnlnbopohghaa", sum := "9f773ec96cc375b0c6cf7d05ab038c7efe28d8869cb15924ee0dc54163c780fd", func := "catchment/catchmentlaw28.ModelStays", spec := "modelStays", unfollowed := true, recurses := true, apart := false }
def ModelStaysSaid : Prop := modelStaysRow.holds Try.pinned (OpenSpec.ofChange modelStaysSpec)

/-- ITS FALSE NEIGHBOUR: 'it returns false'. Refute it at one input. -/
def modelStaysWrong : ChangeSpec := { name := "modelStays", fn := fun _ => fun
  | [d1, d2, d3] => { results := [.lit (.bool false)], args := [d1, d2, d3] }
  | _ => none }
def ModelStaysWrongFalsely : Prop := modelStaysRow.holds Try.pinned (OpenSpec.ofChange modelStaysWrong)

/- THE SECOND FORM. 'bulk': how many values and letters a reading holds, each counted each time it is reached (what is shared counts as often as it is met; a slice's spare places count too). A statement '..UptoSaid' is the law's where the arguments, and the package variables that the reading takes, are together of bulk at most 1048576: NARROWER than '..Said'. Prove '..Said' where nothing that the law and all that it calls make is longer than what came in: it says more and counts as full. Else prove '..UptoSaid'. A law counts once. -/
mutual
def uptoBulk {H : Type} : DataW H → Nat
  | .lit (.string bytes) => bytes.length + 1
  | .lit _ => 1
  | .nil => 1
  | .ptr d => uptoBulk d + 1
  | .slice elems spare => uptoBulkAll elems + uptoBulkAll spare + 1
  | .agg parts => uptoBulkAll parts + 1
  | .iface _ d => uptoBulk d + 1
  | .map entries => uptoBulkEntries entries + 1
  | .held _ => 1
def uptoBulkAll {H : Type} : List (DataW H) → Nat
  | [] => 0
  | d :: r => uptoBulk d + uptoBulkAll r
def uptoBulkEntries {H : Type} : List (Lit × DataW H) → Nat
  | [] => 0
  | x :: r => uptoBulkEntry x + uptoBulkEntries r
def uptoBulkEntry {H : Type} : Lit × DataW H → Nat
  | (.string bytes, d) => bytes.length + uptoBulk d + 1
  | (_, d) => uptoBulk d + 1
 end
def uptoSmall : (H : Type) → List (DataW H) → Bool := fun _ ds => decide (uptoBulkAll ds ≤ 1048576)
def OpenSpec.upto (s : _root_.Go.ChangeSpec) : _root_.Go.OpenSpec := { _root_.Go.OpenSpec.ofChange s with cond := some uptoSmall }

/-- 'catchmentlaw27.CursorPlays', WHERE WHAT IT READS IS OF BULK AT MOST 1048576: true; the input reads as it did. -/
def cursorPlaysUptoRow : OpenClaim := { program := "ytljnlnbopohghaa", sum := "9f773ec96cc375b0c6cf7d05ab038c7efe28d8869cb15924ee0dc54163c780fd", func := "catchment/catchmentlaw27.CursorPlays", spec := "cursorPlays", unfollowed := true, recurses := true, apart := false, narrowed := true }
def CursorPlaysUptoSaid : Prop := cursorPlaysUptoRow.holds Try.pinned (OpenSpec.upto cursorPlaysSpec)

/-- 'catchmentlaw27.CursorForks', WHERE WHAT IT READS IS OF BULK AT MOST 1048576: true; the input reads as it did. -/
def cursorForksUptoRow : OpenClaim := { program := "ytljnlnbopohghaa", sum := "9f773ec96cc375b0c6cf7d05ab038c7efe28d8869cb15924ee0dc54163c780fd", func := "catchment/catchmentlaw27.CursorForks", spec := "cursorForks", inPlace := ["maps.clone"], unfollowed := true, recurses := true, apart := false, narrowed := true }
def CursorForksUptoSaid : Prop := cursorForksUptoRow.holds Try.pinned (OpenSpec.upto cursorForksSpec)

/-- 'catchmentlaw28.ModelSends', WHERE WHAT IT READS IS OF BULK AT MOST 1048576: true; the input reads as it did. -/
def modelSendsUptoRow : OpenClaim := { program := "ytljnlnbopohghaa", sum := "9f773ec96cc375b0c6cf7d05ab038c7efe28d8869cb15924ee0dc54163c780fd", func := "catchment/catchmentlaw28.ModelSends", spec := "modelSends", unfollowed := true, recurses := true, apart := false, narrowed := true }
def ModelSendsUptoSaid : Prop := modelSendsUptoRow.holds Try.pinned (OpenSpec.upto modelSendsSpec)

/-- 'catchmentlaw28.ModelWalks', WHERE WHAT IT READS IS OF BULK AT MOST 1048576: true; the input reads as it did. -/
def modelWalksUptoRow : OpenClaim := { program := "ytljnlnbopohghaa", sum := "9f773ec96cc375b0c6cf7d05ab038c7efe28d8869cb15924ee0dc54163c780fd", func := "catchment/catchmentlaw28.ModelWalks", spec := "modelWalks", unfollowed := true, recurses := true, apart := false, narrowed := true }
def ModelWalksUptoSaid : Prop := modelWalksUptoRow.holds Try.pinned (OpenSpec.upto modelWalksSpec)

/-- 'catchmentlaw28.ModelSame', WHERE WHAT IT READS IS OF BULK AT MOST 1048576: true; the input reads as it did. -/
def modelSameUptoRow : OpenClaim := { program := "ytljnlnbopohghaa", sum := "9f773ec96cc375b0c6cf7d05ab038c7efe28d8869cb15924ee0dc54163c780fd", func := "catchment/catchmentlaw28.ModelSame", spec := "modelSame", unfollowed := true, recurses := true, apart := false, narrowed := true }
def ModelSameUptoSaid : Prop := modelSameUptoRow.holds Try.pinned (OpenSpec.upto modelSameSpec)

/-- 'catchmentlaw28.ModelPlays', WHERE WHAT IT READS IS OF BULK AT MOST 1048576: true; the input reads as it did. -/
def modelPlaysUptoRow : OpenClaim := { program := "ytljnlnbopohghaa", sum := "9f773ec96cc375b0c6cf7d05ab038c7efe28d8869cb15924ee0dc54163c780fd", func := "catchment/catchmentlaw28.ModelPlays", spec := "modelPlays", unfollowed := true, recurses := true, apart := false, narrowed := true }
def ModelPlaysUptoSaid : Prop := modelPlaysUptoRow.holds Try.pinned (OpenSpec.upto modelPlaysSpec)

/-- 'catchmentlaw28.ModelStays', WHERE WHAT IT READS IS OF BULK AT MOST 1048576: true; the input reads as it did. -/
def modelStaysUptoRow : OpenClaim := { program := "ytljnlnbopohghaa", sum := "9f773ec96cc375b0c6cf7d05ab038c7efe28d8869cb15924ee0dc54163c780fd", func := "catchment/catchmentlaw28.ModelStays", spec := "modelStays", unfollowed := true, recurses := true, apart := false, narrowed := true }
def ModelStaysUptoSaid : Prop := modelStaysUptoRow.holds Try.pinned (OpenSpec.upto modelStaysSpec)

end Rows
end Go.Proofs.Ytljnlnbopohghaa
