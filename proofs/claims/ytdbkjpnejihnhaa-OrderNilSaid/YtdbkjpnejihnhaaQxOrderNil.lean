/- OrderNil: its contract, in the form that the row asks. -/
import Derived.Test.YtdbkjpnejihnhaaRa
set_option linter.unusedVariables false
namespace Go.Proofs.Ytdbkjpnejihnhaa.P
open Go.RowKit Go.Proofs.YtdbkjpnejihnhaaW.PrintWords
def catchmentlaw01_OrderNil.f (k : Nat) (a0 : Int) (a1 a2 : ByteArray) (a3 : Int) : Option Bool := some true
theorem catchmentlaw01_OrderNil.calls (k : Nat) (a0 : Int) (a1 a2 : ByteArray) (a3 : Int) (r : Bool) (w : World)  (h : catchmentlaw01_OrderNil.f k a0 a1 a2 a3 = some r) :
    Calls Try.prog 8 #[.agg #[.int .i64 a0, .string a1, .string a2, .int .i64 a3]] w fun e w' => e = .returned (.bool r) ∧ Below w.heap.size w w' := by
  cases h
  exact OrdSi.nil_any a0 a1 a2 a3 w
end Go.Proofs.Ytdbkjpnejihnhaa.P
