/- OrderRises: its contract, in the form that the row asks. -/
import Derived.Test.YtdbkjpnejihnhaaQy
set_option linter.unusedVariables false
namespace Go.Proofs.Ytdbkjpnejihnhaa.P
open Go.RowKit Go.Proofs.YtdbkjpnejihnhaaW.PrintWords
def catchmentlaw01_OrderRises.f (k : Nat) (l0 : List S49) : Option Bool := some true
theorem catchmentlaw01_OrderRises.calls (k : Nat) (A0 : Option Addr) (c0 : Nat) (l0 : List S49) (r : Bool) (w : World) (hr0 : Kd.C k49 w A0 l0.length l0) (hc0 : l0.length ≤ c0) (h : catchmentlaw01_OrderRises.f k l0 = some r) :
    Calls Try.prog 6 #[.slice A0 l0.length c0] w fun e w' => e = .returned (.bool r) ∧ Below w.heap.size w w' := by
  cases h
  exact OrdSi.rises_any hr0 hc0
end Go.Proofs.Ytdbkjpnejihnhaa.P
