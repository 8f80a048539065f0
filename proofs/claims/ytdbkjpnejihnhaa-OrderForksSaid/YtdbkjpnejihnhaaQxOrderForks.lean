/- OrderForks: its contract, in the form that the row asks. -/
import Derived.Test.YtdbkjpnejihnhaaQz
set_option linter.unusedVariables false
namespace Go.Proofs.Ytdbkjpnejihnhaa.P
open Go.RowKit Go.Proofs.YtdbkjpnejihnhaaW.PrintWords
def catchmentlaw01_OrderForks.f (k : Nat) (l0 : List S49) (l1 : List S49) : Option Bool := some true
theorem catchmentlaw01_OrderForks.calls (k : Nat) (A0 : Option Addr) (c0 : Nat) (l0 : List S49) (A1 : Option Addr) (c1 : Nat) (l1 : List S49) (r : Bool) (w : World) (hr0 : Kd.C k49 w A0 l0.length l0) (hc0 : l0.length ≤ c0) (hr1 : Kd.C k49 w A1 l1.length l1) (hc1 : l1.length ≤ c1) (h : catchmentlaw01_OrderForks.f k l0 l1 = some r) :
    Calls Try.prog 7 #[.slice A0 l0.length c0, .slice A1 l1.length c1] w fun e w' => e = .returned (.bool r) ∧ Below w.heap.size w w' := by
  cases h
  exact OrdSi.forks_any hr0 hc0 hr1 hc1
end Go.Proofs.Ytdbkjpnejihnhaa.P
