/- OrderStops: its contract, in the form that the row asks. -/
import Derived.Test.YtdbkjpnejihnhaaRb
set_option linter.unusedVariables false
namespace Go.Proofs.Ytdbkjpnejihnhaa.P
open Go.RowKit Go.Proofs.YtdbkjpnejihnhaaW.PrintWords
def catchmentlaw01_OrderStops.f (k : Nat) (l0 : List S49) (a1 : ByteArray) (a2 : Int) : Option Bool := if 0 ≤ a2 ∧ a2 < 256 then some true else none
theorem catchmentlaw01_OrderStops.calls (k : Nat) (A0 : Option Addr) (c0 : Nat) (l0 : List S49) (a1 : ByteArray) (a2 : Int) (r : Bool) (w : World) (hr0 : Kd.C k49 w A0 l0.length l0) (hc0 : l0.length ≤ c0) (h : catchmentlaw01_OrderStops.f k l0 a1 a2 = some r) :
    Calls Try.prog 4 #[.slice A0 l0.length c0, .string a1, .int .u8 a2] w fun e w' => e = .returned (.bool r) ∧ Below w.heap.size w w' := by
  unfold catchmentlaw01_OrderStops.f at h
  split at h
  · rename_i hq
    cases h
    exact OrdSi.stops_any a1 a2 hq.1 hq.2 hr0 hc0
  · cases h
theorem catchmentlaw01_OrderStops.yes (l0 : List S49) (a1 : ByteArray) (a2 : Int) (h : (Lit.int .u8 a2).wf = true) : catchmentlaw01_OrderStops.f 0 l0 a1 a2 = some true := by
  have : 0 ≤ a2 ∧ a2 < 256 := by
    have h1 : IntKind.u8.min = 0 := rfl
    have h2 : IntKind.u8.max = 255 := rfl
    simp only [Lit.wf, Bool.and_eq_true, decide_eq_true_eq, h1, h2] at h
    omega
  unfold catchmentlaw01_OrderStops.f
  rw [if_pos this]
end Go.Proofs.Ytdbkjpnejihnhaa.P
