/- CursorRises: its contract, in the form that the row asks. -/
import Derived.Test.YtohipdjoeoaphaaCi
set_option linter.unusedVariables false
namespace Go.Proofs.Ytohipdjoeoaphaa.P
open Go.RowKit Go.Proofs.YtohipdjoeoaphaaW.PrintWords
def short27 (l : List S34) : Bool := l.all (fun d => d.f4.all (fun y => decide (y.f0.size ≤ 140737488351232)))
def catchmentlaw27_CursorRises.f (k : Nat) (a0_0 : ByteArray) (a0_1 : ByteArray) (l1 : List S34) : Option Bool := if short27 l1 = true then some true else none
theorem catchmentlaw27_CursorRises.calls (k : Nat) (a0_0 : ByteArray) (a0_1 : ByteArray) (A1 : Option Addr) (c1 : Nat) (l1 : List S34) (r : Bool) (w : World) (hr1 : Kd.C k34 w A1 l1.length l1) (hc1 : l1.length ≤ c1) (h : catchmentlaw27_CursorRises.f k a0_0 a0_1 l1 = some r) :
    Calls Try.prog 3 #[.agg #[.string a0_0, .string a0_1], .slice A1 l1.length c1] w fun e w' => e = .returned (.bool r) ∧ Below w.heap.size w w' := by
  unfold catchmentlaw27_CursorRises.f at h
  split at h
  · rename_i hq
    cases h
    cases hr : Cur.rrB a0_0 a0_1 with
    | false => exact Cur.rises_no a0_0 a0_1 hr
    | true =>
      refine Cur.rises_yes a0_0 a0_1 hr hr1 hc1 (fun d hd y hy => ?_)
      have := List.all_eq_true.1 (List.all_eq_true.1 hq d hd) y hy
      simpa using this
  · cases h
theorem catchmentlaw27_CursorRises.yes (a0_0 : ByteArray) (a0_1 : ByteArray) (l1 : List S34) (h : ∀ a ∈ l1, wf34 a) : catchmentlaw27_CursorRises.f 0 a0_0 a0_1 l1 = some true := by
  have : short27 l1 = true := List.all_eq_true.2 (fun d hd => List.all_eq_true.2 (fun y hy => by simpa using ((h d hd).2.2.2.2.2 y hy).1))
  unfold catchmentlaw27_CursorRises.f
  rw [if_pos this]
end Go.Proofs.Ytohipdjoeoaphaa.P
