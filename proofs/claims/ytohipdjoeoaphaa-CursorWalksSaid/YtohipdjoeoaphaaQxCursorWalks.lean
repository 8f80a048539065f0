/- CursorWalks: its contract, in the form that the row asks. -/
import Derived.Test.YtohipdjoeoaphaaCl
set_option linter.unusedVariables false
namespace Go.Proofs.Ytohipdjoeoaphaa.P
open Go.RowKit Go.Proofs.YtohipdjoeoaphaaW.PrintWords
def smallW (l : List S39) (m : Int) : Bool := l.all (fun y => decide (y.f0.size ≤ 140737488351232)) && decide (0 ≤ m ∧ m ≤ 255)
def catchmentlaw27_CursorWalks.f (k : Nat) (l0 : List S39) (a1_0 : ByteArray) (a1_1 : ByteArray) (a2 : Int) : Option Bool := if smallW l0 a2 = true then some true else none
theorem catchmentlaw27_CursorWalks.calls (k : Nat) (A0 : Option Addr) (c0 : Nat) (l0 : List S39) (a1_0 : ByteArray) (a1_1 : ByteArray) (a2 : Int) (r : Bool) (w : World) (hr0 : Kd.C k39 w A0 l0.length l0) (hc0 : l0.length ≤ c0) (h : catchmentlaw27_CursorWalks.f k l0 a1_0 a1_1 a2 = some r) :
    Calls Try.prog 4 #[.slice A0 l0.length c0, .agg #[.string a1_0, .string a1_1], .int .u8 a2] w fun e w' => e = .returned (.bool r) ∧ Below w.heap.size w w' := by
  unfold catchmentlaw27_CursorWalks.f at h
  split at h
  · rename_i hq
    cases h
    unfold smallW at hq
    rw [Bool.and_eq_true, decide_eq_true_eq] at hq
    have hsz : ∀ x ∈ l0, x.f0.size ≤ 140737488351232 := fun x hx => by simpa using List.all_eq_true.1 hq.1 x hx
    cases hr : Cur.rrB a1_0 a1_1 with
    | false => exact Cur.walks_no a1_0 a1_1 a2 hq.2.1 hq.2.2 hr hr0 hc0
    | true =>
      cases hE : risesV (l0.take 60) with
      | false => exact Cur.walks_fall a1_0 a1_1 a2 hq.2.1 hq.2.2 hr hr0 hc0 hE
      | true => exact Cur.walks_rise a1_0 a1_1 a2 hq.2.1 hq.2.2 hr hr0 hc0 hsz hE
  · cases h
theorem catchmentlaw27_CursorWalks.yes (l0 : List S39) (a1_0 : ByteArray) (a1_1 : ByteArray) (a2 : Int) (h : ∀ a ∈ l0, wf39 a) (h2 : (Lit.int .u8 a2).wf = true) : catchmentlaw27_CursorWalks.f 0 l0 a1_0 a1_1 a2 = some true := by
  have e2 : 0 ≤ a2 ∧ a2 ≤ 255 := by
    simp [Lit.wf, IntKind.min, IntKind.max, IntKind.signed, IntKind.bits] at h2
    omega
  have : smallW l0 a2 = true := by
    unfold smallW
    rw [Bool.and_eq_true, decide_eq_true_eq]
    exact ⟨List.all_eq_true.2 (fun y hy => by simpa using (h y hy).1), e2⟩
  unfold catchmentlaw27_CursorWalks.f
  rw [if_pos this]
end Go.Proofs.Ytohipdjoeoaphaa.P
