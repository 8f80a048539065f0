/- Texts of one claim (laid by shake.py). -/
import Derived.Test.YtebejadiaooooaaZs27
set_option linter.unusedVariables false
set_option linter.unusedSimpArgs false
section
namespace Go.Proofs.Ytebejadiaooooaa.Am
open Go.Proofs.Ytebejadiaooooaa.Cp Go.RowKit Go.Proofs.YtebejadiaooooaaW.PrintWords Go.Proofs.YtebejadiaooooaaW.PrintLast Go.Proofs.YtebejadiaooooaaW.PrintMore Go.Proofs.Ytebejadiaooooaa.Own Go.Proofs.Ytebejadiaooooaa
def okMk (l : List Ms) : Bool := decide (l.length ≤ 50000) && l.all (fun x => decide (x.f2.size ≤ 140737488351232) && decide (x.f3.size ≤ 140737488351232))
theorem okMk_iff {l : List Ms} : okMk l = true ↔ l.length ≤ 50000 ∧ ∀ x ∈ l, okS2 x := by
 simp [okMk, okS2]
def marksF (l m : List Ms) : Option (List ByteArray × List ByteArray) := if (okMk l && okMk m) = true then some (marksK (l ++ m), marksV (l ++ m)) else none
theorem marksF_calls {w : World} {A0 A1 : Option Addr} {c0 c1 : Nat} {l0 l1 : List Ms} {r1 r2 : List ByteArray} (hr0 : Kd.C P.k32 w A0 l0.length l0) (hc0 : l0.length ≤ c0) (hr1 : Kd.C P.k32 w A1 l1.length l1) (hc1 : l1.length ≤ c1) (h : marksF l0 l1 = some (r1, r2)) :
  Calls Try.prog 112 #[.slice A0 l0.length c0, .slice A1 l1.length c1] w fun e w' => ∃ v0_ v1_ : Value, e = .returned (.tuple #[v0_, v1_]) ∧ Kd.R Kd.string 9 w' w.heap.size (fun k_ => some k_ ≠ (v1_ : Value).ownBlock) v0_ r1 ∧ Kd.R Kd.string 9 w' w.heap.size (fun k_ => some k_ ≠ (v0_ : Value).ownBlock) v1_ r2 ∧ Below w.heap.size w w' := by
 unfold marksF at h
 split at h
 ·rename_i hk
  rw [Bool.and_eq_true] at hk
  obtain ⟨hl, hs⟩ := okMk_iff.1 hk.1
  obtain ⟨hm, ht⟩ := okMk_iff.1 hk.2
  have := Option.some.inj h
  simp only [Prod.mk.injEq] at this
  obtain ⟨rfl, rfl⟩ := this
  refine (marks_any hr0 hr1 hc0 hc1 hl hm hs ht).mono ?_
  rintro e w' ⟨kv, vv, rfl, hT, hb⟩
  exact ⟨kv, vv, rfl, Kd.R_of_own hT.k (fun k hk => by rw [← hk]; exact hT.ne), Kd.R_of_own hT.v (fun k hk => by rw [← hk]; exact fun e => hT.ne e.symm), hb⟩
 ·cases h
end Go.Proofs.Ytebejadiaooooaa.Am
end
