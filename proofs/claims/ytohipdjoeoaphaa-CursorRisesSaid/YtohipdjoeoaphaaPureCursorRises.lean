/- The plain law of CursorRises: the Lean function of the same text answers true at every input. -/
import Derived.Test.YtohipdjoeoaphaaQxCursorRises
import Derived.Test.YtohipdjoeoaphaaKd
namespace Go.Proofs.Ytohipdjoeoaphaa.Pure
open Go.RowKit Go.Proofs.Ytohipdjoeoaphaa.P Go.Proofs.YtohipdjoeoaphaaW.PrintWords Go.Proofs.YtohipdjoeoaphaaW.PrintLast Go.Proofs.YtohipdjoeoaphaaW.PrintMore

theorem CursorRises : ∀ (x0 : S23) (x1 : (List S34)), (wf23 x0) → (x1.length * 80 ≤ 140737488351232 ∧ ∀ a_ ∈ x1, wf34 a_) → ∃ k, catchmentlaw27_CursorRises.f k x0.f0 x0.f1 x1 = some true := by
  intro x0 x1 _ h; exact ⟨0, catchmentlaw27_CursorRises.yes _ _ _ h.2⟩

end Go.Proofs.Ytohipdjoeoaphaa.Pure
