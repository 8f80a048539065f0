/- The plain law of CursorWalks: the Lean function of the same text answers true at every input. -/
import Derived.Test.YtohipdjoeoaphaaQxCursorWalks
import Derived.Test.YtohipdjoeoaphaaKd
namespace Go.Proofs.Ytohipdjoeoaphaa.Pure
open Go.RowKit Go.Proofs.Ytohipdjoeoaphaa.P Go.Proofs.YtohipdjoeoaphaaW.PrintWords Go.Proofs.YtohipdjoeoaphaaW.PrintLast Go.Proofs.YtohipdjoeoaphaaW.PrintMore

theorem CursorWalks : ∀ (x0 : (List S39)) (x1 : S23) (x2 : Int), (x0.length * 32 ≤ 140737488351232 ∧ ∀ a_ ∈ x0, wf39 a_) → (wf23 x1) → ((Lit.int .u8 x2).wf = true) → ∃ k, catchmentlaw27_CursorWalks.f k x0 x1.f0 x1.f1 x2 = some true := by
  intro x0 x1 x2 h0 h1 h2; exact ⟨0, catchmentlaw27_CursorWalks.yes _ _ _ _ h0.2 h2⟩

end Go.Proofs.Ytohipdjoeoaphaa.Pure
