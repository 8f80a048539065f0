/- The plain law of OrderNumbers: the Lean function of the same text answers true at every input. -/
import Derived.Test.YtdbkjpnejihnhaaRc
import Derived.Test.YtdbkjpnejihnhaaKd
namespace Go.Proofs.Ytdbkjpnejihnhaa.Pure
open Go.RowKit Go.Proofs.Ytdbkjpnejihnhaa.P Go.Proofs.YtdbkjpnejihnhaaW.PrintWords Go.Proofs.YtdbkjpnejihnhaaW.PrintLast Go.Proofs.YtdbkjpnejihnhaaW.PrintMore

theorem OrderNumbers : ∀ (x0 : (List Int)), (x0.length * 8 ≤ 140737488351232 ∧ ∀ a_ ∈ x0, (Lit.int .i64 a_).wf = true) → ∃ k, catchmentlaw01_OrderNumbers.f k x0 = some true := by
  intros; exact ⟨0, rfl⟩

end Go.Proofs.Ytdbkjpnejihnhaa.Pure
