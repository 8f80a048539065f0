/- The plain law of OrderRises: the Lean function of the same text answers true at every input. -/
import Derived.Test.YtdbkjpnejihnhaaQxOrderRises
import Derived.Test.YtdbkjpnejihnhaaKd
namespace Go.Proofs.Ytdbkjpnejihnhaa.Pure
open Go.RowKit Go.Proofs.Ytdbkjpnejihnhaa.P Go.Proofs.YtdbkjpnejihnhaaW.PrintWords Go.Proofs.YtdbkjpnejihnhaaW.PrintLast Go.Proofs.YtdbkjpnejihnhaaW.PrintMore

theorem OrderRises : ∀ (x0 : (List S49)), (x0.length * 48 ≤ 140737488351232 ∧ ∀ a_ ∈ x0, wf49 a_) → ∃ k, catchmentlaw01_OrderRises.f k x0 = some true := by
  intros; exact ⟨0, rfl⟩

end Go.Proofs.Ytdbkjpnejihnhaa.Pure
