/- The plain law of OrderNil: the Lean function of the same text answers true at every input. -/
import Derived.Test.YtdbkjpnejihnhaaQxOrderNil
import Derived.Test.YtdbkjpnejihnhaaKd
namespace Go.Proofs.Ytdbkjpnejihnhaa.Pure
open Go.RowKit Go.Proofs.Ytdbkjpnejihnhaa.P Go.Proofs.YtdbkjpnejihnhaaW.PrintWords Go.Proofs.YtdbkjpnejihnhaaW.PrintLast Go.Proofs.YtdbkjpnejihnhaaW.PrintMore

theorem OrderNil : ∀ (x0 : S49), (wf49 x0) → ∃ k, catchmentlaw01_OrderNil.f k x0.f0 x0.f1 x0.f2 x0.f3 = some true := by
  intros; exact ⟨0, rfl⟩

end Go.Proofs.Ytdbkjpnejihnhaa.Pure
