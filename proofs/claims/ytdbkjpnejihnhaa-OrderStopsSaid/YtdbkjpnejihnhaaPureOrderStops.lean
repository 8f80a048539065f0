/- The plain law of OrderStops: the Lean function of the same text answers true at every input. -/
import Derived.Test.YtdbkjpnejihnhaaQxOrderStops
import Derived.Test.YtdbkjpnejihnhaaKd
namespace Go.Proofs.Ytdbkjpnejihnhaa.Pure
open Go.RowKit Go.Proofs.Ytdbkjpnejihnhaa.P Go.Proofs.YtdbkjpnejihnhaaW.PrintWords Go.Proofs.YtdbkjpnejihnhaaW.PrintLast Go.Proofs.YtdbkjpnejihnhaaW.PrintMore

theorem OrderStops : ∀ (x0 : (List S49)) (x1 : ByteArray) (x2 : Int), (x0.length * 48 ≤ 140737488351232 ∧ ∀ a_ ∈ x0, wf49 a_) → (x1.size ≤ 140737488351232) → ((Lit.int .u8 x2).wf = true) → ∃ k, catchmentlaw01_OrderStops.f k x0 x1 x2 = some true := by
  exact fun x0 x1 x2 _ _ h => ⟨0, catchmentlaw01_OrderStops.yes x0 x1 x2 h⟩

end Go.Proofs.Ytdbkjpnejihnhaa.Pure
