/- The plain law of MsgChecks: whether a message may be, or why not: both answers are one, at every message and config. -/
import Derived.Test.YtgbikacioojpjaaMv
import Derived.Test.YtgbikacioojpjaaMk
import Derived.Test.YtgbikacioojpjaaP17
import Derived.Test.YtgbikacioojpjaaKd
namespace Go.Proofs.Ytgbikacioojpjaa.Pure
open Go.RowKit Go.Proofs.Ytgbikacioojpjaa.P Go.Proofs.YtgbikacioojpjaaW.PrintWords Go.Proofs.YtgbikacioojpjaaW.PrintLast Go.Proofs.YtgbikacioojpjaaW.PrintMore
theorem MsgChecks : ∀ (x0 : S25) (x1 : S45), (wf25 x0) → (wf45 x1) → ∃ k, catchmentlaw04_MsgChecks.f k x0.f0 x0.f1 x0.f2 x0.f3 x0.f4 x0.f5 x1.f0 x1.f1 x1.f2 x1.f3 x1.f4 x1.f5 x1.f6 x1.f7 x1.f8 = some true := by
  intro m c hm _
  obtain ⟨_, _, hy, _⟩ := hm
  refine ⟨50, ?_⟩
  unfold catchmentlaw04_MsgChecks.f
  rw [live_eq 11, Check_eq 41 _ _ _ _ _ _ _ _ _ _ _ _ _ _ _ hy, ref_Check_eq 31]
  simp
end Go.Proofs.Ytgbikacioojpjaa.Pure
