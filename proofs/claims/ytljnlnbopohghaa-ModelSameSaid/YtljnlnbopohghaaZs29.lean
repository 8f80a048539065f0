/- Texts of one claim (laid by shake.py). -/
import Derived.Test.YtljnlnbopohghaaZs3
import Derived.Test.YtljnlnbopohghaaZs28
set_option linter.unusedVariables false
set_option linter.unusedSimpArgs false
section
namespace Go.Proofs.Ytljnlnbopohghaa.P
open Go.RowKit Go.Proofs.YtljnlnbopohghaaW.PrintWords Go.Proofs.YtljnlnbopohghaaW.PrintLast Go.Proofs.YtljnlnbopohghaaW.PrintMore Go.Proofs.Ytljnlnbopohghaa.Own
attribute [local go_sem] max2_str max2_int min2_int max_two min_two max_three min_three max_four min_four   -- for this text's walks alone
def catchmentlaw28_live.f : Option (Bool) := Lv.liveF
theorem catchmentlaw28_live.calls (r : Bool) (w : World) (h : catchmentlaw28_live.f = some r) :
  Calls Try.prog 21 #[] w fun e w' => e = .returned (.bool r) ∧ Below w.heap.size w w' :=
 Lv.liveF_calls w h
end Go.Proofs.Ytljnlnbopohghaa.P
end
