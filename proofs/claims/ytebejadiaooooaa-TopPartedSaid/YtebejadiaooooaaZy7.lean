/- Texts of one claim (laid by shake.py). -/
import Derived.Test.YtebejadiaooooaaZy3
set_option linter.unusedVariables false
set_option linter.unusedSimpArgs false
section
namespace Go.Proofs.Ytebejadiaooooaa.P
open Go.RowKit Go.Proofs.YtebejadiaooooaaW.PrintWords Go.Proofs.YtebejadiaooooaaW.PrintLast Go.Proofs.YtebejadiaooooaaW.PrintMore Go.Proofs.Ytebejadiaooooaa.Own
attribute [local go_sem] max2_str max2_int min2_int max_two min_two max_three min_three max_four min_four   -- for this text's walks alone
theorem eqA39 (d : Nat) (w : World) (x0 y0 : BA) (x1 y1 : BA) :
  (Op.equalIn (d + 2) 39 (.agg #[.string x0, .string x1]) (.agg #[.string y0, .string y1])).run Try.prog w = .ok (x0.toList == y0.toList && (x1.toList == y1.toList)) w := by
 refine eqA_of Try.underlying39 (by kernel_rfl) ?_
 refine eqf_cons (by rfl) (by go_simp; rfl) (by go_simp; rfl) (by go_simp) ?_
 exact eqf_last (by rfl) (by go_simp; rfl) (by go_simp; rfl) (by go_simp)
end Go.Proofs.Ytebejadiaooooaa.P
end
