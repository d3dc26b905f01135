/-
  DepthOfTerm answers as the reference, for all arguments.
-/
import Derived.Test.YtjelhemaohjkdaaVd1
import Derived.Test.YtjelhemaohjkdaaVd2
import Derived.Test.YtjelhemaohjkdaaLibFnExactDepthOfTerm
namespace Go.Proofs.Ytjelhemaohjkdaa.Pure
open Go.RowKit Go.Proofs.Ytjelhemaohjkdaa.Vd Go.Proofs.YtjelhemaohjkdaaW.PrintWords Go.Proofs.YtjelhemaohjkdaaW.PrintLast Go.Proofs.YtjelhemaohjkdaaW.PrintMore
set_option linter.unusedVariables false
set_option linter.unusedSimpArgs false
theorem FnExactDepthOfTerm : laws_FnExactDepthOfTerm.Pure := by
  intro a0 _
  unfold laws_FnExactDepthOfTerm.f spec_DepthOfTerm.f impl_DepthOfTerm.f
  by_cases h0 : a0.size ≤ 1048576
  case neg => rw [if_pos (by omega)]
  rw [if_neg (by omega), if_pos h0]
  simp
end Go.Proofs.Ytjelhemaohjkdaa.Pure
