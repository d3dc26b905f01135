/-
  IsFunction answers as the reference, for all arguments.
-/
import Derived.Test.YtjelhemaohjkdaaVf1
import Derived.Test.YtjelhemaohjkdaaVf2
import Derived.Test.YtjelhemaohjkdaaLibFnExactIsFunction
namespace Go.Proofs.Ytjelhemaohjkdaa.Pure
open Go.RowKit Go.Proofs.Ytjelhemaohjkdaa.Vf Go.Proofs.YtjelhemaohjkdaaW.PrintWords Go.Proofs.YtjelhemaohjkdaaW.PrintLast Go.Proofs.YtjelhemaohjkdaaW.PrintMore
set_option linter.unusedVariables false
set_option linter.unusedSimpArgs false
theorem FnExactIsFunction : laws_FnExactIsFunction.Pure := by
  intro a0 _
  unfold laws_FnExactIsFunction.f spec_IsFunction.f impl_IsFunction.f
  by_cases h0 : a0.size ≤ 1048576
  case neg => rw [if_pos (by omega)]
  rw [if_neg (by omega), if_pos h0]
  have := is_same (tmOf a0.data.toList)
  simp [this]
end Go.Proofs.Ytjelhemaohjkdaa.Pure
