/-
  LevelsOf answers as the reference, for all arguments.
-/
import Derived.Test.YtjelhemaohjkdaaVl1
import Derived.Test.YtjelhemaohjkdaaVl2
import Derived.Test.YtjelhemaohjkdaaLibFnExactLevelsOf
namespace Go.Proofs.Ytjelhemaohjkdaa.Pure
open Go.RowKit Go.Proofs.Ytjelhemaohjkdaa.Vl Go.Proofs.YtjelhemaohjkdaaW.PrintWords Go.Proofs.YtjelhemaohjkdaaW.PrintLast Go.Proofs.YtjelhemaohjkdaaW.PrintMore
set_option linter.unusedVariables false
set_option linter.unusedSimpArgs false
theorem FnExactLevelsOf : laws_FnExactLevelsOf.Pure := by
  intro a0 _
  unfold laws_FnExactLevelsOf.f spec_LevelsOf.f impl_LevelsOf.f
  by_cases h0 : a0.size ≤ 1048576
  case neg => rw [if_pos (by omega)]
  rw [if_neg (by omega), if_pos h0]
  simp
end Go.Proofs.Ytjelhemaohjkdaa.Pure
