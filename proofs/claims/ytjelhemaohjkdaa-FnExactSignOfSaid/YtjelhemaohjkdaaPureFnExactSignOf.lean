/-
  SignOf answers as the reference, for all arguments.
-/
import Derived.Test.YtjelhemaohjkdaaVs1
import Derived.Test.YtjelhemaohjkdaaVs2
import Derived.Test.YtjelhemaohjkdaaLibFnExactSignOf
namespace Go.Proofs.Ytjelhemaohjkdaa.Pure
open Go.RowKit Go.Proofs.Ytjelhemaohjkdaa.Vs Go.Proofs.YtjelhemaohjkdaaW.PrintWords Go.Proofs.YtjelhemaohjkdaaW.PrintLast Go.Proofs.YtjelhemaohjkdaaW.PrintMore
set_option linter.unusedVariables false
set_option linter.unusedSimpArgs false
theorem FnExactSignOf : laws_FnExactSignOf.Pure := by
  intro a0 _
  unfold laws_FnExactSignOf.f spec_SignOf.f impl_SignOf.f
  by_cases h0 : a0.size ≤ 1048576
  case neg => rw [if_pos (by omega)]
  rw [if_neg (by omega), if_pos h0]
  simp
end Go.Proofs.Ytjelhemaohjkdaa.Pure
