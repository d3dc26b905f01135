/-
  TermValid answers as the reference, for all arguments.
-/
import Derived.Test.YtjelhemaohjkdaaV1
import Derived.Test.YtjelhemaohjkdaaV2
import Derived.Test.YtjelhemaohjkdaaLibFnExactTermValid
namespace Go.Proofs.Ytjelhemaohjkdaa.Pure
open Go.RowKit Go.Proofs.Ytjelhemaohjkdaa.V Go.Proofs.YtjelhemaohjkdaaW.PrintWords Go.Proofs.YtjelhemaohjkdaaW.PrintLast Go.Proofs.YtjelhemaohjkdaaW.PrintMore
set_option linter.unusedVariables false
set_option linter.unusedSimpArgs false
theorem FnExactTermValid : laws_FnExactTermValid.Pure := by
  intro a0 _
  unfold laws_FnExactTermValid.f spec_TermValid.f impl_TermValid.f
  by_cases h0 : a0.size ≤ 1048576
  case neg => rw [if_pos (by omega)]
  rw [if_neg (by omega), if_pos h0]
  simp
end Go.Proofs.Ytjelhemaohjkdaa.Pure
