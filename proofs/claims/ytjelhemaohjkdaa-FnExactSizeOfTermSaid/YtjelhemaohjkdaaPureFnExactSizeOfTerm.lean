/-
  SizeOfTerm answers as the reference, for all arguments.
-/
import Derived.Test.YtjelhemaohjkdaaVz1
import Derived.Test.YtjelhemaohjkdaaVz2
import Derived.Test.YtjelhemaohjkdaaLibFnExactSizeOfTerm
namespace Go.Proofs.Ytjelhemaohjkdaa.Pure
open Go.RowKit Go.Proofs.Ytjelhemaohjkdaa.Vz Go.Proofs.YtjelhemaohjkdaaW.PrintWords Go.Proofs.YtjelhemaohjkdaaW.PrintLast Go.Proofs.YtjelhemaohjkdaaW.PrintMore
set_option linter.unusedVariables false
set_option linter.unusedSimpArgs false
theorem FnExactSizeOfTerm : laws_FnExactSizeOfTerm.Pure := by
  intro a0 _
  unfold laws_FnExactSizeOfTerm.f spec_SizeOfTerm.f impl_SizeOfTerm.f
  by_cases h0 : a0.size ≤ 1048576
  case neg => rw [if_pos (by omega)]
  rw [if_neg (by omega), if_pos h0]
  simp
end Go.Proofs.Ytjelhemaohjkdaa.Pure
