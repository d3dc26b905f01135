/-
  ReplaceVar answers as the reference, for all arguments.
-/
import Derived.Test.YtjelhemaohjkdaaVq1
import Derived.Test.YtjelhemaohjkdaaVq2
import Derived.Test.YtjelhemaohjkdaaLibFnExactReplaceVar
namespace Go.Proofs.Ytjelhemaohjkdaa.Pure
open Go.RowKit Go.Proofs.Ytjelhemaohjkdaa.Vq Go.Proofs.YtjelhemaohjkdaaW.PrintWords Go.Proofs.YtjelhemaohjkdaaW.PrintLast Go.Proofs.YtjelhemaohjkdaaW.PrintMore
set_option linter.unusedVariables false
set_option linter.unusedSimpArgs false
theorem FnExactReplaceVar : laws_FnExactReplaceVar.Pure := by
  intro a0 a1 a2 _ _ _
  unfold laws_FnExactReplaceVar.f spec_ReplaceVar.f impl_ReplaceVar.f
  by_cases h0 : a0.size ≤ 1048576
  case neg => rw [if_pos (by omega)]
  rw [if_neg (by omega)]
  by_cases h1 : a1.size ≤ 1048576
  case neg => rw [if_pos (by omega)]
  rw [if_neg (by omega)]
  by_cases h2 : a2.size ≤ 1048576
  case neg => rw [if_pos (by omega)]
  rw [if_neg (by omega), if_pos ⟨h0, h1, h2⟩]
  simp
end Go.Proofs.Ytjelhemaohjkdaa.Pure
