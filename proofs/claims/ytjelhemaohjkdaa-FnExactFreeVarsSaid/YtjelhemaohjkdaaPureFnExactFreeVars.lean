/-
  FreeVars answers as the reference, for all arguments.
-/
import Derived.Test.YtjelhemaohjkdaaVr1
import Derived.Test.YtjelhemaohjkdaaVr2
import Derived.Test.YtjelhemaohjkdaaLibFnExactFreeVars
namespace Go.Proofs.Ytjelhemaohjkdaa.Pure
open Go.RowKit Go.Proofs.Ytjelhemaohjkdaa.Vr Go.Proofs.YtjelhemaohjkdaaW.PrintWords Go.Proofs.YtjelhemaohjkdaaW.PrintLast Go.Proofs.YtjelhemaohjkdaaW.PrintMore
set_option linter.unusedVariables false
set_option linter.unusedSimpArgs false
theorem FnExactFreeVars : laws_FnExactFreeVars.Pure := by
  intro a0 _
  unfold laws_FnExactFreeVars.f spec_FreeVars.f impl_FreeVars.f
  by_cases h0 : a0.size ≤ 1048576
  case neg => rw [if_pos (by omega)]
  rw [if_neg (by omega), if_pos h0]
  simp
end Go.Proofs.Ytjelhemaohjkdaa.Pure
