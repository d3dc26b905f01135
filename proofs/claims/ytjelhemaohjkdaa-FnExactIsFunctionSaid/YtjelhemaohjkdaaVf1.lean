-- Written for this claim by a program (wip/hyb/hyb.py).
import Derived.Test.YtjelhemaohjkdaaVf0
namespace Go.Proofs.Ytjelhemaohjkdaa.Vf
open Go.RowKit Go.Proofs.YtjelhemaohjkdaaW.PrintWords Go.Proofs.YtjelhemaohjkdaaW.PrintLast Go.Proofs.YtjelhemaohjkdaaW.PrintMore
attribute [local go_sem] max2_int min2_int max_two min_two max_three min_three max_four min_four   -- for this text's walks alone
set_option linter.unusedVariables false
set_option linter.unusedSimpArgs false

/-! ### spec_IsFunction: function 33 -/
def spec_IsFunction.f (a0 : ByteArray) : Option Bool := if a0.size ≤ 1048576 then some (decide (0 ≤ (tmOf a0.data.toList).elim (-1) fun t => t.dp F0)) else none
theorem spec_IsFunction.calls (a0 : ByteArray) (r : Bool) (w : World) (h : spec_IsFunction.f a0 = some r) :
    Calls Try.prog 33 #[.string a0] w fun e w' => e = .returned (.bool r) ∧ Below w.heap.size w w' := by
  unfold spec_IsFunction.f at h
  by_cases hs : a0.size ≤ 1048576
  case neg => rw [if_neg hs] at h; cases h
  rw [if_pos hs] at h
  have e : (decide (0 ≤ (tmOf a0.data.toList).elim (-1) fun t => t.dp F0)) = r := Option.some.inj h
  rw [← e]; exact spec_IsFunction_walk a0 w hs

/-! ### impl_IsFunction: function 34 -/
def impl_IsFunction.f (a0 : ByteArray) : Option Bool := some (decide (¬ ((tmOf a0.data.toList).elim (-1) fun t => t.dp F0) = -1))
theorem impl_IsFunction.calls (a0 : ByteArray) (r : Bool) (w : World) (h : impl_IsFunction.f a0 = some r) :
    Calls Try.prog 34 #[.string a0] w fun e w' => e = .returned (.bool r) ∧ Below w.heap.size w w' := by
  have e : (decide (¬ ((tmOf a0.data.toList).elim (-1) fun t => t.dp F0) = -1)) = r := Option.some.inj h
  rw [← e]; exact impl_IsFunction_walk a0 w

end Go.Proofs.Ytjelhemaohjkdaa.Vf
