-- Written for this claim by a program (wip/hyb/hyb.py).
import Derived.Test.YtjelhemaohjkdaaV0
namespace Go.Proofs.Ytjelhemaohjkdaa.V
open Go.RowKit Go.Proofs.YtjelhemaohjkdaaW.PrintWords Go.Proofs.YtjelhemaohjkdaaW.PrintLast Go.Proofs.YtjelhemaohjkdaaW.PrintMore
attribute [local go_sem] max2_int min2_int max_two min_two max_three min_three max_four min_four   -- for this text's walks alone
set_option linter.unusedVariables false
set_option linter.unusedSimpArgs false

/-! ### spec_TermValid: function 14 -/
def spec_TermValid.f (a0 : ByteArray) : Option Bool := if a0.size ≤ 1048576 then some (tmOf a0.data.toList).isSome else none
theorem spec_TermValid.calls (a0 : ByteArray) (r : Bool) (w : World) (h : spec_TermValid.f a0 = some r) :
    Calls Try.prog 14 #[.string a0] w fun e w' => e = .returned (.bool r) ∧ Below w.heap.size w w' := by
  unfold spec_TermValid.f at h
  by_cases hs : a0.size ≤ 1048576
  case neg => rw [if_neg hs] at h; cases h
  rw [if_pos hs] at h
  have e : (tmOf a0.data.toList).isSome = r := Option.some.inj h
  rw [← e]; exact spec_TermValid_walk a0 w hs

/-! ### impl_TermValid: function 15 -/
def impl_TermValid.f (a0 : ByteArray) : Option Bool := some (tmOf a0.data.toList).isSome
theorem impl_TermValid.calls (a0 : ByteArray) (r : Bool) (w : World) (h : impl_TermValid.f a0 = some r) :
    Calls Try.prog 15 #[.string a0] w fun e w' => e = .returned (.bool r) ∧ Below w.heap.size w w' := by
  have e : (tmOf a0.data.toList).isSome = r := Option.some.inj h
  rw [← e]; exact impl_TermValid_walk a0 w

end Go.Proofs.Ytjelhemaohjkdaa.V
