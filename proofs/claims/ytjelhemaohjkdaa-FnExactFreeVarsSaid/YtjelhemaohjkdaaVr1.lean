-- Written for this claim by a program (wip/hyb/hyb.py).
import Derived.Test.YtjelhemaohjkdaaVr0
namespace Go.Proofs.Ytjelhemaohjkdaa.Vr
open Go.RowKit Go.Proofs.YtjelhemaohjkdaaW.PrintWords Go.Proofs.YtjelhemaohjkdaaW.PrintLast Go.Proofs.YtjelhemaohjkdaaW.PrintMore
attribute [local go_sem] max2_int min2_int max_two min_two max_three min_three max_four min_four   -- for this text's walks alone
set_option linter.unusedVariables false
set_option linter.unusedSimpArgs false

/-! ### spec_FreeVars: function 37 -/
def spec_FreeVars.f (a0 : ByteArray) : Option ByteArray := if a0.size ≤ 1048576 then some ((tmOf a0.data.toList).elim ⟨#[]⟩ fun t => ⟨t.fv.toArray⟩) else none
theorem spec_FreeVars.calls (a0 : ByteArray) (r : ByteArray) (w : World) (h : spec_FreeVars.f a0 = some r) :
    Calls Try.prog 37 #[.string a0] w fun e w' => e = .returned (.string r) ∧ Below w.heap.size w w' := by
  unfold spec_FreeVars.f at h
  by_cases hs : a0.size ≤ 1048576
  case neg => rw [if_neg hs] at h; cases h
  rw [if_pos hs] at h
  have e : ((tmOf a0.data.toList).elim ⟨#[]⟩ fun t => ⟨t.fv.toArray⟩) = r := Option.some.inj h
  rw [← e]; exact spec_FreeVars_walk a0 w hs

/-! ### impl_FreeVars: function 38 -/
def impl_FreeVars.f (a0 : ByteArray) : Option ByteArray := some ((tmOf a0.data.toList).elim ⟨#[]⟩ fun t => ⟨t.fv.toArray⟩)
theorem impl_FreeVars.calls (a0 : ByteArray) (r : ByteArray) (w : World) (h : impl_FreeVars.f a0 = some r) :
    Calls Try.prog 38 #[.string a0] w fun e w' => e = .returned (.string r) ∧ Below w.heap.size w w' := by
  have e : ((tmOf a0.data.toList).elim ⟨#[]⟩ fun t => ⟨t.fv.toArray⟩) = r := Option.some.inj h
  rw [← e]; exact impl_FreeVars_walk a0 w

end Go.Proofs.Ytjelhemaohjkdaa.Vr
