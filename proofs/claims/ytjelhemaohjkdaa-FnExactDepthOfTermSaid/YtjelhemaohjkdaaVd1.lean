-- Written for this claim by a program (wip/hyb/hyb.py).
import Derived.Test.YtjelhemaohjkdaaVd0
namespace Go.Proofs.Ytjelhemaohjkdaa.Vd
open Go.RowKit Go.Proofs.YtjelhemaohjkdaaW.PrintWords Go.Proofs.YtjelhemaohjkdaaW.PrintLast Go.Proofs.YtjelhemaohjkdaaW.PrintMore
attribute [local go_sem] max2_int min2_int max_two min_two max_three min_three max_four min_four   -- for this text's walks alone
set_option linter.unusedVariables false
set_option linter.unusedSimpArgs false

/-! ### spec_DepthOfTerm: function 31 -/
def spec_DepthOfTerm.f (a0 : ByteArray) : Option Int := if a0.size ≤ 1048576 then some ((tmOf a0.data.toList).elim (-1) fun t => t.dp F0) else none
theorem spec_DepthOfTerm.calls (a0 : ByteArray) (r : Int) (w : World) (h : spec_DepthOfTerm.f a0 = some r) :
    Calls Try.prog 31 #[.string a0] w fun e w' => e = .returned (.int .i64 r) ∧ Below w.heap.size w w' := by
  unfold spec_DepthOfTerm.f at h
  by_cases hs : a0.size ≤ 1048576
  case neg => rw [if_neg hs] at h; cases h
  rw [if_pos hs] at h
  have e : ((tmOf a0.data.toList).elim (-1) fun t => t.dp F0) = r := Option.some.inj h
  rw [← e]; exact spec_DepthOfTerm_walk a0 w hs

/-! ### impl_DepthOfTerm: function 32 -/
def impl_DepthOfTerm.f (a0 : ByteArray) : Option Int := some ((tmOf a0.data.toList).elim (-1) fun t => t.dp F0)
theorem impl_DepthOfTerm.calls (a0 : ByteArray) (r : Int) (w : World) (h : impl_DepthOfTerm.f a0 = some r) :
    Calls Try.prog 32 #[.string a0] w fun e w' => e = .returned (.int .i64 r) ∧ Below w.heap.size w w' := by
  have e : ((tmOf a0.data.toList).elim (-1) fun t => t.dp F0) = r := Option.some.inj h
  rw [← e]; exact impl_DepthOfTerm_walk a0 w

end Go.Proofs.Ytjelhemaohjkdaa.Vd
