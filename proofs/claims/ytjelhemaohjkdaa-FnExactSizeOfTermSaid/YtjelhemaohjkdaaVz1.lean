-- Written for this claim by a program (wip/hyb/hyb.py).
import Derived.Test.YtjelhemaohjkdaaVz0
namespace Go.Proofs.Ytjelhemaohjkdaa.Vz
open Go.RowKit Go.Proofs.YtjelhemaohjkdaaW.PrintWords Go.Proofs.YtjelhemaohjkdaaW.PrintLast Go.Proofs.YtjelhemaohjkdaaW.PrintMore
attribute [local go_sem] max2_int min2_int max_two min_two max_three min_three max_four min_four   -- for this text's walks alone
set_option linter.unusedVariables false
set_option linter.unusedSimpArgs false

/-! ### spec_SizeOfTerm: function 18 -/
def spec_SizeOfTerm.f (a0 : ByteArray) : Option Int := if a0.size ≤ 1048576 then some ((tmOf a0.data.toList).elim (-1) Tm.sz) else none
theorem spec_SizeOfTerm.calls (a0 : ByteArray) (r : Int) (w : World) (h : spec_SizeOfTerm.f a0 = some r) :
    Calls Try.prog 18 #[.string a0] w fun e w' => e = .returned (.int .i64 r) ∧ Below w.heap.size w w' := by
  unfold spec_SizeOfTerm.f at h
  by_cases hs : a0.size ≤ 1048576
  case neg => rw [if_neg hs] at h; cases h
  rw [if_pos hs] at h
  have e : ((tmOf a0.data.toList).elim (-1) Tm.sz) = r := Option.some.inj h
  rw [← e]; exact spec_SizeOfTerm_walk a0 w hs

/-! ### impl_SizeOfTerm: function 19 -/
def impl_SizeOfTerm.f (a0 : ByteArray) : Option Int := some ((tmOf a0.data.toList).elim (-1) Tm.sz)
theorem impl_SizeOfTerm.calls (a0 : ByteArray) (r : Int) (w : World) (h : impl_SizeOfTerm.f a0 = some r) :
    Calls Try.prog 19 #[.string a0] w fun e w' => e = .returned (.int .i64 r) ∧ Below w.heap.size w w' := by
  have e : ((tmOf a0.data.toList).elim (-1) Tm.sz) = r := Option.some.inj h
  rw [← e]; exact impl_SizeOfTerm_walk a0 w

end Go.Proofs.Ytjelhemaohjkdaa.Vz
