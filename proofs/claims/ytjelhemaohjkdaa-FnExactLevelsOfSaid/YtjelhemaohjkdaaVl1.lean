-- Written for this claim by a program (wip/hyb/hyb.py).
import Derived.Test.YtjelhemaohjkdaaVl0
namespace Go.Proofs.Ytjelhemaohjkdaa.Vl
open Go.RowKit Go.Proofs.YtjelhemaohjkdaaW.PrintWords Go.Proofs.YtjelhemaohjkdaaW.PrintLast Go.Proofs.YtjelhemaohjkdaaW.PrintMore
attribute [local go_sem] max2_int min2_int max_two min_two max_three min_three max_four min_four   -- for this text's walks alone
set_option linter.unusedVariables false
set_option linter.unusedSimpArgs false

/-! ### spec_LevelsOf: function 20 -/
def spec_LevelsOf.f (a0 : ByteArray) : Option Int := if a0.size ≤ 1048576 then some ((tmOf a0.data.toList).elim (-1) Tm.lv) else none
theorem spec_LevelsOf.calls (a0 : ByteArray) (r : Int) (w : World) (h : spec_LevelsOf.f a0 = some r) :
    Calls Try.prog 20 #[.string a0] w fun e w' => e = .returned (.int .i64 r) ∧ Below w.heap.size w w' := by
  unfold spec_LevelsOf.f at h
  by_cases hs : a0.size ≤ 1048576
  case neg => rw [if_neg hs] at h; cases h
  rw [if_pos hs] at h
  have e : ((tmOf a0.data.toList).elim (-1) Tm.lv) = r := Option.some.inj h
  rw [← e]; exact spec_LevelsOf_walk a0 w hs

/-! ### impl_LevelsOf: function 21 -/
def impl_LevelsOf.f (a0 : ByteArray) : Option Int := some ((tmOf a0.data.toList).elim (-1) Tm.lv)
theorem impl_LevelsOf.calls (a0 : ByteArray) (r : Int) (w : World) (h : impl_LevelsOf.f a0 = some r) :
    Calls Try.prog 21 #[.string a0] w fun e w' => e = .returned (.int .i64 r) ∧ Below w.heap.size w w' := by
  have e : ((tmOf a0.data.toList).elim (-1) Tm.lv) = r := Option.some.inj h
  rw [← e]; exact impl_LevelsOf_walk a0 w

end Go.Proofs.Ytjelhemaohjkdaa.Vl
