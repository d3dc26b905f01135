/-
  CountUp answers as the reference, for all arguments.
-/
import Derived.Test.YtifnnehjpgodfaaPrint6
import Derived.Test.YtifnnehjpgodfaaLibC
namespace Go.Proofs.Ytifnnehjpgodfaa.Pure
open Go.RowKit Go.Proofs.Ytifnnehjpgodfaa.Print Go.Proofs.YtifnnehjpgodfaaW.PrintWords Go.Proofs.YtifnnehjpgodfaaW.PrintLast
set_option linter.unusedVariables false
set_option linter.unusedSimpArgs false
attribute [local congr] obind_congr
theorem FnExactCountUp : laws_FnExactCountUp.Pure := by
  intro l0 _ _ _
  obtain ⟨K, hK⟩ : ∃ K, 3000010 ≤ K := ⟨3000010, Nat.le_refl _⟩
  refine ⟨K + 5, ?_⟩
  unfold laws_FnExactCountUp.f
  by_cases h0 : l0.length ≤ 1048576
  case neg => rw [if_pos (by omega)]
  rw [if_neg (by omega)]
  have hg := upV_len l0
  simp (discharger := omega) only [toIntS_eq, spec_Up_eq, impl_Up_eq, eqIntS_eq, markIntS_eq, heldIntS_eq, ramp_length, Option.bind_some, decide_true, bne_self_eq_false, Bool.false_eq_true, ↓reduceIte,
    laws_FnExactCountUp.j0, laws_FnExactCountUp.j1, laws_FnExactCountUp.j2, lt0_1, lt0_2]
end Go.Proofs.Ytifnnehjpgodfaa.Pure
