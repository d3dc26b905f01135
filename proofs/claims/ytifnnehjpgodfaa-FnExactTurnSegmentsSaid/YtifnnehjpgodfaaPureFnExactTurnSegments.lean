/-
  TurnSegments answers as the reference, for all arguments.
-/
import Derived.Test.YtifnnehjpgodfaaTu4
import Derived.Test.YtifnnehjpgodfaaLibFnExactTurnSegments
namespace Go.Proofs.Ytifnnehjpgodfaa.Pure
open Go.RowKit Go.Proofs.Ytifnnehjpgodfaa.Tu Go.Proofs.YtifnnehjpgodfaaW.PrintWords Go.Proofs.YtifnnehjpgodfaaW.PrintLast Go.Proofs.YtifnnehjpgodfaaW.PrintMore
set_option linter.unusedVariables false
set_option linter.unusedSimpArgs false
attribute [local congr] obind_congr
theorem FnExactTurnSegments : laws_FnExactTurnSegments.Pure := by
  intro l0 _ _ _
  obtain ⟨K, hK⟩ : ∃ K, 3000010 ≤ K := ⟨3000010, Nat.le_refl _⟩
  refine ⟨K + 5, ?_⟩
  unfold laws_FnExactTurnSegments.f
  by_cases h0 : l0.length ≤ 1048576
  case neg => rw [if_pos (by omega)]
  rw [if_neg (by omega)]
  have hg := turnV_len l0
  simp (discharger := omega) only [toIntS_eq, spec_Turn_eq, impl_Turn_eq, eqIntS_eq, markIntS_eq, heldIntS_eq, ramp_length, Option.bind_some, decide_true, bne_self_eq_false, Bool.false_eq_true, ↓reduceIte,
    laws_FnExactTurnSegments.j0, lt0_1, lt0_2]
end Go.Proofs.Ytifnnehjpgodfaa.Pure
