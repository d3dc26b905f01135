/-
  WeaveData answers as the reference, for all arguments.
-/
import Derived.Test.YtifnnehjpgodfaaWe4
import Derived.Test.YtifnnehjpgodfaaLibFnExactWeaveData
namespace Go.Proofs.Ytifnnehjpgodfaa.Pure
open Go.RowKit Go.Proofs.Ytifnnehjpgodfaa.We Go.Proofs.YtifnnehjpgodfaaW.PrintWords Go.Proofs.YtifnnehjpgodfaaW.PrintLast Go.Proofs.YtifnnehjpgodfaaW.PrintMore
set_option linter.unusedVariables false
set_option linter.unusedSimpArgs false
attribute [local congr] obind_congr
theorem FnExactWeaveData : laws_FnExactWeaveData.Pure := by
  intro l0 l1 l2 _ _ _ _ _ _ _ _ _
  obtain ⟨K, hK⟩ : ∃ K, 4049710 ≤ K := ⟨4049710, Nat.le_refl _⟩
  refine ⟨K + 5, ?_⟩
  unfold laws_FnExactWeaveData.f
  by_cases h0 : l0.length ≤ 1048576
  case neg => rw [if_pos (by omega)]
  rw [if_neg (by omega)]
  by_cases h1 : l1.length ≤ 1048576
  case neg => rw [if_pos (by omega)]
  rw [if_neg (by omega)]
  by_cases h2 : l2.length ≤ 1048576
  case neg => rw [if_pos (by omega)]
  rw [if_neg (by omega)]
  have hg := wvV_len l0 l1 l2
  simp (discharger := omega) only [toIntS_eq, spec_Weave_eq, impl_Weave_eq, eqIntS_eq, markIntS_eq, heldIntS_eq, ramp_length, Option.bind_some, decide_true, bne_self_eq_false, Bool.false_eq_true, ↓reduceIte,
    laws_FnExactWeaveData.j0, lt0_1, lt0_2, lt0_3, lt0_4]
end Go.Proofs.Ytifnnehjpgodfaa.Pure
