/-
  InvertIndices answers as the reference, for all arguments.
-/
import Derived.Test.YtnehpbkjmmadkaaIi3
import Derived.Test.YtnehpbkjmmadkaaLibFnExactInvertIndices
namespace Go.Proofs.Ytnehpbkjmmadkaa.Pure
open Go.RowKit Go.Proofs.Ytnehpbkjmmadkaa.Ii Go.Proofs.YtnehpbkjmmadkaaW.PrintWords Go.Proofs.YtnehpbkjmmadkaaW.PrintLast Go.Proofs.YtnehpbkjmmadkaaW.PrintMore
set_option linter.unusedVariables false
set_option linter.unusedSimpArgs false
attribute [local congr] obind_congr
theorem FnExactInvertIndices : laws_FnExactInvertIndices.Pure := by
  intro l0 _ _ _
  obtain ⟨K, hK⟩ : ∃ K, 3001010 ≤ K := ⟨3001010, Nat.le_refl _⟩
  refine ⟨K + 5, ?_⟩
  unfold laws_FnExactInvertIndices.f
  by_cases h0 : l0.length ≤ 1048576
  case neg => rw [if_pos (by omega)]
  rw [if_neg (by omega)]
  have hg := inV_len l0
  simp (discharger := omega) only [toIntS_eq, spec_In_eq, impl_In_eq, eqIntS_eq, markIntS_eq, heldIntS_eq, ramp_length, Option.bind_some, decide_true, bne_self_eq_false, Bool.false_eq_true, ↓reduceIte,
    laws_FnExactInvertIndices.j0, lt0_1, lt0_2]
end Go.Proofs.Ytnehpbkjmmadkaa.Pure
