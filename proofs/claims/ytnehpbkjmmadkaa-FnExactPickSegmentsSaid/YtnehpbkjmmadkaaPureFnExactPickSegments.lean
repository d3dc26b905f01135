/-
  PickSegments answers as the reference, for all arguments.
-/
import Derived.Test.YtnehpbkjmmadkaaPrint23
import Derived.Test.YtnehpbkjmmadkaaLibFnExactPickSegments
namespace Go.Proofs.Ytnehpbkjmmadkaa.Pure
open Go.RowKit Go.Proofs.Ytnehpbkjmmadkaa.Print Go.Proofs.YtnehpbkjmmadkaaW.PrintWords Go.Proofs.YtnehpbkjmmadkaaW.PrintLast Go.Proofs.YtnehpbkjmmadkaaW.PrintMore
set_option linter.unusedVariables false
set_option linter.unusedSimpArgs false
attribute [local congr] obind_congr
theorem FnExactPickSegments : laws_FnExactPickSegments.Pure := by
  intro l0 l1 l2 _ _ _ _ _ _ _ _ _
  obtain ⟨K, hK⟩ : ∃ K, 3001010 ≤ K := ⟨3001010, Nat.le_refl _⟩
  refine ⟨K + 5, ?_⟩
  unfold laws_FnExactPickSegments.f
  by_cases h0 : l0.length ≤ 1048576
  case neg => rw [if_pos (by omega)]
  rw [if_neg (by omega)]
  by_cases h1 : l1.length ≤ 1048576
  case neg => rw [if_pos (by omega)]
  rw [if_neg (by omega)]
  by_cases h2 : l2.length ≤ 1048576
  case neg => rw [if_pos (by omega)]
  rw [if_neg (by omega)]
  have hg := pickV_len l0 l1 l2
  have hg2 := pickV_len2 l0 l1 l2
  simp (discharger := omega) only [toIntS_eq, spec_Pick_eq, impl_Pick_eq, eqIntS_eq, markIntS_eq, heldIntS_eq, ramp_length, Option.bind_some, decide_true, bne_self_eq_false, Bool.false_eq_true, ↓reduceIte,
    laws_FnExactPickSegments.j0, lt0_1, lt0_2, lt0_3, lt0_4]
end Go.Proofs.Ytnehpbkjmmadkaa.Pure
