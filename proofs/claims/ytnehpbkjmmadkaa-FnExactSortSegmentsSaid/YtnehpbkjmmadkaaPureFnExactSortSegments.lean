/-
  SortSegments answers as the reference, for all arguments.
-/
import Derived.Test.YtnehpbkjmmadkaaSo5
import Derived.Test.YtnehpbkjmmadkaaLibFnExactSortSegments
namespace Go.Proofs.Ytnehpbkjmmadkaa.Pure
open Go.RowKit Go.Proofs.Ytnehpbkjmmadkaa.So Go.Proofs.YtnehpbkjmmadkaaW.PrintWords Go.Proofs.YtnehpbkjmmadkaaW.PrintLast Go.Proofs.YtnehpbkjmmadkaaW.PrintMore
set_option linter.unusedVariables false
set_option linter.unusedSimpArgs false
attribute [local congr] obind_congr
theorem FnExactSortSegments : laws_FnExactSortSegments.Pure := by
  intro l0 l1 _ _ _ _ _ _
  obtain ⟨K, hK⟩ : ∃ K, 100000010 ≤ K := ⟨100000010, Nat.le_refl _⟩
  refine ⟨K + 5, ?_⟩
  unfold laws_FnExactSortSegments.f
  by_cases h0 : l0.length ≤ 1048576
  case neg => rw [if_pos (by omega)]
  rw [if_neg (by omega)]
  by_cases h1 : l1.length ≤ 1048576
  case neg => rw [if_pos (by omega)]
  rw [if_neg (by omega)]
  have hg := sortV_len l0 l1
  simp (discharger := omega) only [toIntS_eq, spec_Sort_eq, impl_Sort_eq, eqIntS_eq, markIntS_eq, heldIntS_eq, ramp_length, Option.bind_some, decide_true, bne_self_eq_false, Bool.false_eq_true, ↓reduceIte,
    laws_FnExactSortSegments.j0, lt0_1, lt0_2]
end Go.Proofs.Ytnehpbkjmmadkaa.Pure
