/-
  SegmentsValid answers as the reference, for all arguments.
-/
import Derived.Test.YtifnnehjpgodfaaPrint2
import Derived.Test.YtifnnehjpgodfaaLibB
namespace Go.Proofs.Ytifnnehjpgodfaa.Pure
open Go.RowKit Go.Proofs.Ytifnnehjpgodfaa.Print Go.Proofs.YtifnnehjpgodfaaW.PrintWords Go.Proofs.YtifnnehjpgodfaaW.PrintLast
set_option linter.unusedVariables false
set_option linter.unusedSimpArgs false
attribute [local congr] obind_congr
theorem FnExactSegmentsValid : laws_FnExactSegmentsValid.Pure := by
  intro l0 l1 _ _ _ _ _ _
  obtain ⟨K, hK⟩ : ∃ K, 3000010 ≤ K := ⟨3000010, Nat.le_refl _⟩
  refine ⟨K + 5, ?_⟩
  unfold laws_FnExactSegmentsValid.f
  by_cases h0 : l0.length ≤ 1048576
  case neg => rw [if_pos (by omega)]
  rw [if_neg (by omega)]
  by_cases h1 : l1.length ≤ 1048576
  case neg => rw [if_pos (by omega)]
  rw [if_neg (by omega)]
  simp (discharger := omega) only [toIntS_eq, spec_SegmentsValid_eq, impl_SegmentsValid_eq, eqIntS_eq, Option.bind_some, decide_true, bne_self_eq_false, Bool.false_eq_true, ↓reduceIte]
end Go.Proofs.Ytifnnehjpgodfaa.Pure
