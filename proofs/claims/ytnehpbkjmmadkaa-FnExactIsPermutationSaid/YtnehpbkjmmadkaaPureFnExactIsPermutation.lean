/-
  IsPermutation answers as the reference, for all arguments.
-/
import Derived.Test.YtnehpbkjmmadkaaIp2
import Derived.Test.YtnehpbkjmmadkaaLibFnExactIsPermutation
namespace Go.Proofs.Ytnehpbkjmmadkaa.Pure
open Go.RowKit Go.Proofs.Ytnehpbkjmmadkaa.Ip Go.Proofs.YtnehpbkjmmadkaaW.PrintWords Go.Proofs.YtnehpbkjmmadkaaW.PrintLast Go.Proofs.YtnehpbkjmmadkaaW.PrintMore
set_option linter.unusedVariables false
set_option linter.unusedSimpArgs false
theorem FnExactIsPermutation : laws_FnExactIsPermutation.Pure := by
  intro l0 _ _ _
  obtain ⟨K, hK⟩ : ∃ K, 3001010 ≤ K := ⟨3001010, Nat.le_refl _⟩
  refine ⟨K, ?_⟩
  unfold laws_FnExactIsPermutation.f
  by_cases h0 : l0.length ≤ 1048576
  case neg => rw [if_pos (by omega)]
  rw [if_neg (by omega), toIntS_eq K l0 (by omega) h0]
  simp only [Option.bind_some]
  rw [spec_Perm_eq' K l0 (by omega) h0]
  simp only [Option.bind_some]
  rw [impl_Perm_eq l0 h0]
  simp only [Option.bind_some, bne_self_eq_false, Bool.false_eq_true, if_false]
  rw [eqIntS_eq K l0 l0 (by omega) h0]
  simp only [Option.bind_some, decide_true, if_true]
end Go.Proofs.Ytnehpbkjmmadkaa.Pure
