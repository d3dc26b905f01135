/-
  ScatterData answers as the reference, for all arguments.
-/
import Derived.Test.YteijndaldkkpfaaSc4
import Derived.Test.YteijndaldkkpfaaLibFnExactScatterData
namespace Go.Proofs.Yteijndaldkkpfaa.Pure
open Go.RowKit Go.Proofs.Yteijndaldkkpfaa.Sc Go.Proofs.YteijndaldkkpfaaW.PrintWords Go.Proofs.YteijndaldkkpfaaW.PrintLast Go.Proofs.YteijndaldkkpfaaW.PrintMore
set_option linter.unusedVariables false
set_option linter.unusedSimpArgs false
attribute [local congr] obind_congr
theorem FnExactScatterData : laws_FnExactScatterData.Pure := by
  intro l0 l1 _ _ _ _ _ _
  obtain ⟨K, hK⟩ : ∃ K, 3001010 ≤ K := ⟨3001010, Nat.le_refl _⟩
  refine ⟨K + 5, ?_⟩
  unfold laws_FnExactScatterData.f
  by_cases h0 : l0.length ≤ 1048576
  case neg => rw [if_pos (by omega)]
  rw [if_neg (by omega)]
  by_cases h1 : l1.length ≤ 1048576
  case neg => rw [if_pos (by omega)]
  rw [if_neg (by omega)]
  have hg := scV_len l0 l1
  simp (discharger := omega) only [toIntS_eq, spec_Sc_eq, impl_Sc_eq, eqIntS_eq, markIntS_eq, heldIntS_eq, ramp_length, Option.bind_some, decide_true, bne_self_eq_false, Bool.false_eq_true, ↓reduceIte,
    laws_FnExactScatterData.j0, lt0_1, lt0_2]
end Go.Proofs.Yteijndaldkkpfaa.Pure
