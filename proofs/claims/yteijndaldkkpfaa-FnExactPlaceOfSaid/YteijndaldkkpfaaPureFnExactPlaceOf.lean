/-
  PlaceOf answers as the reference, for all layouts and indices.
-/
import Derived.Test.YteijndaldkkpfaaLp5
import Derived.Test.YteijndaldkkpfaaLibFnExactPlaceOf
namespace Go.Proofs.Yteijndaldkkpfaa.Pure
open Go.RowKit Go.Proofs.Yteijndaldkkpfaa.Lp Go.Proofs.YteijndaldkkpfaaW.PrintWords Go.Proofs.YteijndaldkkpfaaW.PrintLast Go.Proofs.YteijndaldkkpfaaW.PrintMore
set_option linter.unusedVariables false
set_option linter.unusedSimpArgs false
theorem FnExactPlaceOf (l : List (List Int)) (d u : List Int) (hl : l.length ≤ maxLen) (hr : ∀ r ∈ l, r.length ≤ maxLen) (hd : d.length ≤ maxLen) (hu : u.length ≤ maxLen) : ∃ k, laws_FnExactPlaceOf.f k l d u = some true := by
  unfold maxLen at hl hr hd hu
  obtain ⟨K, hK⟩ : ∃ K, 5200000 ≤ K := ⟨5200000, Nat.le_refl _⟩
  refine ⟨K, ?_⟩
  unfold laws_FnExactPlaceOf.f
  by_cases h0 : u.length ≤ 1048576
  case neg => rw [if_pos (by omega)]
  rw [if_neg (by omega)]
  obtain ⟨v, e1, e2⟩ := szLayout_any K l d (by omega) (by omega) (fun r h => by have := hr r h; omega) (by omega)
  rw [e1, Option.bind_some]
  by_cases hv : v < 0
  case pos => rw [if_pos hv]
  obtain ⟨g1, g2, g3⟩ := e2 (by omega)
  rw [if_neg hv, toLayout_eq K l d (by omega) g1 g2 g3]
  simp only [Option.bind_some]
  rw [toIntS_eq K u (by omega) h0]
  simp only [Option.bind_some]
  rw [spec_Place_eq K l d u (by omega) g1 g2 g3]
  simp only [Option.bind_some]
  rw [impl_Place_eq K l d u (by omega) g1 g2 g3]
  simp only [Option.bind_some, if_true]
  rw [eqLayout_eq K l d (by omega) g1 g2 g3]
  simp only [Option.bind_some, if_true]
  rw [eqIntS_eq K u u (by omega) h0]
  simp only [Option.bind_some, decide_true, if_true]
end Go.Proofs.Yteijndaldkkpfaa.Pure
