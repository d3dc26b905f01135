/-
  LayoutValid answers as the reference, for all layouts.
-/
import Derived.Test.YteijndaldkkpfaaLw5
import Derived.Test.YteijndaldkkpfaaLibFnExactLayoutValid
namespace Go.Proofs.Yteijndaldkkpfaa.Pure
open Go.RowKit Go.Proofs.Yteijndaldkkpfaa.Lw Go.Proofs.YteijndaldkkpfaaW.PrintWords Go.Proofs.YteijndaldkkpfaaW.PrintLast Go.Proofs.YteijndaldkkpfaaW.PrintMore
set_option linter.unusedVariables false
set_option linter.unusedSimpArgs false
theorem FnExactLayoutValid (l : List (List Int)) (d : List Int) (hl : l.length ≤ maxLen) (hr : ∀ r ∈ l, r.length ≤ maxLen) (hd : d.length ≤ maxLen) : ∃ k, laws_FnExactLayoutValid.f k l d = some true := by
  unfold maxLen at hl hr hd
  obtain ⟨K, hK⟩ : ∃ K, 4100000 ≤ K := ⟨4100000, Nat.le_refl _⟩
  refine ⟨K, ?_⟩
  unfold laws_FnExactLayoutValid.f
  obtain ⟨v, e1, e2⟩ := szLayout_any K l d hK (by omega) (fun r h => by have := hr r h; omega) (by omega)
  rw [e1, Option.bind_some]
  by_cases hv : v < 0
  case pos => rw [if_pos hv]
  obtain ⟨g1, g2, g3⟩ := e2 (by omega)
  rw [if_neg hv, toLayout_eq K l d hK g1 g2 g3]
  simp only [Option.bind_some]
  rw [spec_Valid_eq K l d hK g1 g2 g3]
  simp only [Option.bind_some]
  rw [impl_Valid_eq K l d hK g1 g2 g3]
  simp only [Option.bind_some, bne_self_eq_false, Bool.false_eq_true, if_false]
  rw [eqLayout_eq K l d hK g1 g2 g3]
  simp only [Option.bind_some, if_true]
end Go.Proofs.Yteijndaldkkpfaa.Pure
