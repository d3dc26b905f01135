/-
  FormatLayout answers as the reference, for all layouts.
-/
import Derived.Test.YtlakjonnkggomaaDoorFo1
import Derived.Test.YtlakjonnkggomaaDoorFo3
import Derived.Test.YtlakjonnkggomaaDoorLibFnExactFormatLayout
namespace Go.Proofs.YtlakjonnkggomaaDoor.Pure
open Go.RowKit Go.Proofs.YtlakjonnkggomaaDoor.Fo Go.Proofs.YtlakjonnkggomaaDoorW.PrintWords Go.Proofs.YtlakjonnkggomaaDoorW.PrintLast Go.Proofs.YtlakjonnkggomaaDoorW.PrintMore
set_option linter.unusedVariables false
set_option linter.unusedSimpArgs false
theorem FnExactFormatLayout (l : List (List Int)) (d : List Int) (hl : l.length ≤ maxLen) (hr : ∀ r ∈ l, r.length ≤ maxLen) (hd : d.length ≤ maxLen) (hR : AllR l) (hD : InR d) : ∃ k, laws_FnExactFormatLayout.f k l d = some true := by
  unfold maxLen at hl hr hd
  obtain ⟨K, hK⟩ : ∃ K, 4100000 ≤ K := ⟨4100000, Nat.le_refl _⟩
  refine ⟨K, ?_⟩
  unfold laws_FnExactFormatLayout.f
  obtain ⟨v, e1, e2⟩ := szLayout_any K l d hK (by omega) (fun r h => by have := hr r h; omega) (by omega)
  rw [e1, Option.bind_some]
  by_cases hv : v < 0
  case pos => rw [if_pos hv]
  obtain ⟨g1, g2, g3⟩ := e2 (by omega)
  have hok := fmOk_mk ⟨g1, g2, g3⟩ hR hD
  rw [if_neg hv, toLayout_eq K l d hK g1 g2 g3]
  simp only [Option.bind_some]
  unfold spec_FormatLayout.f impl_FormatLayout.f
  rw [if_pos hok]
  simp only [Option.bind_some, if_true]
  rw [eqLayout_eq K l d hK g1 g2 g3]
  simp only [Option.bind_some, if_true]
end Go.Proofs.YtlakjonnkggomaaDoor.Pure
