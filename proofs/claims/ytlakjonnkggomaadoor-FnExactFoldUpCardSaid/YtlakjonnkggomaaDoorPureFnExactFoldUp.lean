/-
  FoldUp answers as the reference, for all layouts.
-/
import Derived.Test.YtlakjonnkggomaaDoorFu2
import Derived.Test.YtlakjonnkggomaaDoorFu3
import Derived.Test.YtlakjonnkggomaaDoorFu4
import Derived.Test.YtlakjonnkggomaaDoorLibFnExactFoldUp
namespace Go.Proofs.YtlakjonnkggomaaDoor.Pure
open Go.RowKit Go.Proofs.YtlakjonnkggomaaDoor.Fu Go.Proofs.YtlakjonnkggomaaDoorW.PrintWords Go.Proofs.YtlakjonnkggomaaDoorW.PrintLast Go.Proofs.YtlakjonnkggomaaDoorW.PrintMore
set_option linter.unusedVariables false
set_option linter.unusedSimpArgs false
theorem tot_toN : ∀ (r : List Int), okb 400 r = true → tot r = ((toN r).sum : Int)
  | [], _ => rfl
  | a :: t, h => by
    obtain ⟨h1, h2, h3⟩ := okb_tail h
    have h4 := tot_toN t h3
    have h5 : (toN (a :: t)).sum = a.toNat + (toN t).sum := rfl
    show a + tot t = ((toN (a :: t)).sum : Int)
    rw [h4, h5]
    omega
theorem fu_go (n : Int) (d : List Int) (hn : 0 ≤ n) : ∀ (t : List (List Int)) (i e : Int), 0 ≤ i → wrongGo n d i e t = -1 → t.all natL = true ∧ vdB e.toNat (t.map toN) d = true ∧ (t = [] ∨ i + (t.length : Int) ≤ 3) ∧ okb 10006 d = true
  | [], i, e, hi, h => by
    unfold wrongGo at h
    split at h
    · rename_i hc
      refine ⟨rfl, ?_, .inl rfl, hc.2⟩
      show (d.length == e.toNat) = true
      rw [← hc.1]
      simp
    · omega
  | r :: t, i, e, hi, h => by
    unfold wrongGo at h
    split at h
    · rename_i hc
      obtain ⟨h1, h2, h3, h4⟩ := fu_go n d hn t (i + 1) (tot r) (by omega) h
      refine ⟨?_, ?_, .inr ?_, h4⟩
      · rw [List.all_cons, h1, Bool.and_true]; exact hc.2.2
      · rw [tot_toN r hc.2.2, Int.toNat_natCast] at h2
        show ((toN r).length == e.toNat && vdB (toN r).sum (t.map toN) d) = true
        rw [h2, Bool.and_true, ← hc.2.1]
        simp [toN]
      · rcases h3 with rfl | h3
        · have := hc.1; simp; omega
        · rw [List.length_cons]; omega
    · omega
theorem fuOk_valid (l : List (List Int)) (d : List Int) (hw : wrongV l d < 0) (g1 : l.length ≤ 1048576) (g2 : ∀ r ∈ l, r.length ≤ 1048576) (g3 : d.length ≤ 1048576) (hD : InR d) : fuOk l d = true := by
  unfold wrongV at hw
  have h0 := wrongGo_cases (l.length : Int) d (by omega) l 0 1 (by omega) hw
  obtain ⟨h1, h2, h3, h4⟩ := fu_go _ d (by omega) l 0 1 (by omega) h0
  unfold fuOk
  simp only [Bool.and_eq_true, decide_eq_true_eq]
  refine ⟨⟨⟨⟨⟨h1, h2⟩, ?_⟩, ?_⟩, g3⟩, inB_of hD⟩
  · rcases h3 with rfl | h3
    · exact Nat.zero_le _
    · omega
  · rw [List.all_eq_true]
    intro r hr
    simpa using g2 r hr
theorem FnExactFoldUp (l : List (List Int)) (d : List Int) (hl : l.length ≤ maxLen) (hr : ∀ r ∈ l, r.length ≤ maxLen) (hd : d.length ≤ maxLen) (hR : AllR l) (hD : InR d) : ∃ k, laws_FnExactFoldUp.f k l d = some true := by
  unfold maxLen at hl hr hd
  obtain ⟨K, hK⟩ : ∃ K, 4100000 ≤ K := ⟨4100000, Nat.le_refl _⟩
  refine ⟨K + 1, ?_⟩
  have hK1 : 4100000 ≤ K + 1 := by omega
  unfold laws_FnExactFoldUp.f
  obtain ⟨v, e1, e2⟩ := szLayout_any (K + 1) l d hK1 (by omega) (fun r h => by have := hr r h; omega) (by omega)
  rw [e1, Option.bind_some]
  by_cases hv : v < 0
  case pos => rw [if_pos hv]
  obtain ⟨g1, g2, g3⟩ := e2 (by omega)
  rw [if_neg hv, toLayout_eq (K + 1) l d hK1 g1 g2 g3]
  simp only [Option.bind_some]
  have hj : laws_FnExactFoldUp.j0 (K + 1) false l d l d = some true := by
    rw [laws_FnExactFoldUp.j0, if_neg (by decide), toLayout_eq K l d hK g1 g2 g3]
    simp only [Option.bind_some]
    rw [eqLayout_eq K l d hK g1 g2 g3]
    simp only [Option.bind_some, if_true]
  unfold spec_FoldUp.f impl_FoldUp.f
  rw [spec_Valid_eq (K + 1) l d hK1 g1 g2 g3, impl_Valid_eq (K + 1) l d hK1 g1 g2 g3]
  simp only [Option.bind_some]
  by_cases hw : wrongV l d < 0
  · rw [decide_eq_true hw, if_pos rfl, if_pos (fuOk_valid l d hw g1 g2 g3 hD)]
    simp only [Option.bind_some, if_true, bne_self_eq_false]
    exact hj
  · rw [decide_eq_false hw, if_neg (by decide)]
    simp only [Option.bind_some, if_true, bne_self_eq_false]
    exact hj
end Go.Proofs.YtlakjonnkggomaaDoor.Pure
