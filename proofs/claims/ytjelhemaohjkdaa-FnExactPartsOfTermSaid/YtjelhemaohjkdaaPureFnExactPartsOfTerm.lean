/-
  PartsOfTerm answers as the reference, for all arguments.
-/
import Derived.Test.YtjelhemaohjkdaaVp1
import Derived.Test.YtjelhemaohjkdaaVp2
import Derived.Test.YtjelhemaohjkdaaLibFnExactPartsOfTerm
namespace Go.Proofs.Ytjelhemaohjkdaa.Pure
open Go.RowKit Go.Proofs.Ytjelhemaohjkdaa.Vp Go.Proofs.YtjelhemaohjkdaaW.PrintWords Go.Proofs.YtjelhemaohjkdaaW.PrintLast Go.Proofs.YtjelhemaohjkdaaW.PrintMore
set_option linter.unusedVariables false
set_option linter.unusedSimpArgs false
theorem ps_cases (t : Option Tm) : t.elim [] Tm.ps = [] ∨ (∃ a, t.elim [] Tm.ps = [a]) ∨ ∃ a b, t.elim [] Tm.ps = [a, b] := by
  cases t with
  | none => exact .inl rfl
  | some t => cases t with
    | leaf c => exact .inl rfl
    | un c x => exact .inr (.inl ⟨_, rfl⟩)
    | bin c x y => exact .inr (.inr ⟨_, _, rfl⟩)
    | loop c u x y => exact .inr (.inr ⟨_, _, rfl⟩)
theorem w64_1 : wrap64 (0 + 1) = 1 := by unfold wrap64; decide
theorem w64_2 : wrap64 (1 + 1) = 2 := by unfold wrap64; decide
theorem w64_3 : wrap64 (2 + 1) = 3 := by unfold wrap64; decide
theorem v64_1 : wrap64 1 = 1 := by unfold wrap64; decide
theorem v64_2 : wrap64 2 = 2 := by unfold wrap64; decide
theorem v64_3 : wrap64 3 = 3 := by unfold wrap64; decide
theorem w64_0 : wrap64 0 = 0 := by unfold wrap64; decide
theorem w64_49 : wrap64 (48 + 1) = 49 := by unfold wrap64; decide
theorem w64_50 : wrap64 (48 + 2) = 50 := by unfold wrap64; decide
theorem mark1 (k : Nat) : laws_markText.f (k + 2) 1 = some ⟨#[109, 49]⟩ := by
  unfold laws_markText.f
  rw [if_neg (by decide), laws_markText.l0, if_pos (by decide), show Int.tmod 1 10 = 1 from by decide, show Int.tdiv 1 10 = 0 from by decide, w64_0, w64_49]
  simp only [Option.bind_some]
  rw [if_pos (by decide), laws_markText.l0, if_neg (by decide), if_pos (by decide)]; rfl
theorem mark2 (k : Nat) : laws_markText.f (k + 2) 2 = some ⟨#[109, 50]⟩ := by
  unfold laws_markText.f
  rw [if_neg (by decide), laws_markText.l0, if_pos (by decide), show Int.tmod 2 10 = 2 from by decide, show Int.tdiv 2 10 = 0 from by decide, w64_0, w64_50]
  simp only [Option.bind_some]
  rw [if_pos (by decide), laws_markText.l0, if_neg (by decide), if_pos (by decide)]; rfl
theorem eq_self (P : List ByteArray) : ∀ (d i k : Nat), d = P.length - i → i ≤ P.length → d < k → P.length ≤ 100 → laws_eqStringS.l0 k P P i = some true := by
  intro d
  induction d with
  | zero =>
    intro i k hd hi hk _
    obtain ⟨k, rfl⟩ : ∃ j, k = j + 1 := ⟨k - 1, by omega⟩
    rw [laws_eqStringS.l0, if_neg (by omega)]
  | succ d ih =>
    intro i k hd hi hk hl
    obtain ⟨k, rfl⟩ : ∃ j, k = j + 1 := ⟨k - 1, by omega⟩
    rw [laws_eqStringS.l0, if_pos (by omega), if_pos (by omega), if_pos (by omega), if_pos rfl, show wrap64 ((i : Int) + 1) = ((i + 1 : Nat) : Int) from by unfold wrap64; omega]
    exact ih (i + 1) k (by omega) (by omega) (by omega) hl
theorem eqS_self (P : List ByteArray) (k : Nat) (h : P.length < k) (hl : P.length ≤ 100) : laws_eqStringS.f k P P = some true := by
  unfold laws_eqStringS.f
  rw [if_pos rfl]
  exact eq_self P P.length 0 k (by omega) (by omega) h hl
theorem FnExactPartsOfTerm : laws_FnExactPartsOfTerm.Pure := by
  intro a0 _
  refine ⟨20, ?_⟩
  unfold laws_FnExactPartsOfTerm.f spec_PartsOfTerm.f impl_PartsOfTerm.f
  by_cases h0 : a0.size ≤ 1048576
  case neg => rw [if_pos (by omega)]
  rw [if_neg (by omega), if_pos h0]
  generalize tmOf a0.data.toList = t
  rcases ps_cases t with h | ⟨a, h⟩ | ⟨a, b, h⟩
  · rw [h]
    simp only [Option.bind_some]
    rw [eqS_self [] 20 (by simp) (by simp)]
    simp [laws_markStringS.f, laws_markStringS.l0, laws_heldStringS.f, laws_heldStringS.l0]
  · rw [h]
    simp only [Option.bind_some]
    rw [eqS_self [a] 20 (by simp) (by simp)]
    simp [laws_markStringS.f, laws_markStringS.l0, laws_heldStringS.f, laws_heldStringS.l0, v64_1, v64_2, mark1 17, rdOf]
  · rw [h]
    simp only [Option.bind_some]
    rw [eqS_self [a, b] 20 (by simp) (by simp)]
    simp [laws_markStringS.f, laws_markStringS.l0, laws_heldStringS.f, laws_heldStringS.l0, v64_1, v64_2, v64_3, mark1 17, mark2 16, rdOf]
end Go.Proofs.Ytjelhemaohjkdaa.Pure
