/-
  Merged lengths sum as the sums of their sums, for every code.
-/
import Derived.Test.YtnehpbkjmmadkaaPrint24
import Derived.Test.YtnehpbkjmmadkaaLibFnMergeLengths
namespace Go.Proofs.Ytnehpbkjmmadkaa.Pure
open Go.RowKit Go.Proofs.Ytnehpbkjmmadkaa.Print Go.Proofs.YtnehpbkjmmadkaaW.PrintWords Go.Proofs.YtnehpbkjmmadkaaW.PrintLast Go.Proofs.YtnehpbkjmmadkaaW.PrintMore
set_option linter.unusedVariables false
set_option linter.unusedSimpArgs false
attribute [local congr] obind_congr
theorem merge_l0 (c x u w : List Int) (hc : c.length ≤ 1048576) (h : merOk x u = true) (n : Nat) (hn : (n : Int) = tot u) : ∀ (d i k : Nat) (y : List Int), d + i = n → d + 3001020 < k → y.length = n → okb 10006 y = true →
    laws_FnMergeLengths.l0 k c x u ((segs x u).map tot) y n i = some true := by
  obtain ⟨h1, h2, h3⟩ := merOk_iff.1 h
  obtain ⟨a1, a2, a3⟩ := lenOk_iff.1 h1
  obtain ⟨b1, b2, b3⟩ := lenOk_iff.1 h2
  obtain ⟨m1, m2⟩ := merged_ok h
  obtain ⟨c1, c2, c3⟩ := lenOk_iff.1 m1
  intro d
  induction d with
  | zero =>
    intro i k y hd hk hy hok
    obtain ⟨k, rfl⟩ : ∃ m, k = m + 1 := ⟨k - 1, by omega⟩
    have hdat : datOk y = true := datOk_iff.2 ⟨by omega, hok⟩
    have s1 : sumV u y = ((segs u y).map sumM, true) := by
      rw [sumV, if_pos (segOk_iff.2 ⟨h2, hdat, by omega⟩)]
    have s2 : sumV x ((segs u y).map sumM) = ((segs x ((segs u y).map sumM)).map sumM, true) := by
      rw [sumV, if_pos (segOk_iff.2 ⟨h1, sums_data b1, by simp [segs_length]; omega⟩)]
    have s3 : sumV ((segs x u).map tot) y = ((segs ((segs x u).map tot) y).map sumM, true) := by
      rw [sumV, if_pos (segOk_iff.2 ⟨m1, hdat, by omega⟩)]
    have l1 : ((segs u y).map sumM).length ≤ 1048576 := by simp [segs_length]; omega
    have l2 : ((segs x ((segs u y).map sumM)).map sumM).length ≤ 1048576 := by simp [segs_length]; omega
    rw [laws_FnMergeLengths.l0, if_neg (by omega), impl_Sum_eq k u y (by omega) (by omega) (by omega), s1]
    simp only [Option.bind_some]
    rw [impl_Sum_eq k x _ (by omega) (by omega) l1, s2]
    simp only [Option.bind_some]
    rw [impl_Sum_eq k _ y (by omega) (by omega) (by omega), s3]
    simp only [Option.bind_some, if_true]
    rw [faSame_eq k _ _ (by omega) l2]
    simp only [Option.bind_some]
    rw [segs_segs x a2 u y b2]
    simp only [decide_true, if_true]
    rw [faTotal_eq k _ (by omega) (by omega) (okb_le c2 (by omega))]
    simp only [Option.bind_some]
    rw [faTotal_eq k _ (by omega) (by omega) (okb_le b2 (by omega)), m2]
    simp
  | succ d ih =>
    intro i k y hd hk hy hok
    obtain ⟨k, rfl⟩ : ∃ m, k = m + 1 := ⟨k - 1, by omega⟩
    have e0 : (0 : Int) ≤ (i : Int) * 37 + c.length := by omega
    rw [laws_FnMergeLengths.l0, if_pos (by omega), if_pos (by omega), if_pos (by omega), w64_i i (by omega), w64 (x := (i : Int) * 37) (by omega) (by omega), w64 (x := (i : Int) * 37 + c.length) (by omega) (by omega), tmod_nonneg _ e0]
    exact ih (i + 1) k _ (by omega) (by omega) (by simp [hy]) (okb_set hok _ _ (by omega) (by omega))
theorem FnMergeLengths : laws_FnMergeLengths.Pure := by
  intro l0 l1 _ _ hw0 _ _ hw1
  obtain ⟨K, hK⟩ : ∃ K, 3002010 ≤ K := ⟨3002010, Nat.le_refl _⟩
  refine ⟨K + 5, ?_⟩
  unfold laws_FnMergeLengths.f
  by_cases h0 : l0.length ≤ 1048576
  case neg => rw [if_pos (by omega), laws_FnMergeLengths.j0]; rfl
  rw [if_neg (by omega), laws_FnMergeLengths.j0]
  by_cases h1 : l1.length ≤ 1048576
  case neg => rw [if_pos (by simp; omega)]
  rw [if_neg (by simp; omega)]
  obtain ⟨x, u, hd, hx, hu⟩ := drawMerge_any (K + 4) l0 (by omega) (wf_u8 hw0) h0
  have hg := merV_len x u
  rw [hd]
  simp (discharger := omega) only [Option.bind_some, impl_Merge_eq, spec_Merge_eq, faSame_eq, decide_true, ↓reduceIte, bne_self_eq_false, Bool.false_eq_true, beq_self_eq_true]
  cases h : merOk x u with
  | false => rw [if_neg (by simp [merV, h])]
  | true =>
    obtain ⟨h1', h2, h3⟩ := merOk_iff.1 h
    obtain ⟨b1, b2, b3⟩ := lenOk_iff.1 h2
    have := tot_nonneg b2
    rw [if_pos (by simp [merV, h]), faTotal_eq _ u (by omega) (by omega) (okb_le b2 (by omega))]
    simp only [Option.bind_some]
    rw [if_pos (by omega), if_pos (by omega), List.length_replicate]
    have e := merge_l0 l1 x u (segs x u).flatten h1 h (tot u).toNat (by omega) (tot u).toNat 0 (K + 4) (List.replicate (tot u).toNat 0) (by omega) (by omega) (by simp) (okb_rep0 _ _ (by omega))
    rw [show (merV x u).1 = (segs x u).map tot from by simp [merV, h]]
    exact e
end Go.Proofs.Ytnehpbkjmmadkaa.Pure
