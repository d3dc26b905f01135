/-
  Cut to what this claim uses.
-/
import Derived.Test.YteijndaldkkpfaaQLibFnTurnSort
import Derived.Test.YteijndaldkkpfaaQTs2
import Derived.Test.YteijndaldkkpfaaQTs7
namespace Go.Proofs.Yteijndaldkkpfaa.Pure
open Go.RowKit Go.Proofs.Yteijndaldkkpfaa.Ts Go.Proofs.YteijndaldkkpfaaW.PrintWords Go.Proofs.YteijndaldkkpfaaW.PrintLast Go.Proofs.YteijndaldkkpfaaW.PrintMore
set_option linter.unusedVariables false
set_option linter.unusedSimpArgs false
attribute [local congr] obind_congr
theorem drawSort_any (k : Nat) (c : List Int) (hk : 200 ≤ k) (h : okb 255 c = true) (hl : c.length ≤ 1048576) :
    ∃ x u, spec_DrawSortSegments.f k c = some (x, u) ∧ x.length ≤ 1000 ∧ u.length ≤ 1001 := by
  unfold spec_DrawSortSegments.f
  obtain ⟨b, e0, hS⟩ := open_any c h hl
  rw [e0]; simp only [Option.bind_some]
  obtain ⟨x, u, p', e1, h1, h2, _⟩ := l3Some_any k b 0 0 (by omega) hS (by omega)
  rw [e1]; simp only [Option.bind_some]
  exact ⟨x, u, rfl, by omega, by omega⟩
theorem outS_cat (d : List Int) (ls : List Nat) : ∀ i, Go.Proofs.YteijndaldkkpfaaW.SortW.outS d ls i = catF (fun i => Go.Proofs.YteijndaldkkpfaaW.SortW.segS d (ls.take i).sum (ls.getD i 0)) i := by
  intro i
  induction i with
  | zero => rfl
  | succ i ih => rw [Go.Proofs.YteijndaldkkpfaaW.SortW.outS, catF, ih]
theorem outT_cat (ls : List Nat) : ∀ i, outT ls i = catF (fun i => (zsL (ls.take i).sum (ls.getD i 0)).reverse) i := by
  intro i
  induction i with
  | zero => rfl
  | succ i ih => rw [outT, catF, ih]
theorem permV_ids {s : List Int} {N : Nat} (h : s.Perm (idsN 0 N)) (hN : N ≤ 400) : permV s = true := by
  have hl : s.length = N := by rw [h.length_eq, idsN_len]
  rw [permV_iff, hl]
  exact ⟨okb_of_perm h, hN, h.nodup_iff.2 (idsN_nodup 0 N)⟩
theorem rd_map (d S : List Int) (p : Nat) (hp : p < S.length) : rd (S.map fun i => rd d i) (p : Int) = rd d (rd S (p : Int)) := by
  rw [rd_nat, rd_nat, List.getD_eq_getElem?_getD, List.getElem?_map, List.getD_eq_getElem?_getD, List.getElem?_eq_getElem hp]; rfl
theorem turn_back (ls : List Nat) (hF : ∀ i, i < ls.length → ((zsL (ls.take i).sum (ls.getD i 0)).reverse).Perm (idsN (ls.take i).sum (ls.getD i 0))) : (outT ls ls.length).map (fun i => rd (outT ls ls.length) i) = idsN 0 ls.sum := by
  have hT := outT_cat ls ls.length
  have hl : (outT ls ls.length).length = ls.sum := by rw [outT_len, List.take_of_length_le (Nat.le_refl _)]
  have at_ : ∀ i j, i < ls.length → j < ls.getD i 0 → (outT ls ls.length).getD ((ls.take i).sum + j) 0 = (((ls.take i).sum + (ls.getD i 0 - 1 - j) : Nat) : Int) := fun i j hi hj => by
    rw [hT, catF_at hF ls.length (Nat.le_refl _) i hi j hj, List.getD_eq_getElem?_getD, zsL_at _ _ j hj]; rfl
  apply ext_getD
  · rw [List.length_map, idsN_len, hl]
  · intro p hp
    rw [List.length_map, hl] at hp
    rw [idsN_at 0 _ p hp]
    obtain ⟨i, j, hi, hj, e⟩ := find_seg ls ls.length (Nat.le_refl _) p (by rw [List.take_of_length_le (Nat.le_refl _)]; exact hp)
    have h1 := at_ i j hi hj
    have h2 := at_ i (ls.getD i 0 - 1 - j) hi (by omega)
    rw [← e] at h1
    have h3 : ((outT ls ls.length).map fun i => rd (outT ls ls.length) i).getD p 0 = rd (outT ls ls.length) ((outT ls ls.length).getD p 0) := by
      rw [List.getD_eq_getElem?_getD, List.getElem?_map, List.getD_eq_getElem?_getD, List.getElem?_eq_getElem (by omega)]; rfl
    rw [h3, h1, rd_nat, h2]
    omega
set_option maxHeartbeats 1000000 in
theorem FnTurnSort : laws_FnTurnSort.Pure := by
  intro c hm _ hw
  by_cases h0 : c.length ≤ 1048576
  case neg => exact ⟨1, by unfold laws_FnTurnSort.f; rw [if_pos (by omega)]⟩
  obtain ⟨K, hK⟩ : ∃ K, 100001000 ≤ K := ⟨100001000, Nat.le_refl _⟩
  obtain ⟨C, hC1, hC2⟩ : ∃ C : Nat, 3000000 ≤ C ∧ C ≤ 3000010 := ⟨3000000, by omega, by omega⟩
  obtain ⟨l, d, ed, hl, hd⟩ := drawSort_any K c (by omega) (wf_u8 hw) h0
  refine ⟨K, ?_⟩
  unfold laws_FnTurnSort.f
  rw [if_neg (by omega), ed]
  have g1 := sortV_len l d
  have g2 := turnV_len l
  simp (discharger := omega) only [Option.bind_some, impl_Sort_eq, spec_Sort_eq, impl_Turn_eq, spec_Turn_eq, faSame_eq, decide_true, ↓reduceIte, bne_self_eq_false, Bool.false_eq_true, beq_self_eq_true]
  cases h : segOk l d with
  | false =>
    rw [show (sortV l d).2 = false by simp [sortV, h]]
    simp
  | true =>
    obtain ⟨a1, a2, a3⟩ := segOk_iff.1 h
    obtain ⟨b1, b2, b3⟩ := lenOk_iff.1 a1
    obtain ⟨c1, c2⟩ := datOk_iff.1 a2
    have hT := sortLs_of h
    obtain ⟨ls, els⟩ : ∃ ls, ls = l.map Int.toNat := ⟨_, rfl⟩
    have hll : l.length = ls.length := by rw [els, List.length_map]
    have hsum : ls.sum = d.length := by rw [els]; exact hT.2.2.1
    have hnats : l = nats ls := by rw [els]; exact hT.1.symm
    have hpos : ∀ n ∈ l, 0 ≤ n := fun n hn => (okb_iff.1 b2 n hn).1
    have eS : sortV l d = (Go.Proofs.YteijndaldkkpfaaW.SortW.outS d ls ls.length, true) := by simp [sortV, h, els]
    have eT : turnV l = (outT ls ls.length, true) := by simp [turnV, a1, els]
    have take_le : ∀ i, (ls.take i).sum ≤ ls.sum := fun i => take_sum_le ls i
    have hFs : ∀ i, i < ls.length → (Go.Proofs.YteijndaldkkpfaaW.SortW.segS d (ls.take i).sum (ls.getD i 0)).Perm (idsN (ls.take i).sum (ls.getD i 0)) := fun i hi =>
      (segS_SR d _ _ (by have := take_succ_sum ls i hi; have := take_le (i + 1); omega)).1
    have hFt : ∀ i, i < ls.length → ((zsL (ls.take i).sum (ls.getD i 0)).reverse).Perm (idsN (ls.take i).sum (ls.getD i 0)) := fun i hi => List.reverse_perm _
    have pS : (Go.Proofs.YteijndaldkkpfaaW.SortW.outS d ls ls.length).Perm (idsN 0 ls.sum) := by
      have := catF_perm hFs ls.length (Nat.le_refl _)
      rw [List.take_of_length_le (Nat.le_refl _)] at this
      rw [outS_cat]; exact this
    have pT : (outT ls ls.length).Perm (idsN 0 ls.sum) := by
      have := catF_perm hFt ls.length (Nat.le_refl _)
      rw [List.take_of_length_le (Nat.le_refl _)] at this
      rw [outT_cat]; exact this
    have back := turn_back ls hFt
    have sAt : ∀ i j, i < ls.length → j < ls.getD i 0 → (Go.Proofs.YteijndaldkkpfaaW.SortW.outS d ls ls.length).getD ((ls.take i).sum + j) 0 = (Go.Proofs.YteijndaldkkpfaaW.SortW.segS d (ls.take i).sum (ls.getD i 0)).getD j 0 := fun i j hi hj => by
      rw [outS_cat]; exact catF_at hFs ls.length (Nat.le_refl _) i hi j hj
    have sSl : ∀ i, i < ls.length → ((Go.Proofs.YteijndaldkkpfaaW.SortW.outS d ls ls.length).drop (ls.take i).sum).take (ls.getD i 0) = Go.Proofs.YteijndaldkkpfaaW.SortW.segS d (ls.take i).sum (ls.getD i 0) := fun i hi => by
      rw [outS_cat]; exact catF_slice hFs ls.length (Nat.le_refl _) i hi
    rw [eS, eT]
    generalize Go.Proofs.YteijndaldkkpfaaW.SortW.outS d ls ls.length = S at pS sAt sSl
    generalize outT ls ls.length = T at pT back
    have lS : S.length = d.length := by rw [pS.length_eq, idsN_len, hsum]
    have lT : T.length = d.length := by rw [pT.length_eq, idsN_len, hsum]
    have okS : okb ((d.length : Int) - 1) S = true := by rw [← hsum]; exact okb_of_perm pS
    have okT : okb ((d.length : Int) - 1) T = true := by rw [← hsum]; exact okb_of_perm pT
    have gS : gatV d S = (S.map fun i => rd d i, true) := by
      unfold gatV gatOk; rw [if_pos (by rw [a2, okS]; simp; omega)]
    have gT : gatV T T = (T.map fun i => rd T i, true) := by
      unfold gatV gatOk
      rw [if_pos]
      rw [lT, okT, show datOk T = true from datOk_iff.2 ⟨by omega, okb_le okT (by omega)⟩]; simp; omega
    have mem_d : ∀ x ∈ S, 0 ≤ rd d x ∧ rd d x ≤ 10006 := fun x hx => by
      have h1 := okb_iff.1 okS x hx
      exact okb_iff.1 c2 _ (rd_mem h1.1 (by omega))
    have okL : segOk l (S.map fun i => rd d i) = true := segOk_iff.2 ⟨a1, datOk_iff.2 ⟨by rw [List.length_map]; omega, okb_iff.2 fun x hx => by obtain ⟨y, hy, e⟩ := List.mem_map.1 hx; rw [← e]; exact mem_d y hy⟩, by rw [List.length_map, lS, a3]⟩
    have hs1 : sumV l d = ((segs l d).map sumM, true) := by simp [sumV, h]
    have hs2 : sumV l (S.map fun i => rd d i) = ((segs l (S.map fun i => rd d i)).map sumM, true) := by simp [sumV, okL]
    have hss : (segs l (S.map fun i => rd d i)).map sumM = (segs l d).map sumM := segs_sum_eq l _ _ fun i hi => by
      rw [← els, ← List.map_drop, ← List.map_take, sSl i (by omega), tot_perm ((hFs i (by omega)).map fun i => rd d i), slice_ids d _ _ (by have := take_succ_sum ls i (by omega); have := take_le (i + 1); omega)]
    have hst : staV l = (startsFrom 0 l, true) := by simp [staV, a1]
    simp (discharger := omega) only [Option.bind_some, impl_Gather_eq, impl_Sum_eq, impl_Starts_eq, gS, gT, hs1, hst, ↓reduceIte]
    rw [impl_Sum_eq K l (S.map fun i => rd d i) (by omega) (by omega) (by rw [List.length_map]; omega), hs2]
    simp only [Option.bind_some]
    rw [hll]
    refine ts_l0 d S T _ _ _ _ _ l ls hnats (by omega) (by omega) hsum.symm (fun i hi => ?_) (by rw [startsFrom_length, hll]) (by omega) (by rw [List.length_map]; omega) (fun i hi j hj1 hj2 => ?_) (C + 1000) (fun k hk => ?_) ls.length 0 K (by omega) (by omega) (by omega)
    · rw [rd_nat, starts_at l i 0 (by omega), els, ← List.map_take, sum_toNat (fun n hn => hpos n (List.mem_of_mem_take hn))]; omega
    · have h1 := take_succ_sum ls i hi
      have h2 := take_le (i + 1)
      have hSR := segS_SR d (ls.take i).sum (ls.getD i 0) (by omega)
      have hp := List.pairwise_iff_getElem.1 hSR.2 (j - 1) j (by rw [hSR.len]; omega) (by rw [hSR.len]; omega) (by omega)
      have e1 := sAt i (j - 1) hi (by omega)
      have e2 := sAt i j hi hj2
      rw [List.getD_eq_getElem?_getD (l := Go.Proofs.YteijndaldkkpfaaW.SortW.segS d (ls.take i).sum (ls.getD i 0)), List.getElem?_eq_getElem (by rw [hSR.len]; omega), Option.getD_some] at e1 e2
      rw [← e1, ← e2, show (ls.take i).sum + (j - 1) = (ls.take i).sum + j - 1 by omega, ← rd_nat, ← rd_nat] at hp
      rw [rd_map d S _ (by omega), rd_map d S _ (by omega)]
      exact hp
    · have := ts_l2 S T (T.map fun i => rd T i) ((segs l d).map sumM) ((segs l (S.map fun i => rd d i)).map sumM) d.length (by omega) true (by omega) (by omega) (by rw [List.length_map]; omega) (by rw [List.length_map, segs_length]; omega) (permV_ids pS (by omega)) (permV_ids pT (by omega)) (by rw [back, hsum]) hss.symm C hC1 d.length 0 k (by omega) (by omega) (by omega)
      exact this
end Go.Proofs.Yteijndaldkkpfaa.Pure
