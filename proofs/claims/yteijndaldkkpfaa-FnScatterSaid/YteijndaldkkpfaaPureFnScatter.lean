/-
  What is scattered is gathered again, and it is what the inverse gathers: for every code.
-/
import Derived.Test.YteijndaldkkpfaaSc6
import Derived.Test.YteijndaldkkpfaaLibFnScatter
namespace Go.Proofs.Yteijndaldkkpfaa.Pure
open Go.RowKit Go.Proofs.Yteijndaldkkpfaa.Sc Go.Proofs.YteijndaldkkpfaaW.PrintWords Go.Proofs.YteijndaldkkpfaaW.PrintLast Go.Proofs.YteijndaldkkpfaaW.PrintMore
set_option linter.unusedVariables false
set_option linter.unusedSimpArgs false
attribute [local congr] obind_congr
theorem okb_tail' {m a : Int} {t : List Int} (h : okb m (a :: t) = true) : 0 ≤ a ∧ a ≤ m ∧ okb m t = true := by
  rw [okb_cons] at h; simp at h; exact ⟨h.1.1, h.1.2, h.2⟩
theorem ext_rd {a b : List Int} (h : a.length = b.length) (hh : ∀ j : Nat, j < a.length → rd a (j : Int) = rd b (j : Int)) : a = b := by
  apply List.ext_getElem h
  intro j h1 h2
  have := hh j h1
  simpa [rd_nat, List.getD_eq_getElem?_getD, List.getElem?_eq_getElem h1, List.getElem?_eq_getElem h2] using this
theorem rd_set (s : List Int) (a : Nat) (v : Int) (j : Nat) (h : a < s.length) : rd (s.set a v) (j : Int) = if j = a then v else rd s (j : Int) := by
  rw [rd_nat, rd_nat, List.getD_eq_getElem?_getD, List.getD_eq_getElem?_getD, List.getElem?_set]
  by_cases e : a = j
  · subst e; simp [h]
  · rw [if_neg e, if_neg (fun h => e h.symm)]
theorem scat_get (x : List Int) : ∀ (t : List Int) (i : Nat) (s : List Int), t.Nodup → okb ((s.length : Int) - 1) t = true →
    (∀ m : Nat, m < t.length → rd (scat x i s t) (rd t (m : Int)) = rd x ((i + m : Nat) : Int)) ∧ (∀ j : Nat, (j : Int) ∉ t → rd (scat x i s t) (j : Int) = rd s (j : Int)) := by
  intro t
  induction t with
  | nil => intro i s _ _; exact ⟨fun m hm => by simp at hm, fun j _ => rfl⟩
  | cons a t ih =>
    intro i s hn hok
    obtain ⟨ha0, ha1, hok'⟩ := okb_tail' hok
    have hn' := List.nodup_cons.1 hn
    have hal : a.toNat < s.length := by omega
    obtain ⟨h1, h2⟩ := ih (i + 1) (s.set a.toNat (rd x (i : Int))) hn'.2 (by simpa using hok')
    refine ⟨?_, ?_⟩
    · intro m hm
      cases m with
      | zero =>
        have e : rd (a :: t) ((0 : Nat) : Int) = ((a.toNat : Nat) : Int) := by rw [rd_nat]; simp; omega
        rw [e, scat, h2 a.toNat (by rw [Int.toNat_of_nonneg ha0]; exact hn'.1), rd_set _ _ _ _ hal, if_pos rfl]; simp
      | succ m =>
        have e : rd (a :: t) ((m + 1 : Nat) : Int) = rd t (m : Int) := by rw [rd_nat, rd_nat]; simp
        rw [e, scat, h1 m (by simp at hm; omega)]; congr 1; omega
    · intro j hj
      rw [scat, h2 j (fun h => hj (List.mem_cons_of_mem _ h)), rd_set _ _ _ _ hal, if_neg]
      intro e; subst e; apply hj; rw [Int.toNat_of_nonneg ha0]; simp
theorem rd_ramp (n j : Nat) (h : j < n) : rd (ramp 0 n) (j : Int) = j := by
  have : ∀ (n j : Nat) (a : Int), j < n → (ramp a n).getD j 0 = a + j := by
    intro n
    induction n with
    | zero => intro j a h; omega
    | succ n ih => intro j a h; cases j with
      | zero => simp [ramp]
      | succ j => rw [ramp, List.getD_cons_succ, ih j (a + 1) (by omega)]; omega
  rw [rd_nat, this n j 0 h]; omega
theorem invt_scat (N : Nat) : ∀ (t : List Int) (i : Nat) (s : List Int), i + t.length ≤ N → invt i s t = scat (ramp 0 N) i s t := by
  intro t
  induction t with
  | nil => intro i s _; rfl
  | cons a t ih => intro i s h; simp only [List.length_cons] at h; rw [invt, scat, rd_ramp N i (by omega), ih (i + 1) _ (by omega)]
theorem perm_onto {u : List Int} (hok : okb ((u.length : Int) - 1) u = true) (hn : u.Nodup) (j : Nat) (hj : j < u.length) : ∃ m : Nat, m < u.length ∧ rd u (m : Int) = j := by
  have h1 := (isRamp_iff _ _).1 ((sorted_ramp_iff u).2 ⟨hok, hn⟩)
  have h2 : (j : Int) ∈ sortedL u := by rw [h1, ramp_mem]; rw [sortedL_length]; omega
  have h3 : (j : Int) ∈ u := (sortedL_perm u).mem_iff.1 h2
  obtain ⟨m, hm, e⟩ := List.getElem_of_mem h3
  exact ⟨m, hm, by rw [rd_nat, List.getD_eq_getElem?_getD, List.getElem?_eq_getElem hm]; simp [e]⟩
theorem rd_in {l : List Int} {m : Int} (h : okb m l = true) (j : Nat) (hj : j < l.length) : 0 ≤ rd l (j : Int) ∧ rd l (j : Int) ≤ m := okb_iff.1 h _ (by rw [rd_nat]; exact getD_mem hj)
theorem okb_of_rd {l : List Int} {m : Int} (h : ∀ j : Nat, j < l.length → 0 ≤ rd l (j : Int) ∧ rd l (j : Int) ≤ m) : okb m l = true := by
  refine okb_iff.2 fun x hx => ?_
  obtain ⟨j, hj, e⟩ := List.getElem_of_mem hx
  have := h j hj
  rw [rd_nat, List.getD_eq_getElem?_getD, List.getElem?_eq_getElem hj] at this
  simpa [e] using this
/-- All that the law says of a permutation and of what it scatters. -/
theorem scatter_law {x u : List Int} (h : scOk x u = true) :
    permV u = true ∧ gatV (scat x 0 (List.replicate x.length 0) u) u = (x, true) ∧ (gatV x (invt 0 (List.replicate u.length 0) u)).1 = scat x 0 (List.replicate x.length 0) u ∧ (inV (invt 0 (List.replicate u.length 0) u)).1 = u := by
  obtain ⟨hd, hp, hl⟩ := scOk_iff.1 h
  obtain ⟨hok, h400, hn⟩ := permV_iff.1 hp
  obtain ⟨hx, hx2⟩ := datOk_iff.1 hd
  have hLl : (scat x 0 (List.replicate x.length 0) u).length = x.length := by rw [scat_len]; simp
  have hVl : (invt 0 (List.replicate u.length 0) u).length = u.length := by rw [invt_len]; simp
  have hL := (scat_get x u 0 (List.replicate x.length 0) hn (by simpa [← hl] using hok)).1
  have hV : ∀ m : Nat, m < u.length → rd (invt 0 (List.replicate u.length 0) u) (rd u (m : Int)) = m := by
    intro m hm
    rw [invt_scat u.length u 0 _ (by omega), (scat_get _ u 0 (List.replicate u.length 0) hn (by simpa using hok)).1 m hm, Nat.zero_add, rd_ramp _ _ hm]
  generalize scat x 0 (List.replicate x.length 0) u = L at *
  generalize invt 0 (List.replicate u.length 0) u = V at *
  have hL : ∀ m : Nat, m < u.length → rd L (rd u (m : Int)) = rd x (m : Int) := fun m hm => by have := hL m hm; rwa [Nat.zero_add] at this
  have hS := fun j hj => perm_onto hok hn j hj
  have hLok : okb 10006 L = true := okb_of_rd fun j hj => by
    obtain ⟨m, hm, e⟩ := hS j (by omega)
    have := hL m hm
    rw [e] at this; rw [this]; exact rd_in hx2 m (by omega)
  have hVr : ∀ j : Nat, j < u.length → 0 ≤ rd V (j : Int) ∧ rd V (j : Int) ≤ (u.length : Int) - 1 := fun j hj => by
    obtain ⟨m, hm, e⟩ := hS j hj
    have := hV m hm
    rw [e] at this; rw [this]; omega
  have hVok : okb ((u.length : Int) - 1) V = true := okb_of_rd fun j hj => hVr j (by omega)
  have hVn : V.Nodup := by
    rw [List.nodup_iff_pairwise_ne, List.pairwise_iff_getElem]
    intro i j hi hj hij e
    obtain ⟨m, hm, em⟩ := hS i (by omega)
    obtain ⟨m', hm', em'⟩ := hS j (by omega)
    have a1 := hV m hm
    have a2 := hV m' hm'
    rw [em] at a1; rw [em'] at a2
    have b1 : rd V (i : Int) = V[i] := by rw [rd_nat, List.getD_eq_getElem?_getD, List.getElem?_eq_getElem hi]; rfl
    have b2 : rd V (j : Int) = V[j] := by rw [rd_nat, List.getD_eq_getElem?_getD, List.getElem?_eq_getElem hj]; rfl
    have : m = m' := by omega
    subst this; omega
  refine ⟨hp, ?_, ?_, ?_⟩
  · have : gatOk L u = true := by
      simp only [gatOk, Bool.and_eq_true, decide_eq_true_eq]
      exact ⟨datOk_iff.2 ⟨by omega, hLok⟩, by rw [hLl, ← hl]; exact hok, h400⟩
    simp only [gatV, this, if_true]
    congr 1
    refine ext_rd (by simp [hl]) fun j hj => ?_
    have hj' : j < u.length := by simpa using hj
    rw [rd_nat, List.getD_eq_getElem?_getD, List.getElem?_map, List.getElem?_eq_getElem hj', ← hL j hj', rd_nat u, List.getD_eq_getElem?_getD, List.getElem?_eq_getElem hj']; rfl
  · have : gatOk x V = true := by
      simp only [gatOk, Bool.and_eq_true, decide_eq_true_eq]
      exact ⟨hd, by rw [← hl]; exact hVok, by omega⟩
    simp only [gatV, this, if_true]
    refine ext_rd (by simp; omega) fun j hj => ?_
    have hj' : j < V.length := by simpa using hj
    obtain ⟨m, hm, e⟩ := hS j (by omega)
    have a1 := hV m hm
    rw [e] at a1
    have a2 := hL m hm
    rw [e] at a2
    rw [a2, ← a1, rd_nat, List.getD_eq_getElem?_getD, List.getElem?_map, rd_nat V, List.getD_eq_getElem?_getD, List.getElem?_eq_getElem hj']; rfl
  · have hpV : permV V = true := permV_iff.2 ⟨by rw [hVl]; exact hVok, by omega, hVn⟩
    simp only [inV, hpV, if_true]
    refine ext_rd (by rw [invt_len]; simp; omega) fun j hj => ?_
    have hj' : j < u.length := by rw [invt_len] at hj; simp at hj; omega
    have hu := rd_in hok j hj'
    have b := (scat_get (ramp 0 V.length) V 0 (List.replicate V.length 0) hVn (by simpa [hVl] using hVok)).1 (rd u (j : Int)).toNat (by omega)
    rw [invt_scat V.length V 0 _ (by omega)]
    rw [Int.toNat_of_nonneg hu.1, hV j hj', Nat.zero_add, rd_ramp _ _ (by omega), Int.toNat_of_nonneg hu.1] at b
    exact b
set_option maxHeartbeats 2000000 in
theorem FnScatter : laws_FnScatter.Pure := by
  intro c _ _ hw
  obtain ⟨K, hK⟩ : ∃ K, 3100010 ≤ K := ⟨3100010, Nat.le_refl _⟩
  refine ⟨K + 5, ?_⟩
  unfold laws_FnScatter.f
  by_cases h0 : c.length ≤ 1048576
  case neg => rw [if_pos (by omega)]
  rw [if_neg (by omega)]
  obtain ⟨x, u, hd, hx, hu⟩ := drawScatter_any (K + 5) c (by omega) (wf_u8 hw) h0
  have hg := scV_len x u
  have hi := inV_len u
  rw [hd]
  simp (discharger := omega) only [spec_Sc_eq, impl_Sc_eq, impl_Perm_eq, spec_Perm_eq', impl_In_eq, spec_In_eq, faSame_eq, Option.bind_some, decide_true, bne_self_eq_false, beq_self_eq_true, Bool.false_eq_true, ↓reduceIte]
  have e2 : (inV u).2 = permV u := by unfold inV; split <;> simp_all
  rw [e2]
  simp only [bne_self_eq_false, Bool.false_eq_true, if_false, beq_self_eq_true, if_true]
  cases h2 : scOk x u with
  | false => rw [if_neg (by simp [scV, h2])]
  | true =>
    rw [if_pos (by simp [scV, h2])]
    obtain ⟨a1, a2, a3, a4⟩ := scatter_law h2
    obtain ⟨hd, hp, hl⟩ := scOk_iff.1 h2
    have s1 : (scV x u).1 = scat x 0 (List.replicate x.length 0) u := by simp [scV, h2]
    have s2 : (inV u).1 = invt 0 (List.replicate u.length 0) u := by simp [inV, a1]
    have l1 : (scat x 0 (List.replicate x.length 0) u).length = x.length := by rw [scat_len]; simp
    have l2 : (invt 0 (List.replicate u.length 0) u).length = u.length := by rw [invt_len]; simp
    rw [s1, s2]
    simp (discharger := omega) only [impl_Gather_eq, impl_In_eq, Option.bind_some, a2, a3, a4, faSame_eq, decide_true, ↓reduceIte]
end Go.Proofs.Yteijndaldkkpfaa.Pure
