/-
  What was packed holds the flagged numbers in their order, as many of each segment as were flagged: for every code.
-/
import Derived.Test.YtnehpbkjmmadkaaPa6
import Derived.Test.YtnehpbkjmmadkaaLibFnPack
namespace Go.Proofs.Ytnehpbkjmmadkaa.Pure
open Go.RowKit Go.Proofs.Ytnehpbkjmmadkaa.Pa Go.Proofs.YtnehpbkjmmadkaaW.PrintWords Go.Proofs.YtnehpbkjmmadkaaW.PrintLast Go.Proofs.YtnehpbkjmmadkaaW.PrintMore
set_option linter.unusedVariables false
set_option linter.unusedSimpArgs false
attribute [local congr] obind_congr
/-- 1 where a flag is not 0. -/
def ind (a : Int) : Int := if a = 0 then 0 else 1
theorem ind_ok (f : List Int) : okb 1 (f.map ind) = true := by
  rw [okb_iff]; intro n hn
  obtain ⟨a, _, rfl⟩ := List.mem_map.1 hn
  unfold ind; split <;> omega
theorem sel_split (d : List Int) : ∀ (f : List Int) (n : Nat), sel (d.take n) (f.take n) ++ sel (d.drop n) (f.drop n) = sel d f := by
  induction d with
  | nil => intro f n; simp [sel]
  | cons a t ih =>
    intro f n
    cases f with
    | nil => simp [sel]
    | cons b u =>
      cases n with
      | zero => simp [sel]
      | succ n =>
        simp only [List.take_succ_cons, List.drop_succ_cons, sel]
        split
        · exact ih u n
        · rw [List.cons_append, ih u n]
theorem packGo_snd (x : List Int) (hx : okb 400 x = true) : ∀ d f : List Int, d.length ≤ (tot x).toNat → (packGo x d f).2 = sel d f := by
  induction x with
  | nil =>
    intro d f hd
    simp only [tot] at hd
    have : d = [] := List.eq_nil_of_length_eq_zero (by simpa using hd)
    subst this; simp [packGo, sel]
  | cons a t ih =>
    intro d f hd
    obtain ⟨h0, h1, h2⟩ := okb_tail hx
    have := tot_nonneg h2
    simp only [tot] at hd
    rw [packGo, ih h2 _ _ (by simp; omega), sel_split]
theorem sel_mem {d f : List Int} {v : Int} (h : v ∈ sel d f) : v ∈ d := by
  induction d generalizing f with
  | nil => simp [sel] at h
  | cons a t ih =>
    cases f with
    | nil => simp [sel] at h
    | cons b u =>
      rw [sel] at h
      split at h
      · exact List.mem_cons_of_mem _ (ih h)
      · rcases List.mem_cons.1 h with rfl | h
        · simp
        · exact List.mem_cons_of_mem _ (ih h)
theorem tot_ind (d : List Int) : ∀ f : List Int, f.length = d.length → tot (f.map ind) = ((sel d f).length : Int) := by
  induction d with
  | nil => intro f h; have : f = [] := List.eq_nil_of_length_eq_zero (by simpa using h); subst this; rfl
  | cons a t ih =>
    intro f h
    cases f with
    | nil => simp at h
    | cons b u =>
      have := ih u (by simpa using h)
      simp only [List.map_cons, tot, sel, ind, this]
      split
      · omega
      · simp; omega
theorem packGo_fst (x : List Int) : ∀ d f : List Int, d.length ≤ 400 → f.length = d.length → (packGo x d f).1 = (segs x (f.map ind)).map sumM := by
  induction x with
  | nil => intro d f _ _; rfl
  | cons a t ih =>
    intro d f hd hf
    have e := tot_ind (d.take a.toNat) (f.take a.toNat) (by simp; omega)
    have e2 := sel_len (d.take a.toNat) (f.take a.toNat)
    rw [packGo, segs, List.map_cons, ← List.map_take, ← List.map_drop, ih _ _ (by simp; omega) (by simp; omega), sumM, e]
    simp only [List.length_take] at e2
    rw [Int.emod_eq_of_lt (by omega) (by omega)]
theorem packGo_tot (x : List Int) : ∀ d f : List Int, tot (packGo x d f).1 = ((packGo x d f).2.length : Int) ∧ (∀ n ∈ (packGo x d f).1, 0 ≤ n) := by
  induction x with
  | nil => intro d f; simp [packGo, tot]
  | cons a t ih =>
    intro d f
    obtain ⟨h1, h2⟩ := ih (d.drop a.toNat) (f.drop a.toNat)
    refine ⟨?_, ?_⟩
    · simp only [packGo, tot, List.length_append, h1]; omega
    · intro n hn
      simp only [packGo] at hn
      rcases List.mem_cons.1 hn with rfl | hn
      · omega
      · exact h2 n hn
theorem pack_l0 (x y f : List Int) (h : pacOk x y f = true) : ∀ (t : List Int) (i c k : Nat), f.drop i = t → t.length + 3001020 < k → c ≤ (packGo x y f).2.length → (packGo x y f).2.drop c = sel (y.drop i) t →
    laws_FnPack.l0 k x y (packGo x y f).1 (packGo x y f).2 ((f.take i).map ind) c f f.length i = some true := by
  obtain ⟨h1, h2, h3⟩ := pacOk_iff.1 h
  obtain ⟨g1, g2, g3⟩ := segOk_iff.1 h1
  obtain ⟨a1, a2, a3⟩ := lenOk_iff.1 g1
  obtain ⟨b1, b2⟩ := datOk_iff.1 g2
  have hL := packGo_len1 x y f
  have hD := packGo_len2 x y f
  obtain ⟨t1, t2⟩ := packGo_tot x y f
  intro t
  induction t with
  | nil =>
    intro i c k hd hk hc hs
    obtain ⟨k, rfl⟩ : ∃ m, k = m + 1 := ⟨k - 1, by omega⟩
    have hi := List.drop_eq_nil_iff.1 hd
    have hy : y.drop i = [] := List.drop_eq_nil_of_le (by omega)
    rw [hy] at hs
    simp only [sel] at hs
    have hc2 := List.drop_eq_nil_iff.1 hs
    rw [laws_FnPack.l0, if_neg (drop_nil_info hd), List.take_of_length_le hi]
    have hdat : datOk (f.map ind) = true := datOk_iff.2 ⟨by simp; omega, okb_le (ind_ok f) (by omega)⟩
    have s1 : sumV x (f.map ind) = ((segs x (f.map ind)).map sumM, true) := by
      rw [sumV, if_pos (segOk_iff.2 ⟨g1, hdat, by simp; omega⟩)]
    rw [impl_Sum_eq k x _ (by omega) (by omega) (by simp; omega), s1]
    simp only [Option.bind_some]
    rw [if_pos (by omega), packGo_fst x y f b1 h2, faSame_eq k _ _ (by omega) (by simp [segs_length]; omega)]
    simp only [Option.bind_some, decide_true, if_true]
    rw [← packGo_fst x y f b1 h2, impl_SegmentsValid_eq k _ _ (by omega) (by omega) (by omega)]
    simp only [Option.bind_some]
    congr 1
    have hy2 : okb 10006 (packGo x y f).2 = true := by
      rw [okb_iff]; intro n hn
      rw [packGo_snd x a2 y f (by omega)] at hn
      exact okb_iff.1 b2 n (sel_mem hn)
    exact segOk_iff.2 ⟨lenOk_iff.2 ⟨by omega, okb_of_tot t2 (by omega), by omega⟩, datOk_iff.2 ⟨by omega, hy2⟩, t1⟩
  | cons b t ih =>
    intro i c k hd hk hc hs
    obtain ⟨k, rfl⟩ : ∃ m, k = m + 1 := ⟨k - 1, by omega⟩
    obtain ⟨hi, hr, hd'⟩ := drop_cons_info hd
    have hyi : i < y.length := by omega
    have hyd := drop_uncons hyi
    rw [hyd] at hs
    simp only [sel] at hs
    simp only [List.length_cons] at hk
    have htk : (f.take (i + 1)).map ind = (f.take i).map ind ++ [ind b] := by
      rw [List.take_add_one, List.getElem?_eq_getElem hi, List.map_append]
      have : f[i] = b := by rw [← hr, rd_nat, List.getD_eq_getElem?_getD, List.getElem?_eq_getElem hi]; rfl
      simp [this]
    rw [laws_FnPack.l0, if_pos (by omega), if_pos (by omega), if_pos (by omega), hr]
    by_cases hb : b = 0
    · rw [if_pos hb] at hs
      rw [if_pos hb, if_pos (by simp; omega), w64_i i (by omega)]
      have := ih (i + 1) c k hd' (by omega) hc hs
      rw [htk, ind, if_pos hb] at this
      exact this
    · rw [if_neg hb] at hs
      obtain ⟨hcl, hcr, hcd⟩ := drop_cons_info hs
      rw [if_neg hb, if_pos (by simp; omega), if_neg (by omega), if_pos (by omega), if_pos (by omega), if_pos (by omega), hcr, if_pos rfl, w64_i c (by omega), w64_i i (by omega)]
      have := ih (i + 1) (c + 1) k hd' (by omega) (by omega) hcd
      rw [htk, ind, if_neg hb] at this
      exact this
theorem FnPack : laws_FnPack.Pure := by
  intro l0 _ _ hw0
  obtain ⟨K, hK⟩ : ∃ K, 3202010 ≤ K := ⟨3202010, Nat.le_refl _⟩
  refine ⟨K + 5, ?_⟩
  unfold laws_FnPack.f
  by_cases h0 : l0.length ≤ 1048576
  case neg => rw [if_pos (by omega)]
  rw [if_neg (by omega)]
  obtain ⟨x, y, f, hd, hx, hy, hu⟩ := drawPack_any (K + 5) l0 (by omega) (wf_u8 hw0) h0
  have hg := pacV_len1 x y f
  have hg2 := pacV_len2 x y f
  rw [hd]
  simp (discharger := omega) only [Option.bind_some, impl_Pack_eq, spec_Pack_eq, faSame_eq, decide_true, ↓reduceIte, bne_self_eq_false, Bool.false_eq_true, beq_self_eq_true]
  cases h : pacOk x y f with
  | false => rw [if_neg (by simp [pacV, h])]
  | true =>
    obtain ⟨h1, h2, h3⟩ := pacOk_iff.1 h
    obtain ⟨g1, g2, g3⟩ := segOk_iff.1 h1
    rw [if_pos (by simp [pacV, h])]
    rw [show (pacV x y f).1 = (packGo x y f).1 from by simp [pacV, h], show (pacV x y f).2.1 = (packGo x y f).2 from by simp [pacV, h]]
    exact pack_l0 x y f h f 0 0 (K + 5) (by simp) (by omega) (by omega) (by rw [List.drop_zero, List.drop_zero]; exact packGo_snd x (lenOk_iff.1 g1).2.1 y f (by omega))
end Go.Proofs.Ytnehpbkjmmadkaa.Pure
