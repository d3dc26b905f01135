/-
  Picked segments sum as the picked sums; what was woven is unwoven by packing: for every code.
-/
import Derived.Test.YtnehpbkjmmadkaaPw8
import Derived.Test.YtnehpbkjmmadkaaLibFnPickWeave
namespace Go.Proofs.Ytnehpbkjmmadkaa.Pure
open Go.RowKit Go.Proofs.Ytnehpbkjmmadkaa.Pw Go.Proofs.YtnehpbkjmmadkaaW.PrintWords Go.Proofs.YtnehpbkjmmadkaaW.PrintLast Go.Proofs.YtnehpbkjmmadkaaW.PrintMore
set_option linter.unusedVariables false
set_option linter.unusedSimpArgs false
attribute [local congr] obind_congr
theorem sel_wv (f : List Int) : ∀ a b : List Int, cntN f = a.length → f.length - cntN f = b.length → sel (wv f a b) f = a ∧ (wv f a b).length = f.length := by
  induction f with
  | nil => intro a b h1 h2; cases a with | nil => simp [wv, sel] | cons x a => simp [cntN] at h1
  | cons x t ih =>
    intro a b h1 h2
    have hc := cntN_le t
    by_cases hx : x = 0
    · simp only [cntN, if_pos hx, List.length_cons] at h1 h2
      cases b with
      | nil => simp at h2; omega
      | cons y b =>
        obtain ⟨e1, e2⟩ := ih a b h1 (by simp at h2; omega)
        simp [wv, sel, hx, e1, e2]
    · simp only [cntN, if_neg hx, List.length_cons] at h1 h2
      cases a with
      | nil => simp at h1
      | cons y a =>
        obtain ⟨e1, e2⟩ := ih a b (by simpa using h1) (by omega)
        simp [wv, sel, hx, e1, e2]
theorem wv_mem (f : List Int) : ∀ (a b : List Int) (n : Int), n ∈ wv f a b → n ∈ a ∨ n ∈ b := by
  induction f with
  | nil => intro a b n h; simp [wv] at h
  | cons x t ih =>
    intro a b n h
    by_cases hx : x = 0
    · cases b with
      | nil => simp [wv, hx] at h
      | cons y b =>
        simp only [wv, if_pos hx] at h
        rcases List.mem_cons.1 h with rfl | h
        · right; simp
        · rcases ih a b n h with h | h
          · exact .inl h
          · right; simp [h]
    · cases a with
      | nil => simp [wv, hx] at h
      | cons y a =>
        simp only [wv, if_neg hx] at h
        rcases List.mem_cons.1 h with rfl | h
        · left; simp
        · rcases ih a b n h with h | h
          · left; simp [h]
          · exact .inr h
theorem seg_len (x : List Int) : ∀ (y : List Int) (i : Nat), okb 400 x = true → tot x ≤ y.length → i < x.length → (((segs x y).getD i []).length : Int) = x.getD i 0 := by
  induction x with
  | nil => intro y i _ _ h; simp at h
  | cons a t ih =>
    intro y i hok ht hi
    obtain ⟨h0, h1, h2⟩ := okb_tail hok
    have h3 := tot_nonneg h2
    simp only [tot] at ht
    cases i with
    | zero => simp [segs]; omega
    | succ i =>
      have := ih (y.drop a.toNat) i h2 (by simp; omega) (by simpa using hi)
      simpa [segs] using this
theorem rdLL_len_eq (x y : List Int) (a : Int) (hok : okb 400 x = true) (ht : tot x ≤ y.length) (h0 : 0 ≤ a) (h1 : a < x.length) : ((rd_L1 (segs x y) a).length : Int) = rd x a := by
  have := seg_len x y a.toNat hok ht (by omega)
  unfold rd_L1 rd
  exact this
theorem picked_segs (x y : List Int) (hok : okb 400 x = true) (ht : tot x ≤ y.length) : ∀ u : List Int, okb ((x.length : Int) - 1) u = true → segs (u.map (fun a => rd x a)) (pickL (segs x y) u) = u.map (fun a => rd_L1 (segs x y) a) ∧ tot (u.map (fun a => rd x a)) = ((pickL (segs x y) u).length : Int) := by
  intro u
  induction u with
  | nil => intro _; simp [segs, pickL, tot]
  | cons a t ih =>
    intro hu
    obtain ⟨h0, h1, h2⟩ := okb_tail hu
    obtain ⟨e1, e2⟩ := ih h2
    have hl := rdLL_len_eq x y a hok ht h0 (by omega)
    have hp : pickL (segs x y) (a :: t) = rd_L1 (segs x y) a ++ pickL (segs x y) t := by simp [pickL]
    rw [hp]
    refine ⟨?_, ?_⟩
    · simp only [List.map_cons, segs]
      rw [List.take_left' (by omega), List.drop_left' (by omega), e1]
    · simp only [List.map_cons, tot, List.length_append, e2]; omega
theorem rd_sums (x y : List Int) (a : Int) (h0 : 0 ≤ a) (h1 : a < x.length) : rd ((segs x y).map sumM) a = sumM (rd_L1 (segs x y) a) := by
  unfold rd rd_L1
  have hl : a.toNat < (segs x y).length := by rw [segs_length]; omega
  rw [List.getD_eq_getElem?_getD, List.getD_eq_getElem?_getD, List.getElem?_map, List.getElem?_eq_getElem hl]; rfl
theorem pickL_ok (x y : List Int) (hd : okb 10006 y = true) (u : List Int) : okb 10006 (pickL (segs x y) u) = true := by
  rw [okb_iff]; intro n hn
  simp only [pickL, List.mem_flatten, List.mem_map] at hn
  obtain ⟨s, ⟨a, _, rfl⟩, hn⟩ := hn
  unfold rd_L1 at hn
  rw [List.getD_eq_getElem?_getD] at hn
  cases hx : (segs x y)[a.toNat]? with
  | none => rw [hx] at hn; simp at hn
  | some s =>
    rw [hx] at hn
    exact okb_iff.1 (okb_mem_segs hd (List.mem_of_getElem? hx)) n hn
theorem pick_j1 (x y u : List Int) (k : Nat) (hk : 3202000 < k) (hx : x.length ≤ 1000) (hy : y.length ≤ 1000) (hu : u.length ≤ 1001) : laws_FnPickWeave.j1 k x y u (pickV x y u).1 (pickV x y u).2.1 (pickV x y u).2.2 = some true := by
  obtain ⟨k, rfl⟩ : ∃ m, k = m + 1 := ⟨k - 1, by omega⟩
  rw [laws_FnPickWeave.j1]
  by_cases h : pickOk x y u = true ∧ (pickL (segs x y) u).length ≤ 400
  case neg =>
    have e : pickV x y u = ([], [], false) := by
      unfold pickV; split
      · rename_i h1; rw [if_neg (fun h2 => h ⟨h1, h2⟩)]
      · rfl
    rw [e]; simp
  obtain ⟨h, hp⟩ := h
  obtain ⟨g1, g2, g3⟩ := pickOk_iff.1 h
  obtain ⟨h1, h2, h3⟩ := segOk_iff.1 g1
  obtain ⟨a1, a2, a3⟩ := lenOk_iff.1 h1
  obtain ⟨b1, b2⟩ := datOk_iff.1 h2
  obtain ⟨p1, p2⟩ := picked_segs x y a2 (by omega) u g2
  have e : pickV x y u = (u.map (fun a => rd x a), pickL (segs x y) u, true) := by rw [pickV, if_pos h, if_pos hp]
  have hsl : ((segs x y).map sumM).length = x.length := by simp [segs_length]
  have s1 : sumV x y = ((segs x y).map sumM, true) := by rw [sumV, if_pos g1]
  have s2 : gatV ((segs x y).map sumM) u = (u.map (fun a => rd ((segs x y).map sumM) a), true) := by
    have : gatOk ((segs x y).map sumM) u = true := by
      simp only [gatOk, sums_data a1, hsl, Bool.true_and, Bool.and_eq_true, decide_eq_true_eq]
      exact ⟨g2, g3⟩
    simp only [gatV, this, if_true]
  have hlen : lenOk (u.map (fun a => rd x a)) = true := by
    refine lenOk_iff.2 ⟨by simp; omega, ?_, by omega⟩
    rw [okb_iff]; intro n hn
    obtain ⟨a, ha, rfl⟩ := List.mem_map.1 hn
    have := okb_iff.1 g2 a ha
    exact okb_iff.1 a2 _ (rd_mem (by omega) (by omega))
  have s3 : sumV (u.map (fun a => rd x a)) (pickL (segs x y) u) = ((segs (u.map (fun a => rd x a)) (pickL (segs x y) u)).map sumM, true) := by
    rw [sumV, if_pos (segOk_iff.2 ⟨hlen, datOk_iff.2 ⟨hp, pickL_ok x y b2 u⟩, p2⟩)]
  rw [e]
  simp only [if_true]
  rw [impl_Sum_eq k x y (by omega) (by omega) (by omega), s1]
  simp only [Option.bind_some]
  rw [impl_Gather_eq k _ u (by omega) (by omega) (by omega), s2]
  simp only [Option.bind_some]
  rw [impl_Sum_eq k _ _ (by omega) (by simp; omega) (by omega), s3]
  simp only [Option.bind_some, if_true]
  rw [faSame_eq k _ _ (by omega) (by simp; omega)]
  simp only [Option.bind_some]
  congr 1
  rw [p1, decide_eq_true_eq, List.map_map]
  apply List.map_congr_left
  intro a ha
  have := okb_iff.1 g2 a ha
  exact rd_sums x y a (by omega) (by omega)
theorem FnPickWeave : laws_FnPickWeave.Pure := by
  intro l0 l1 _ _ hw0 _ _ hw1
  obtain ⟨K, hK⟩ : ∃ K, 4102010 ≤ K := ⟨4102010, Nat.le_refl _⟩
  refine ⟨K + 5, ?_⟩
  unfold laws_FnPickWeave.f
  by_cases h0 : l0.length ≤ 1048576
  case neg => rw [if_pos (by omega), laws_FnPickWeave.j0]; rfl
  rw [if_neg (by omega), laws_FnPickWeave.j0]
  by_cases h1 : l1.length ≤ 1048576
  case neg => rw [if_pos (by simp; omega)]
  rw [if_neg (by simp; omega)]
  obtain ⟨x, y, u, hd, hx, hy, hu⟩ := drawPick_any (K + 4) l0 (by omega) (wf_u8 hw0) h0
  obtain ⟨f, a, b, hd2, hf, ha, hb⟩ := drawWeave_any (K + 4) l1 (by omega) (wf_u8 hw1) h1
  have hg := pickV_len x y u
  have hg2 := pickV_len2 x y u
  have hg3 := wvV_len f a b
  have hj := pick_j1 x y u (K + 4) (by omega) hx hy hu
  rw [hd]
  simp only [Option.bind_some]
  rw [impl_Pick_eq _ x y u (by omega) (by omega) (by omega) (by omega)]
  simp only [Option.bind_some]
  rw [spec_Pick_eq _ x y u (by omega) (by omega) (by omega) (by omega)]
  simp only [Option.bind_some]
  rw [hd2]
  simp only [Option.bind_some]
  rw [impl_Weave_eq]
  simp only [Option.bind_some]
  rw [spec_Weave_eq _ f a b (by omega) (by omega) (by omega) (by omega)]
  simp only [Option.bind_some]
  rw [faSame_eq _ _ _ (by omega) hg]
  simp only [Option.bind_some, decide_true, if_true]
  rw [faSame_eq _ _ _ (by omega) hg2]
  simp only [Option.bind_some, decide_true, if_true, bne_self_eq_false, Bool.false_eq_true, if_false]
  rw [faSame_eq _ _ _ (by omega) hg3]
  simp only [Option.bind_some, decide_true, if_true]
  cases h : wvOk f a b with
  | false => rw [if_neg (by simp [wvV, h])]; exact hj
  | true =>
    obtain ⟨⟨h1, h2, h3⟩, h4, h5⟩ := wvOk_iff.1 h
    obtain ⟨f1, f2⟩ := datOk_iff.1 h1
    obtain ⟨a1, a2⟩ := datOk_iff.1 h2
    obtain ⟨b1, b2⟩ := datOk_iff.1 h3
    obtain ⟨w1, w2⟩ := sel_wv f a b h4 h5
    have e : wvV f a b = (wv f a b, true) := by rw [wvV, if_pos h]
    rw [e]
    simp only [if_true]
    have hwd : datOk (wv f a b) = true := by
      refine datOk_iff.2 ⟨by omega, ?_⟩
      rw [okb_iff]; intro n hn
      rcases wv_mem f a b n hn with hn | hn
      · exact okb_iff.1 a2 n hn
      · exact okb_iff.1 b2 n hn
    have ep : pacV [((wv f a b).length : Int)] (wv f a b) f = ((packGo [((wv f a b).length : Int)] (wv f a b) f).1, (packGo [((wv f a b).length : Int)] (wv f a b) f).2, true) := by
      rw [pacV, if_pos]
      refine pacOk_iff.2 ⟨segOk_iff.2 ⟨lenOk_iff.2 ⟨by simp, ?_, by simp [tot]; omega⟩, hwd, by simp [tot]⟩, by omega, f2⟩
      rw [okb_iff]; intro n hn; simp at hn; omega
    have es : (packGo [((wv f a b).length : Int)] (wv f a b) f).2 = a := by
      simp only [packGo, Int.toNat_natCast, List.append_nil]
      rw [List.take_length, w2, List.take_length, w1]
    rw [impl_Pack_eq _ _ _ f (by omega) (by simp) (by omega) (by omega), ep]
    simp only [Option.bind_some]
    rw [es, faSame_eq _ a a (by omega) (by omega)]
    simp only [Option.bind_some, decide_true, if_true]
    rw [if_pos (by omega)]
    exact hj
end Go.Proofs.Ytnehpbkjmmadkaa.Pure
