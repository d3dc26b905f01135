/-
  The most of each segment stands in it and is passed by none of it, for every code.
-/
import Derived.Test.YtnehpbkjmmadkaaMo6
import Derived.Test.YtnehpbkjmmadkaaLibFnMost
namespace Go.Proofs.Ytnehpbkjmmadkaa.Pure
open Go.RowKit Go.Proofs.Ytnehpbkjmmadkaa.Mo Go.Proofs.YtnehpbkjmmadkaaW.PrintWords Go.Proofs.YtnehpbkjmmadkaaW.PrintLast Go.Proofs.YtnehpbkjmmadkaaW.PrintMore
set_option linter.unusedVariables false
set_option linter.unusedSimpArgs false
attribute [local congr] obind_congr
theorem mostL_ge (s : Int) (l : List Int) : s ≤ mostL s l ∧ (∀ v ∈ l, v ≤ mostL s l) ∧ (mostL s l = s ∨ mostL s l ∈ l) := by
  induction l generalizing s with
  | nil => simp [mostL]
  | cons a t ih =>
    obtain ⟨h1, h2, h3⟩ := ih (mx s a)
    have e : mx s a = s ∧ a ≤ s ∨ mx s a = a ∧ s ≤ a := by unfold mx; split <;> omega
    refine ⟨by rw [mostL]; omega, ?_, ?_⟩
    · intro v hv
      rw [mostL]
      rcases List.mem_cons.1 hv with rfl | hv
      · omega
      · exact h2 v hv
    · rw [mostL]
      rcases h3 with h3 | h3
      · rcases e with ⟨e, _⟩ | ⟨e, _⟩
        · left; omega
        · right; rw [h3, e]; simp
      · right; simp [h3]
/-- The inner loop: no number of the segment passes its most, and one of them (or nothing) is it. -/
theorem most_l1 (x y ms st : List Int) (n i : Nat) (hi : i < n) (hn : n ≤ 400) (s : List Int) (hs : s.length ≤ 400) (m : Int) (hm : rd ms (i : Int) = m) (hml : ms.length = n) (hle : ∀ v ∈ s, v ≤ m) (c : Nat)
    (ih : ∀ k, c < k → laws_FnMost.l0 k x y ms st x n ((i + 1 : Nat) : Int) = some true) :
    ∀ (t : List Int) (j k : Nat) (f : Bool), s.drop j = t → (f = true ∨ m ∈ t) → t.length + 1 + c < k →
      laws_FnMost.l1 k x y ms st i f x n i s s.length j = some true := by
  intro t
  induction t with
  | nil =>
    intro j k f hd hf hk
    obtain ⟨k, rfl⟩ : ∃ m, k = m + 1 := ⟨k - 1, by omega⟩
    have hf : f = true := by rcases hf with h | h; exact h; cases h
    rw [laws_FnMost.l1, if_neg (drop_nil_info hd), if_pos hf, w64_i i (by omega)]
    exact ih k (by simp at hk; omega)
  | cons a t iht =>
    intro j k f hd hf hk
    obtain ⟨k, rfl⟩ : ∃ m, k = m + 1 := ⟨k - 1, by omega⟩
    obtain ⟨hj, hr, hd'⟩ := drop_cons_info hd
    have ha : a ≤ m := hle a (by rw [← hr, rd_nat]; exact getD_mem hj)
    simp only [List.length_cons] at hk
    rw [laws_FnMost.l1, if_pos (by omega), if_pos (by omega), if_pos (by omega), hr]
    cases f with
    | true => rw [if_pos rfl, if_pos (by omega), if_pos (by omega), hm, if_neg (by omega), w64_i j (by omega)]; exact iht (j + 1) k true hd' (Or.inl rfl) (by omega)
    | false =>
      rw [if_neg (by simp), if_pos (by omega), if_pos (by omega), hm, if_neg (by omega), w64_i j (by omega)]
      refine iht (j + 1) k _ hd' ?_ (by omega)
      rcases hf with h | h
      · cases h
      · rcases List.mem_cons.1 h with rfl | h
        · left; simp
        · right; exact h
theorem most_l0 (x y : List Int) (h : segOk x y = true) : ∀ (t u : List Int) (c : Int) (ms' : List Int) (i k : Nat), x.drop i = t → (startsFrom 0 x).drop i = u → u = startsFrom c t → 0 ≤ c → c + tot t = y.length → ((segs x y).map (mostL 0)).drop i = (segs t (y.drop c.toNat)).map (mostL 0) → 404 * t.length + 5 < k →
    laws_FnMost.l0 k x y ((segs x y).map (mostL 0)) (startsFrom 0 x) x x.length i = some true := by
  obtain ⟨h1, h2, h3⟩ := segOk_iff.1 h
  obtain ⟨a1, a2, a3⟩ := lenOk_iff.1 h1
  obtain ⟨b1, b2⟩ := datOk_iff.1 h2
  intro t
  induction t with
  | nil =>
    intro u c ms' i k hd hu huc hc0 hct hms hk
    obtain ⟨k, rfl⟩ : ∃ m, k = m + 1 := ⟨k - 1, by omega⟩
    rw [laws_FnMost.l0, if_neg (drop_nil_info hd)]
    simp [segs_length]
  | cons a t ih =>
    intro u c ms' i k hd hu huc hc0 hct hms hk
    obtain ⟨k, rfl⟩ : ∃ m, k = m + 1 := ⟨k - 1, by omega⟩
    obtain ⟨hi, hr, hd'⟩ := drop_cons_info hd
    have hat : okb 400 (a :: t) = true := by rw [← hd]; exact okb_drop a2 _
    obtain ⟨ha0, ha1, hat'⟩ := okb_tail hat
    have htn := tot_nonneg hat'
    simp only [tot] at hct
    simp only [List.length_cons] at hk
    rw [huc] at hu
    simp only [startsFrom] at hu
    obtain ⟨hj, hr2, hu'⟩ := drop_cons_info hu
    rw [startsFrom_length] at hj
    simp only [segs, List.map_cons] at hms
    obtain ⟨hj3, hr3, hms'⟩ := drop_cons_info hms
    have hml : ((segs x y).map (mostL 0)).length = x.length := by simp [segs_length]
    obtain ⟨g1, g2, g3⟩ := mostL_ge 0 ((y.drop c.toNat).take a.toNat)
    have hcut : ((y.take (c + a).toNat).drop c.toNat) = (y.drop c.toNat).take a.toNat := by
      rw [List.drop_take]; congr 1; omega
    have hsl : ((y.drop c.toNat).take a.toNat).length = a.toNat := by simp; omega
    have hnext : ∀ k, 404 * t.length + 5 < k → laws_FnMost.l0 k x y ((segs x y).map (mostL 0)) (startsFrom 0 x) x x.length ((i + 1 : Nat) : Int) = some true := fun k hk =>
      ih _ (c + a) ms' (i + 1) k hd' hu' rfl (by omega) (by omega) (by rw [hms', List.drop_drop]; congr 3; omega) hk
    have hj1 : ∀ (f : Bool) (k : Nat), (f = true ∨ mostL 0 ((y.drop c.toNat).take a.toNat) ∈ (y.drop c.toNat).take a.toNat) → 404 * t.length + a.toNat + 8 < k →
        laws_FnMost.j1 k x y ((segs x y).map (mostL 0)) (startsFrom 0 x) i a f x x.length i = some true := by
      intro f k hf hk
      obtain ⟨k, rfl⟩ : ∃ m, k = m + 1 := ⟨k - 1, by omega⟩
      rw [laws_FnMost.j1, if_pos (by omega), if_pos (by rw [startsFrom_length]; omega), hr2, if_pos (by omega), w64 (x := c + a) (by omega) (by omega), if_pos (by omega), if_pos (by omega)]
      simp only [Option.bind_some]
      rw [hcut]
      exact most_l1 x y _ _ x.length i hi a1 _ (by omega) _ hr3 hml g2 (404 * t.length + 5) hnext _ 0 k f rfl hf (by rw [List.drop_zero, hsl]; omega)
    rw [laws_FnMost.l0, if_pos (by omega), if_pos (by omega), if_pos (by omega), hr]
    by_cases ha : a = 0
    · rw [if_pos ha, if_pos (by omega), hr3]
      subst ha
      refine hj1 _ k (Or.inl ?_) (by omega)
      simp [mostL]
    · rw [if_neg ha]
      refine hj1 _ k (Or.inr ?_) (by omega)
      rcases g3 with g3 | g3
      · have : ∃ v, v ∈ (y.drop c.toNat).take a.toNat := List.exists_mem_of_length_pos (by omega)
        obtain ⟨v, hv⟩ := this
        have e1 := g2 v hv
        have e2 := okb_iff.1 (okb_take (okb_drop b2 c.toNat) a.toNat) v hv
        have : v = mostL 0 ((y.drop c.toNat).take a.toNat) := by omega
        rw [← this]; exact hv
      · exact g3
theorem FnMost : laws_FnMost.Pure := by
  intro l0 _ _ hw0
  obtain ⟨K, hK⟩ : ∃ K, 3202010 ≤ K := ⟨3202010, Nat.le_refl _⟩
  refine ⟨K + 5, ?_⟩
  unfold laws_FnMost.f
  by_cases h0 : l0.length ≤ 1048576
  case neg => rw [if_pos (by omega)]
  rw [if_neg (by omega)]
  obtain ⟨x, y, hd, hx, hu⟩ := drawMost_any (K + 5) l0 (by omega) (wf_u8 hw0) h0
  have hg := mostV_len x y
  rw [hd]
  simp (discharger := omega) only [Option.bind_some, impl_Most_eq, spec_Most_eq, faSame_eq, decide_true, ↓reduceIte, bne_self_eq_false, Bool.false_eq_true, beq_self_eq_true]
  cases h : segOk x y with
  | false => rw [if_neg (by simp [mostV, h])]
  | true =>
    obtain ⟨h1, h2, h3⟩ := segOk_iff.1 h
    have h4 := lenOk_iff.1 h1
    rw [if_pos (by simp [mostV, h]), impl_Starts_eq _ x (by omega) (by omega)]
    simp only [Option.bind_some]
    rw [show (mostV x y).1 = (segs x y).map (mostL 0) from by simp [mostV, h], show (staV x).1 = startsFrom 0 x from by simp [staV, h1]]
    exact most_l0 x y h x (startsFrom 0 x) 0 [] 0 (K + 5) (by simp) (by simp) rfl (by omega) (by omega) (by simp) (by omega)
end Go.Proofs.Ytnehpbkjmmadkaa.Pure
