/-
  Sums and running sums fit each other, for every code.
-/
import Derived.Test.YtnehpbkjmmadkaaSu6
import Derived.Test.YtnehpbkjmmadkaaLibFnSumSegments
namespace Go.Proofs.Ytnehpbkjmmadkaa.Pure
open Go.RowKit Go.Proofs.Ytnehpbkjmmadkaa.Su Go.Proofs.YtnehpbkjmmadkaaW.PrintWords Go.Proofs.YtnehpbkjmmadkaaW.PrintLast Go.Proofs.YtnehpbkjmmadkaaW.PrintMore
set_option linter.unusedVariables false
set_option linter.unusedSimpArgs false
attribute [local congr] obind_congr
theorem scanAll_len (x : List Int) (hx : okb 400 x = true) : ∀ y : List Int, (scanAll (segs x y)).length = (y.take (tot x).toNat).length := by
  induction x with
  | nil => intro y; simp [segs, scanAll, tot]
  | cons a t ih =>
    intro y
    obtain ⟨h0, h1, h2⟩ := okb_tail hx
    have h3 := tot_nonneg h2
    have e := ih h2 (y.drop a.toNat)
    simp only [segs, scanAll, List.map_cons, List.flatten_cons, List.length_append, scanL_length, tot, List.length_take, List.length_drop] at e ⊢
    omega
theorem drop_append_info {l : List Int} {i : Nat} {a : Int} {t R : List Int} (h : l.drop i = (a :: t) ++ R) : i < l.length ∧ rd l (i : Int) = a ∧ l.drop (i + 1) = t ++ R := drop_cons_info (by rw [h]; rfl)
/-- The inner loop: each running sum and the number beside it give the next one, the last the sum. -/
theorem ss_l1 (x y sm sc st : List Int) (n i c a : Nat) (hi : i < n) (hn : n ≤ 400) (ha : c + a ≤ 400) (hst : rd st (i : Int) = c) (hstl : st.length = n) (hsl : sm.length = n) (R Y : List Int) (cN : Nat)
    (ih : ∀ k, cN < k → laws_FnSumSegments.l0 k x y sm sc st x n ((i + 1 : Nat) : Int) = some true) :
    ∀ (u : List Int) (j k : Nat) (acc : Int), sc.drop (c + j) = scanL acc u ++ R → y.drop (c + j) = u ++ Y → u.length + j = a → (j = 0 → acc = 0) → 0 ≤ acc → acc < 10007 → okb 10006 u = true → rd sm (i : Int) = (acc + tot u) % 10007 → u.length + 1 + cN < k →
      laws_FnSumSegments.l1 k x y sm sc st i a x n i a j = some true := by
  intro u
  induction u with
  | nil =>
    intro j k acc hsc hy hu h0 ha0 ha1 hok hs hk
    obtain ⟨k, rfl⟩ : ∃ m, k = m + 1 := ⟨k - 1, by omega⟩
    rw [laws_FnSumSegments.l1, if_neg (by simp at hu; omega), w64_i i (by omega)]
    exact ih k (by simp at hk; omega)
  | cons v u ihu =>
    intro j k acc hsc hy hu h0 ha0 ha1 hok hs hk
    obtain ⟨k, rfl⟩ : ∃ m, k = m + 1 := ⟨k - 1, by omega⟩
    obtain ⟨hv0, hv1, hok'⟩ := okb_tail hok
    simp only [scanL] at hsc
    obtain ⟨hc1, hc2, hc3⟩ := drop_append_info hsc
    obtain ⟨hy1, hy2, hy3⟩ := drop_append_info hy
    simp only [List.length_cons] at hu hk
    have e1 : ((c : Int) + (j : Int)) = ((c + j : Nat) : Int) := by omega
    have e2 : (((c + j : Nat) : Int) + 1) = ((c + j + 1 : Nat) : Int) := by omega
    have hnext := fun hs' => ihu (j + 1) k ((acc + v) % 10007) (by rw [← Nat.add_assoc]; exact hc3) (by rw [← Nat.add_assoc]; exact hy3) (by omega) (by omega) (by omega) (by omega) hok' hs' (by omega)
    have hsum : rd sm (i : Int) = ((acc + v) % 10007 + tot u) % 10007 := by rw [hs, tot]; omega
    have hnx := hnext hsum
    clear hnext
    have hj0 : (j : Int) = 0 → acc = 0 := fun h => h0 (by omega)
    rw [laws_FnSumSegments.l1, if_pos (by omega), if_pos (by omega), if_pos (by omega), hst, e1, w64 (x := ((c + j : Nat) : Int)) (by omega) (by omega), if_pos (by omega), if_pos (by omega), if_pos (by omega), hc2, hy2, e2,
      w64 (x := ((c + j + 1 : Nat) : Int)) (by omega) (by omega), w64_i j (by omega), w64 (x := acc + v) (by omega) (by omega), tmod_nonneg _ (show 0 ≤ acc + v by omega)]
    cases u with
    | nil =>
      simp only [List.length_nil] at hu
      have hs2 : rd sm (i : Int) = (acc + v) % 10007 := by rw [hsum, tot]; omega
      rw [if_neg (show ¬ ((j + 1 : Nat) : Int) < (a : Int) by omega), if_pos (show ((j + 1 : Nat) : Int) = (a : Int) by omega), if_pos (show (i : Int) < (sm.length : Int) by omega), if_pos hs2]
      by_cases hj : (j : Int) = 0
      · rw [if_pos hj, if_pos (hj0 hj)]; exact hnx
      · rw [if_neg hj]; exact hnx
    | cons w u =>
      simp only [scanL] at hc3
      obtain ⟨hd1, hd2, hd3⟩ := drop_append_info hc3
      simp only [List.length_cons] at hu
      rw [if_pos (show ((j + 1 : Nat) : Int) < (a : Int) by omega), if_pos (show (0 : Int) ≤ ((c + j + 1 : Nat) : Int) by omega), if_pos (show ((c + j + 1 : Nat) : Int) < (sc.length : Int) by omega), hd2, if_pos rfl, if_neg (show ¬ ((j + 1 : Nat) : Int) = (a : Int) by omega)]
      by_cases hj : (j : Int) = 0
      · rw [if_pos hj, if_pos (hj0 hj)]; exact hnx
      · rw [if_neg hj]; exact hnx
theorem ss_l0 (x y : List Int) (h : segOk x y = true) : ∀ (t : List Int) (i k c : Nat), x.drop i = t → (startsFrom 0 x).drop i = startsFrom c t → (c : Int) + tot t = y.length → ((segs x y).map sumM).drop i = (segs t (y.drop c)).map sumM → (scanAll (segs x y)).drop c = scanAll (segs t (y.drop c)) → 404 * t.length + 5 < k →
    laws_FnSumSegments.l0 k x y ((segs x y).map sumM) (scanAll (segs x y)) (startsFrom 0 x) x x.length i = some true := by
  obtain ⟨h1, h2, h3⟩ := segOk_iff.1 h
  obtain ⟨a1, a2, a3⟩ := lenOk_iff.1 h1
  obtain ⟨b1, b2⟩ := datOk_iff.1 h2
  intro t
  induction t with
  | nil =>
    intro i k c hd hu hct hms hsc hk
    obtain ⟨k, rfl⟩ : ∃ m, k = m + 1 := ⟨k - 1, by omega⟩
    have hl := scanAll_len x a2 y
    rw [laws_FnSumSegments.l0, if_neg (drop_nil_info hd), if_pos (by simp [segs_length]), hl, List.take_of_length_le (by omega)]
    simp
  | cons a t ih =>
    intro i k c hd hu hct hms hsc hk
    obtain ⟨k, rfl⟩ : ∃ m, k = m + 1 := ⟨k - 1, by omega⟩
    obtain ⟨hi, hr, hd'⟩ := drop_cons_info hd
    have hat : okb 400 (a :: t) = true := by rw [← hd]; exact okb_drop a2 _
    obtain ⟨ha0, ha1, hat'⟩ := okb_tail hat
    have htn := tot_nonneg hat'
    obtain ⟨a, rfl⟩ := Int.eq_ofNat_of_zero_le ha0
    simp only [tot] at hct
    simp only [List.length_cons] at hk
    simp only [startsFrom] at hu
    obtain ⟨hj, hr2, hu'⟩ := drop_cons_info hu
    simp only [segs, List.map_cons, Int.toNat_natCast] at hms
    obtain ⟨hj3, hr3, hms'⟩ := drop_cons_info hms
    simp only [segs, scanAll, List.map_cons, List.flatten_cons, Int.toNat_natCast] at hsc
    have hml : ((segs x y).map sumM).length = x.length := by simp [segs_length]
    have hsl : ((y.drop c).take a).length = a := by simp; omega
    have hsc' : (scanAll (segs x y)).drop (c + a) = scanAll (segs t ((y.drop c).drop a)) := by
      have : ((scanAll (segs x y)).drop c).drop a = scanAll (segs t ((y.drop c).drop a)) := by
        show (List.drop c ((segs x y).map (scanL 0)).flatten).drop a = _
        rw [hsc, List.drop_left' (by rw [scanL_length, hsl])]; rfl
      rw [← this, List.drop_drop]
    have hnext : ∀ k, 404 * t.length + 5 < k → laws_FnSumSegments.l0 k x y ((segs x y).map sumM) (scanAll (segs x y)) (startsFrom 0 x) x x.length ((i + 1 : Nat) : Int) = some true := fun k hk =>
      ih (i + 1) k (c + a) hd' (by rw [hu']; congr 1) (by omega) (by rw [hms', List.drop_drop]) (by rw [hsc', List.drop_drop]) hk
    have hj1 : ∀ k, 404 * t.length + a + 8 < k → laws_FnSumSegments.j1 k x y ((segs x y).map sumM) (scanAll (segs x y)) (startsFrom 0 x) i a x x.length i false = some true := by
      intro k hk
      obtain ⟨k, rfl⟩ : ∃ m, k = m + 1 := ⟨k - 1, by omega⟩
      rw [laws_FnSumSegments.j1, if_neg (by simp)]
      exact ss_l1 x y _ _ _ x.length i c a hi a1 (by omega) hr2 (startsFrom_length _ _) hml (scanAll (segs t ((y.drop c).drop a))) ((y.drop c).drop a) (404 * t.length + 5) hnext ((y.drop c).take a) 0 k 0 hsc (by rw [Nat.add_zero, List.take_append_drop]) (by omega) (fun _ => rfl) (by omega) (by omega) (okb_take (okb_drop b2 _) _) (by rw [hr3, sumM]; omega) (by omega)
    rw [laws_FnSumSegments.l0, if_pos (by omega), if_pos (by omega), if_pos (by omega), hr]
    by_cases ha : (a : Int) = 0
    · rw [if_pos ha, if_pos (by omega), hr3]
      have : (sumM (List.take a (List.drop c y)) != 0) = false := by
        have : a = 0 := by omega
        subst this; rfl
      rw [this]
      exact hj1 k (by omega)
    · rw [if_neg ha]
      exact hj1 k (by omega)
theorem FnSumSegments : laws_FnSumSegments.Pure := by
  intro l0 _ _ hw0
  obtain ⟨K, hK⟩ : ∃ K, 3202010 ≤ K := ⟨3202010, Nat.le_refl _⟩
  refine ⟨K + 5, ?_⟩
  unfold laws_FnSumSegments.f
  by_cases h0 : l0.length ≤ 1048576
  case neg => rw [if_pos (by omega)]
  rw [if_neg (by omega)]
  obtain ⟨x, y, hd, hx, hu⟩ := drawSum_any (K + 5) l0 (by omega) (wf_u8 hw0) h0
  have hg := sumV_len x y
  have hg2 := scanV_len x y
  have e2 : (sumV x y).2 = segOk x y := by unfold sumV; split <;> simp_all
  have e3 : (scanV x y).2 = segOk x y := by unfold scanV; split <;> simp_all
  rw [hd]
  simp only [Option.bind_some]
  rw [impl_Sum_eq _ x y (by omega) (by omega) (by omega)]
  simp only [Option.bind_some]
  rw [impl_Scan_eq _ x y (by omega) (by omega) (by omega)]
  simp only [Option.bind_some]
  rw [spec_Sum_eq _ x y (by omega) (by omega) (by omega)]
  simp only [Option.bind_some]
  rw [spec_Scan_eq _ x y (by omega) (by omega) (by omega)]
  simp only [Option.bind_some]
  rw [faSame_eq _ _ _ (by omega) hg]
  simp only [Option.bind_some, decide_true, if_true, bne_self_eq_false, Bool.false_eq_true, if_false]
  rw [faSame_eq _ _ _ (by omega) hg2]
  simp only [Option.bind_some, decide_true, if_true]
  rw [e2, e3, impl_SegmentsValid_eq _ x y (by omega) (by omega) (by omega)]
  simp only [Option.bind_some, bne_self_eq_false, Bool.false_eq_true, if_false]
  rw [spec_SegmentsValid_eq _ x y (by omega) (by omega) (by omega)]
  simp only [Option.bind_some, bne_self_eq_false, Bool.false_eq_true, if_false]
  cases h : segOk x y with
  | false =>
    simp only [Bool.false_eq_true, if_false, decide_true, beq_self_eq_true, if_true, Option.bind_some]
  | true =>
    obtain ⟨h1, h2, h3⟩ := segOk_iff.1 h
    have h4 := lenOk_iff.1 h1
    rw [if_pos rfl, impl_Starts_eq _ x (by omega) (by omega)]
    simp only [Option.bind_some]
    rw [show (sumV x y).1 = (segs x y).map sumM from by simp [sumV, h], show (scanV x y).1 = scanAll (segs x y) from by simp [scanV, h], show (staV x).1 = startsFrom 0 x from by simp [staV, h1]]
    exact ss_l0 x y h x 0 (K + 5) 0 (by simp) (by simp) (by omega) (by simp) (by simp) (by omega)
end Go.Proofs.Ytnehpbkjmmadkaa.Pure
