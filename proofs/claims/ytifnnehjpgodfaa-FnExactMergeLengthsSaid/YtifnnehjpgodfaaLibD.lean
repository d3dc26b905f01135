/-
  What cutting into segments, sums and merging compute.
-/
import Derived.Test.YtifnnehjpgodfaaPrint10
import Derived.Test.YtifnnehjpgodfaaPrint6
import Derived.Test.YtifnnehjpgodfaaPrint7
import Derived.Test.YtifnnehjpgodfaaPrint9
import Derived.Test.YtifnnehjpgodfaaLibA
import Derived.Test.YtifnnehjpgodfaaLibB
import Derived.Test.YtifnnehjpgodfaaLibC
namespace Go.Proofs.Ytifnnehjpgodfaa.Print
open Go.RowKit Go.Proofs.YtifnnehjpgodfaaW.PrintWords Go.Proofs.YtifnnehjpgodfaaW.PrintLast
set_option linter.unusedVariables false
set_option linter.unusedSimpArgs false
/-- The segments of data. -/
def segs : List Int → List Int → List (List Int)
  | [], _ => []
  | a :: t, d => d.take a.toNat :: segs t (d.drop a.toNat)
theorem segs_length (l d : List Int) : (segs l d).length = l.length := by
  induction l generalizing d with
  | nil => rfl
  | cons a t ih => simp [segs, ih]
theorem ddrop_cons_info {α : Type} {l : List α} {i : Nat} {a : α} {t : List α} (h : l.drop i = a :: t) : i < l.length ∧ l[i]? = some a ∧ l.drop (i + 1) = t := by
  have hi : i < l.length := by
    rcases Nat.lt_or_ge i l.length with h1 | h1
    · exact h1
    · rw [List.drop_eq_nil_of_le h1] at h; cases h
  rw [List.drop_eq_getElem_cons hi] at h
  injection h with h1 h2
  exact ⟨hi, by rw [List.getElem?_eq_getElem hi, h1], h2⟩
theorem okb_mem_segs {m : Int} {l d s : List Int} (h : okb m d = true) (hs : s ∈ segs l d) : okb m s = true := by
  induction l generalizing d with
  | nil => cases hs
  | cons a t ih =>
    simp only [segs, List.mem_cons] at hs
    rcases hs with rfl | hs
    · exact okb_take h _
    · exact ih (okb_drop h _) hs
theorem mem_segs_len {l d s : List Int} (hs : s ∈ segs l d) : s.length ≤ d.length := by
  induction l generalizing d with
  | nil => cases hs
  | cons a t ih =>
    simp only [segs, List.mem_cons] at hs
    rcases hs with rfl | hs
    · simp; omega
    · have := ih hs; simp at this; omega
theorem okb_tail {m a : Int} {t : List Int} (h : okb m (a :: t) = true) : 0 ≤ a ∧ a ≤ m ∧ okb m t = true := by
  rw [okb_cons] at h; simp at h; exact ⟨h.1.1, h.1.2, h.2⟩
theorem rdLL_of {l : List (List Int)} {i : Nat} {a : List Int} (h : l[i]? = some a) : rd_L2 l (i : Int) = a := by
  unfold rd_L2; rw [Int.toNat_natCast, List.getD_eq_getElem?_getD, h]; rfl
theorem impl_segments_l0 (l : List Int) (hl : l.length ≤ 400) : ∀ (t : List Int) (i k : Nat) (d : List Int) (s : List (List Int)), l.drop i = t → t.length < k → s.length = i → okb 400 t = true → tot t ≤ d.length →
    impl_segments.l0 k d s l l.length i = some (s ++ segs t d) := by
  intro t
  induction t with
  | nil =>
    intro i k d s hd hk hs hok ht
    obtain ⟨k, rfl⟩ : ∃ m, k = m + 1 := ⟨k - 1, by simp at hk; omega⟩
    rw [impl_segments.l0, if_neg (drop_nil_info hd)]; simp [segs]
  | cons a t ih =>
    intro i k d s hd hk hs hok ht
    obtain ⟨k, rfl⟩ : ∃ m, k = m + 1 := ⟨k - 1, by simp at hk; omega⟩
    obtain ⟨hi, hr, hd'⟩ := drop_cons_info hd
    obtain ⟨h0, h1, hok'⟩ := okb_tail hok
    have := tot_nonneg hok'
    simp only [List.length_cons] at hk
    simp only [tot] at ht
    rw [impl_segments.l0, if_pos (by omega), if_pos (by omega), if_pos (by omega), hr, if_pos h0, if_pos (by omega), if_pos (by omega), w64_i i (by omega), ih (i + 1) k _ _ hd' (by omega) (by simp [hs]) hok' (by simp; omega)]
    simp [segs]
theorem segments_eq (k : Nat) (l d : List Int) (hk : 3000000 ≤ k) (hl : l.length ≤ 400) (hok : okb 400 l = true) (ht : tot l ≤ d.length) : impl_segments.f k l d = some (segs l d) := by
  unfold impl_segments.f
  have := impl_segments_l0 l hl l 0 k d [] (by simp) (by omega) (by simp) hok ht
  simpa using this
theorem l3Cut_l0 (l d : List Int) (hl : l.length ≤ 400) (hd0 : d.length ≤ 1048576) (st : List Int) (hst : st.length = l.length) : ∀ (t u : List Int) (i k : Nat) (c : Int) (s : List (List Int)), l.drop i = t → st.drop i = u → u = startsFrom c t → t.length < k → s.length = i → okb 400 t = true → 0 ≤ c → c + tot t ≤ d.length →
    spec_l3Cut.l0 k l d s st st.length i = some (s ++ segs t (d.drop c.toNat)) := by
  intro t
  induction t with
  | nil =>
    intro u i k c s hd hu huc hk hs hok h0 ht
    obtain ⟨k, rfl⟩ : ∃ m, k = m + 1 := ⟨k - 1, by simp at hk; omega⟩
    have hh := drop_nil_info hd
    rw [spec_l3Cut.l0, if_neg (by omega)]; simp [segs]
  | cons a t ih =>
    intro u i k c s hd hu huc hk hs hok h0 ht
    obtain ⟨k, rfl⟩ : ∃ m, k = m + 1 := ⟨k - 1, by simp at hk; omega⟩
    obtain ⟨hi, hr, hd'⟩ := drop_cons_info hd
    subst huc
    simp only [startsFrom] at hu
    obtain ⟨hi2, hr2, hu'⟩ := drop_cons_info hu
    obtain ⟨ha0, ha1, hok'⟩ := okb_tail hok
    have := tot_nonneg hok'
    simp only [List.length_cons] at hk
    simp only [tot] at ht
    rw [spec_l3Cut.l0, if_pos (by omega), if_pos (by omega), if_pos (by omega), if_pos (by omega), hr, hr2, w64 (x := c + a) (by omega) (by omega), if_pos (by omega), if_pos (by omega), if_pos (by omega), if_pos (by omega), w64_i i (by omega),
      ih _ (i + 1) k (c + a) _ hd' hu' rfl (by omega) (by simp [hs]) hok' (by omega) (by omega)]
    have e1 : (c + a).toNat = c.toNat + a.toNat := by omega
    rw [e1, segs, List.drop_drop, List.append_assoc]
    congr 2
    simp only [List.singleton_append]
    congr 1
    rw [List.drop_take]; congr 1; omega
theorem l3Cut_eq (k : Nat) (l d : List Int) (hk : 3000000 ≤ k) (hl : lenOk l = true) (hd0 : d.length ≤ 1048576) (ht : tot l ≤ d.length) : spec_l3Cut.f k l d = some (segs l d) := by
  obtain ⟨h1, h2, h3⟩ := lenOk_iff.1 hl
  unfold spec_l3Cut.f
  rw [l3Starts_eq k l hk hl]
  simp only [Option.bind_some]
  have := l3Cut_l0 l d h1 hd0 (startsFrom 0 l) (startsFrom_length 0 l) l (startsFrom 0 l) 0 k 0 [] (by simp) (by simp) rfl (by omega) (by simp) h2 (by omega) (by omega)
  simpa using this
def merOk (o i : List Int) : Bool := lenOk o && lenOk i && decide (tot o = i.length)
def merV (o i : List Int) : List Int × Bool := if merOk o i = true then ((segs o i).map tot, true) else ([], false)
theorem merOk_iff {o i : List Int} : merOk o i = true ↔ lenOk o = true ∧ lenOk i = true ∧ tot o = i.length := by simp [merOk, and_assoc]
theorem merV_len (o i : List Int) : (merV o i).1.length ≤ 1048576 := by
  unfold merV; split
  · rename_i h; obtain ⟨h1, h2, h3⟩ := merOk_iff.1 h; have := lenOk_iff.1 h1; simp [segs_length]; omega
  · simp
theorem spec_Merge_l0 (x : List (List Int)) (hx : x.length ≤ 400) (hok : ∀ s ∈ x, okb 400 s = true ∧ s.length ≤ 400) : ∀ (t : List (List Int)) (i k : Nat) (s : List Int), x.drop i = t → t.length + 3000001 < k → s.length = i →
    spec_MergeLengths.l0 k s x x.length i = some (s ++ t.map tot, true) := by
  intro t
  induction t with
  | nil =>
    intro i k s hd hk hs
    obtain ⟨k, rfl⟩ : ∃ m, k = m + 1 := ⟨k - 1, by simp at hk; omega⟩
    rw [spec_MergeLengths.l0, if_neg (drop_nil_info hd)]; simp
  | cons a t ih =>
    intro i k s hd hk hs
    obtain ⟨k, rfl⟩ : ∃ m, k = m + 1 := ⟨k - 1, by simp at hk; omega⟩
    obtain ⟨hi, hr, hd'⟩ := ddrop_cons_info hd
    have ha := hok a (List.mem_of_getElem? hr)
    simp only [List.length_cons] at hk
    rw [spec_MergeLengths.l0, if_pos (by omega), if_pos (by omega), if_pos (by omega), rdLL_of hr, l3Total_eq k a (by omega) (by omega) (okb_le ha.1 (by omega))]
    simp only [Option.bind_some]
    rw [if_pos (by omega), w64_i i (by omega), ih (i + 1) k _ hd' (by omega) (by simp [hs])]
    simp
theorem spec_Merge_eq (k : Nat) (o i : List Int) (hk : 3001000 ≤ k) (ho : o.length ≤ 1048576) (hi : i.length ≤ 1048576) : spec_MergeLengths.f k o i = some (merV o i) := by
  obtain ⟨k, rfl⟩ : ∃ m, k = m + 1 := ⟨k - 1, by omega⟩
  unfold spec_MergeLengths.f
  simp only [Option.bind_some]
  rw [l3Lengths_eq (k + 1) o (by omega) ho]
  simp only [Option.bind_some]
  cases h1 : lenOk o with
  | false => simp [spec_MergeLengths.j0, merV, merOk, h1]
  | true =>
    simp only [if_true]
    rw [l3Lengths_eq (k + 1) i (by omega) hi]
    simp only [Option.bind_some]
    cases h2 : lenOk i with
    | false => simp [spec_MergeLengths.j0, merV, merOk, h2]
    | true =>
      have ho1 := lenOk_iff.1 h1
      have hi1 := lenOk_iff.1 h2
      simp only [if_true]
      rw [l3Total_eq (k + 1) o (by omega) ho (okb_le ho1.2.1 (by omega))]
      simp only [Option.bind_some]
      by_cases h3 : tot o = i.length
      · have e : (tot o != (i.length : Int)) = false := by simp [h3]
        rw [e]
        simp only [spec_MergeLengths.j0, Bool.false_eq_true, if_false]
        rw [l3Cut_eq k o i (by omega) h1 hi (by omega)]
        simp only [Option.bind_some]
        have := spec_Merge_l0 (segs o i) (by rw [segs_length]; omega) (fun s hs => ⟨okb_mem_segs hi1.2.1 hs, by have := mem_segs_len hs; omega⟩) (segs o i) 0 k [] (by simp) (by rw [segs_length]; omega) (by simp)
        simpa [merV, merOk, h1, h2, h3] using this
      · have e : (tot o != (i.length : Int)) = true := by simp [h3]
        rw [e]; simp [spec_MergeLengths.j0, merV, merOk, h3]
theorem impl_Merge_l0 (x : List (List Int)) (hx : x.length ≤ 400) (hok : ∀ s ∈ x, okb 400 s = true ∧ s.length ≤ 400) : ∀ (t : List (List Int)) (i k : Nat) (s : List Int), x.drop i = t → t.length + 3000001 < k → s.length = i →
    impl_MergeLengths.l0 k s x x.length i = some (s ++ t.map tot, true) := by
  intro t
  induction t with
  | nil =>
    intro i k s hd hk hs
    obtain ⟨k, rfl⟩ : ∃ m, k = m + 1 := ⟨k - 1, by simp at hk; omega⟩
    rw [impl_MergeLengths.l0, if_neg (drop_nil_info hd)]; simp
  | cons a t ih =>
    intro i k s hd hk hs
    obtain ⟨k, rfl⟩ : ∃ m, k = m + 1 := ⟨k - 1, by simp at hk; omega⟩
    obtain ⟨hi, hr, hd'⟩ := ddrop_cons_info hd
    have ha := hok a (List.mem_of_getElem? hr)
    simp only [List.length_cons] at hk
    rw [impl_MergeLengths.l0, if_pos (by omega), if_pos (by omega), if_pos (by omega), rdLL_of hr, total_eq k a (by omega) (by omega) (okb_le ha.1 (by omega))]
    simp only [Option.bind_some]
    rw [if_pos (by omega), w64_i i (by omega), ih (i + 1) k _ hd' (by omega) (by simp [hs])]
    simp
theorem impl_Merge_eq (k : Nat) (o i : List Int) (hk : 3001000 ≤ k) (ho : o.length ≤ 1048576) (hi : i.length ≤ 1048576) : impl_MergeLengths.f k o i = some (merV o i) := by
  obtain ⟨k, rfl⟩ : ∃ m, k = m + 1 := ⟨k - 1, by omega⟩
  unfold impl_MergeLengths.f
  rw [lengthsOk_eq (k + 1) o (by omega) ho]
  simp only [Option.bind_some]
  cases h1 : lenOk o with
  | false => simp [impl_MergeLengths.j0, merV, merOk, h1]
  | true =>
    simp only [if_true]
    rw [lengthsOk_eq (k + 1) i (by omega) hi]
    simp only [Option.bind_some]
    cases h2 : lenOk i with
    | false => simp [impl_MergeLengths.j0, merV, merOk, h2]
    | true =>
      have ho1 := lenOk_iff.1 h1
      have hi1 := lenOk_iff.1 h2
      simp only [if_true]
      rw [total_eq (k + 1) o (by omega) ho (okb_le ho1.2.1 (by omega))]
      simp only [Option.bind_some]
      by_cases h3 : tot o = i.length
      · have e : ((i.length : Int) != tot o) = false := by simp [h3]
        rw [e]
        simp only [impl_MergeLengths.j0, Bool.false_eq_true, if_false]
        rw [segments_eq k o i (by omega) ho1.1 ho1.2.1 (by omega)]
        simp only [Option.bind_some]
        have := impl_Merge_l0 (segs o i) (by rw [segs_length]; omega) (fun s hs => ⟨okb_mem_segs hi1.2.1 hs, by have := mem_segs_len hs; omega⟩) (segs o i) 0 k [] (by simp) (by rw [segs_length]; omega) (by simp)
        simpa [merV, merOk, h1, h2, h3] using this
      · have e : ((i.length : Int) != tot o) = true := by simp; omega
        rw [e]; simp [impl_MergeLengths.j0, merV, merOk, h3]
/-- The sum of numbers, of which 10007 is taken away until it is less. -/
def sumM (l : List Int) : Int := tot l % 10007
def sumV (l d : List Int) : List Int × Bool := if segOk l d = true then ((segs l d).map sumM, true) else ([], false)
theorem sumV_len (l d : List Int) : (sumV l d).1.length ≤ 1048576 := by
  unfold sumV; split
  · rename_i h; obtain ⟨h1, h2, h3⟩ := segOk_iff.1 h; have := lenOk_iff.1 h1; simp [segs_length]; omega
  · simp
theorem tmod_nonneg (x : Int) (h : 0 ≤ x) : Int.tmod x 10007 = x % 10007 := by rw [Int.tmod_eq_emod_of_nonneg h]
/-- A sum that is cut down at each step. -/
def sumStep (s : Int) : List Int → Int
  | [] => s
  | a :: t => sumStep ((s + a) % 10007) t
theorem sumStep_eq (s : Int) (l : List Int) (h0 : 0 ≤ s) (h1 : s < 10007) : sumStep s l = (s + tot l) % 10007 := by
  induction l generalizing s with
  | nil => simp only [sumStep, tot]; omega
  | cons a t ih =>
    rw [sumStep, ih _ (by omega) (by omega), tot]; omega
/-- Rounds of a loop over lists. -/
def cstL : List (List Int) → Nat
  | [] => 1
  | y :: t => y.length + 2 + cstL t
theorem cstL_le {x : List (List Int)} (h : ∀ y ∈ x, y.length ≤ 400) : cstL x ≤ 402 * x.length + 1 := by
  induction x with
  | nil => simp [cstL]
  | cons y t ih =>
    have h1 := h y (by simp)
    have h2 := ih (fun z hz => h z (by simp [hz]))
    simp only [cstL, List.length_cons]; omega
theorem l3Add_eq (a b : Int) (h0 : 0 ≤ a) (h1 : a < 10007) (h2 : 0 ≤ b) (h3 : b ≤ 10006) : spec_l3Add.f a b = some ((a + b) % 10007) := by
  unfold spec_l3Add.f
  rw [w64 (by omega) (by omega), tmod_nonneg _ (by omega)]
theorem l3Sums_l1 {i : Nat} (x : List (List Int)) (hx : x.length ≤ 400) (y : List Int) (hy : y.length ≤ 400) (hok : okb 10006 y = true) (s : List Int) (hs : s.length = i) (hi : i < x.length) (R : List Int) (c : Nat)
    (ih : ∀ (k : Nat) (s' : List Int), s'.length = i + 1 → c < k → spec_l3Sums.l0 k s' x x.length ((i + 1 : Nat) : Int) = some (s' ++ R)) :
    ∀ (u : List Int) (j k : Nat) (acc : Int), y.drop j = u → u.length + 1 + c < k → 0 ≤ acc → acc < 10007 →
      spec_l3Sums.l1 k s acc x x.length i y y.length j = some (s ++ (sumStep acc u :: R)) := by
  intro u
  induction u with
  | nil =>
    intro j k acc hd hk h0 h1
    obtain ⟨k, rfl⟩ : ∃ m, k = m + 1 := ⟨k - 1, by omega⟩
    rw [spec_l3Sums.l1, if_neg (drop_nil_info hd), if_pos (by omega), w64_i i (by omega), ih k _ (by simp [hs]) (by simp at hk; omega)]
    simp [sumStep]
  | cons a t ih2 =>
    intro j k acc hd hk h0 h1
    obtain ⟨k, rfl⟩ : ∃ m, k = m + 1 := ⟨k - 1, by omega⟩
    obtain ⟨hj, hr, hd'⟩ := drop_cons_info hd
    have hb := okb_iff.1 hok a (by rw [← hr, rd_nat]; exact getD_mem hj)
    simp only [List.length_cons] at hk
    rw [spec_l3Sums.l1, if_pos (by omega), if_pos (by omega), if_pos (by omega), hr, l3Add_eq acc a h0 h1 hb.1 hb.2]
    simp only [Option.bind_some]
    rw [w64_i j (by omega), ih2 (j + 1) k _ hd' (by omega) (by omega) (by omega)]
    rfl
theorem l3Sums_l0 (x : List (List Int)) (hx : x.length ≤ 400) (hok : ∀ y ∈ x, okb 10006 y = true ∧ y.length ≤ 400) : ∀ (t : List (List Int)) (i k : Nat) (s : List Int), x.drop i = t → cstL t < k → s.length = i →
    spec_l3Sums.l0 k s x x.length i = some (s ++ t.map sumM) := by
  intro t
  induction t with
  | nil =>
    intro i k s hd hk hs
    obtain ⟨k, rfl⟩ : ∃ m, k = m + 1 := ⟨k - 1, by simp only [cstL] at hk; omega⟩
    rw [spec_l3Sums.l0, if_neg (drop_nil_info hd)]; simp
  | cons y t ih =>
    intro i k s hd hk hs
    simp only [cstL] at hk
    obtain ⟨k, rfl⟩ : ∃ m, k = m + 1 := ⟨k - 1, by omega⟩
    obtain ⟨hi, hr, hd'⟩ := ddrop_cons_info hd
    have hy := hok y (List.mem_of_getElem? hr)
    rw [spec_l3Sums.l0, if_pos (by omega), if_pos (by omega), if_pos (by omega), rdLL_of hr]
    have := l3Sums_l1 (i := i) x hx y hy.2 hy.1 s hs hi (t.map sumM) (cstL t) (fun k s' h1 h2 => ih (i + 1) k s' hd' h2 h1) y 0 k 0 (by simp) (by omega) (by omega) (by omega)
    rw [show ((0 : Nat) : Int) = 0 from rfl] at this
    rw [this, sumStep_eq 0 y (by omega) (by omega)]
    simp [sumM]
theorem l3Sums_eq (k : Nat) (l d : List Int) (hk : 3000000 ≤ k) (hs : segOk l d = true) : spec_l3Sums.f k l d = some ((segs l d).map sumM) := by
  obtain ⟨h1, h2, h3⟩ := segOk_iff.1 hs
  have hl := lenOk_iff.1 h1
  have hd := datOk_iff.1 h2
  unfold spec_l3Sums.f
  rw [l3Cut_eq k l d hk h1 (by omega) (by omega)]
  simp only [Option.bind_some]
  have hm : ∀ y ∈ segs l d, okb 10006 y = true ∧ y.length ≤ 400 := fun y hy => ⟨okb_mem_segs hd.2 hy, by have := mem_segs_len hy; omega⟩
  have hc := cstL_le (fun y hy => (hm y hy).2)
  have := l3Sums_l0 (segs l d) (by rw [segs_length]; omega) hm (segs l d) 0 k [] (by simp) (by rw [segs_length] at hc; omega) (by simp)
  simpa using this
theorem spec_Sum_eq (k : Nat) (l d : List Int) (hk : 3000000 ≤ k) (hl : l.length ≤ 1048576) (hd : d.length ≤ 1048576) : spec_SumSegments.f k l d = some (sumV l d) := by
  unfold spec_SumSegments.f
  rw [spec_SegmentsValid_eq k l d hk hl hd]
  simp only [Option.bind_some]
  cases h : segOk l d with
  | false => simp [sumV, h]
  | true => rw [if_pos rfl, l3Sums_eq k l d hk h]; simp [sumV, h]
theorem sum_eq (k : Nat) (l : List Int) (hk : 3000000 ≤ k) (hl : l.length ≤ 1048576) (hok : okb 10006 l = true) : impl_sum.f k l = some (sumM l) := by
  unfold impl_sum.f
  rw [total_eq k l hk hl (okb_le hok (by omega))]
  simp only [Option.bind_some]
  rw [tmod_nonneg _ (tot_nonneg hok)]; rfl
theorem each_Sum_l0 (x : List (List Int)) (hx : x.length ≤ 400) (hok : ∀ y ∈ x, okb 10006 y = true ∧ y.length ≤ 400) : ∀ (t : List (List Int)) (i k : Nat) (s : List Int), x.drop i = t → t.length + 3000001 < k → s.length = i →
    impl_each_at_SumSegments_1.l0 k s x x.length i = some (s ++ t.map sumM, true) := by
  intro t
  induction t with
  | nil =>
    intro i k s hd hk hs
    obtain ⟨k, rfl⟩ : ∃ m, k = m + 1 := ⟨k - 1, by simp at hk; omega⟩
    rw [impl_each_at_SumSegments_1.l0, if_neg (drop_nil_info hd)]; simp
  | cons y t ih =>
    intro i k s hd hk hs
    obtain ⟨k, rfl⟩ : ∃ m, k = m + 1 := ⟨k - 1, by simp at hk; omega⟩
    obtain ⟨hi, hr, hd'⟩ := ddrop_cons_info hd
    have hy := hok y (List.mem_of_getElem? hr)
    simp only [List.length_cons] at hk
    rw [impl_each_at_SumSegments_1.l0, if_pos (by omega), if_pos (by omega), if_pos (by omega), rdLL_of hr]
    unfold impl_SumSegments_1.f
    rw [sum_eq k y (by omega) (by omega) hy.1]
    simp only [Option.bind_some]
    rw [if_pos (by simp; omega), w64_i i (by omega), ih (i + 1) k _ hd' (by omega) (by simp [hs])]
    simp
theorem impl_Sum_eq (k : Nat) (l d : List Int) (hk : 3001000 ≤ k) (hl : l.length ≤ 1048576) (hd : d.length ≤ 1048576) : impl_SumSegments.f k l d = some (sumV l d) := by
  unfold impl_SumSegments.f impl_each_at_SumSegments_1.f
  rw [impl_SegmentsValid_eq k l d (by omega) hl hd]
  simp only [Option.bind_some]
  cases h : segOk l d with
  | false => simp [sumV, h]
  | true =>
    obtain ⟨h1, h2, h3⟩ := segOk_iff.1 h
    have hl1 := lenOk_iff.1 h1
    have hd1 := datOk_iff.1 h2
    rw [if_pos rfl, segments_eq k l d (by omega) hl1.1 hl1.2.1 (by omega)]
    simp only [Option.bind_some]
    have hm : ∀ y ∈ segs l d, okb 10006 y = true ∧ y.length ≤ 400 := fun y hy => ⟨okb_mem_segs hd1.2 hy, by have := mem_segs_len hy; omega⟩
    have := each_Sum_l0 (segs l d) (by rw [segs_length]; omega) hm (segs l d) 0 k [] (by simp) (by rw [segs_length]; omega) (by simp)
    rw [show ((0 : Nat) : Int) = 0 from rfl] at this
    rw [this]; simp [sumV, h]
end Go.Proofs.Ytifnnehjpgodfaa.Print
