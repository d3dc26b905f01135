/-
  Plain lemmas on what the functions compute: lists and numbers alone.
-/
import Derived.Test.YtlakjonnkggomaaDoorPa1
import Derived.Test.YtlakjonnkggomaaDoorPa2
import Derived.Test.YtlakjonnkggomaaDoorPa4
import Derived.Test.YtlakjonnkggomaaDoorPa5
namespace Go.Proofs.YtlakjonnkggomaaDoor.Pa
open Go.RowKit Go.Proofs.YtlakjonnkggomaaDoorW.PrintWords Go.Proofs.YtlakjonnkggomaaDoorW.PrintLast Go.Proofs.YtlakjonnkggomaaDoorW.PrintMore
set_option linter.unusedVariables false
set_option linter.unusedSimpArgs false
theorem w64 {x : Int} (h0 : -9223372036854775808 ≤ x) (h1 : x ≤ 9223372036854775807) : wrap64 x = x := by unfold wrap64; omega
theorem w64_nat {x : Int} (h0 : 0 ≤ x) (h1 : x ≤ 9223372036854775807) : wrap64 x = x := w64 (by omega) h1
theorem w64_i (i : Nat) (h : i ≤ 9223372036854775806) : wrap64 ((i : Int) + 1) = ((i + 1 : Nat) : Int) := by rw [w64 (by omega) (by omega)]; omega
theorem rd_nat (l : List Int) (i : Nat) : rd l (i : Int) = l.getD i 0 := by simp [rd]
theorem drop_cons_info {l : List Int} {i : Nat} {a : Int} {t : List Int} (h : l.drop i = a :: t) : i < l.length ∧ rd l (i : Int) = a ∧ l.drop (i + 1) = t := by
  have hi : i < l.length := by
    rcases Nat.lt_or_ge i l.length with h1 | h1
    · exact h1
    · rw [List.drop_eq_nil_of_le h1] at h; cases h
  rw [List.drop_eq_getElem_cons hi] at h
  injection h with h1 h2
  refine ⟨hi, ?_, h2⟩
  rw [rd_nat, List.getD_eq_getElem?_getD, List.getElem?_eq_getElem hi]
  exact h1
theorem drop_nil_info {α : Type} {l : List α} {i : Nat} (h : l.drop i = []) : ¬ ((i : Int) < (l.length : Int)) := by
  have := List.drop_eq_nil_iff.1 h
  omega
theorem mn_def (a b : Int) : mn a b = if a ≤ b then a else b := by unfold mn; split <;> split <;> omega
theorem getD_mem {l : List Int} {i : Nat} (h : i < l.length) : l.getD i 0 ∈ l := by
  rw [List.getD_eq_getElem?_getD, List.getElem?_eq_getElem h]; exact List.getElem_mem h
theorem rd_mem {l : List Int} {i : Int} (h0 : 0 ≤ i) (h : i < (l.length : Int)) : rd l i ∈ l := by
  obtain ⟨n, rfl⟩ := Int.eq_ofNat_of_zero_le h0
  rw [rd_nat]; exact getD_mem (by omega)
/-- The sum of numbers. -/
def tot : List Int → Int
  | [] => 0
  | a :: t => a + tot t
theorem tot_append (a b : List Int) : tot (a ++ b) = tot a + tot b := by
  induction a with
  | nil => simp [tot]
  | cons x t ih => simp only [List.cons_append, tot, ih]; omega
/-- All numbers lie from 0 to m. -/
def okb (m : Int) (l : List Int) : Bool := l.all fun n => decide (0 ≤ n) && decide (n ≤ m)
theorem okb_iff {m : Int} {l : List Int} : okb m l = true ↔ ∀ n ∈ l, 0 ≤ n ∧ n ≤ m := by
  simp [okb, List.all_eq_true]
theorem okb_nil (m : Int) : okb m [] = true := rfl
theorem okb_cons (m a : Int) (t : List Int) : okb m (a :: t) = (decide (0 ≤ a ∧ a ≤ m) && okb m t) := by
  simp [okb, Bool.decide_and]
theorem tot_nonneg {m : Int} {l : List Int} (h : okb m l = true) : 0 ≤ tot l := by
  rw [okb_iff] at h
  induction l with
  | nil => simp [tot]
  | cons a t ih =>
    have := h a (by simp)
    have := ih (fun n hn => h n (by simp [hn]))
    simp only [tot]; omega
theorem tot_le {m : Int} {l : List Int} (h : okb m l = true) : tot l ≤ m * l.length := by
  rw [okb_iff] at h
  induction l with
  | nil => simp [tot]
  | cons a t ih =>
    have h1 := h a (by simp)
    have h2 := ih (fun n hn => h n (by simp [hn]))
    simp only [tot, List.length_cons]
    have : m * ((t.length + 1 : Nat) : Int) = m * t.length + m := by rw [Int.natCast_add, Int.mul_add]; simp
    omega
theorem okb_drop {m : Int} {l : List Int} (h : okb m l = true) (i : Nat) : okb m (l.drop i) = true := by
  rw [okb_iff] at h ⊢; exact fun n hn => h n (List.mem_of_mem_drop hn)
theorem okb_take {m : Int} {l : List Int} (h : okb m l = true) (i : Nat) : okb m (l.take i) = true := by
  rw [okb_iff] at h ⊢; exact fun n hn => h n (List.mem_of_mem_take hn)
/-- n, n + 1, .. -/
def ramp (n : Int) : Nat → List Int
  | 0 => []
  | k + 1 => n :: ramp (n + 1) k
theorem ramp_length (n : Int) (k : Nat) : (ramp n k).length = k := by
  induction k generalizing n with
  | zero => rfl
  | succ k ih => simp [ramp, ih]
theorem idxOut_neg (m : Int) (l : List Int) (d : Nat) : ∀ i, l.length - i = d → (decide (idxOut m l i < 0) = okb m (l.drop i)) := by
  induction d with
  | zero =>
    intro i hi
    rw [idxOut_end m l i (by omega), List.drop_eq_nil_of_le (by omega)]; rfl
  | succ d ih =>
    intro i hi
    have hlt : i < l.length := by omega
    have hd : l.drop i = rd l i :: l.drop (i + 1) := by
      rw [List.drop_eq_getElem_cons hlt, rd_nat, List.getD_eq_getElem?_getD, List.getElem?_eq_getElem hlt]; rfl
    rw [hd, okb_cons]
    cases ho : outB m (rd l i) with
    | true =>
      rw [idxOut_hit m l i hlt ho]
      rw [outB_def] at ho
      have hne : ¬ (0 ≤ rd l i ∧ rd l i ≤ m) := by
        intro h
        simp [show ¬ rd l (i : Int) < 0 from by omega, show ¬ m < rd l (i : Int) from by omega] at ho
      rw [decide_eq_false hne, Bool.false_and]
      exact decide_eq_false (by omega)
    | false =>
      rw [idxOut_next m l i hlt ho, ih (i + 1) (by omega)]
      rw [outB_def] at ho
      have hy : (0 ≤ rd l i ∧ rd l i ≤ m) := by
        simp at ho; omega
      rw [decide_eq_true hy, Bool.true_and]
theorem within_eq (l : List Int) (m : Int) (hl : l.length ≤ 1048576) : impl_within.f l m = some (okb m l) := by
  unfold impl_within.f
  rw [if_pos (by omega), idxOut_neg m l l.length 0 (by omega), List.drop_zero]
theorem impl_total_l0 (l : List Int) (hl : l.length ≤ 1048576) (hok : okb 1048576 l = true) : ∀ (t : List Int) (i k : Nat) (s : Int), l.drop i = t → t.length < k → 0 ≤ s → s ≤ 1048576 * i →
    impl_total.l0 k s l l.length i = some (s + tot t) := by
  intro t
  induction t with
  | nil =>
    intro i k s hd hk hs hs2
    obtain ⟨k, rfl⟩ : ∃ m, k = m + 1 := ⟨k - 1, by simp at hk; omega⟩
    rw [impl_total.l0, if_neg (drop_nil_info hd)]; simp [tot]
  | cons a t ih =>
    intro i k s hd hk hs hs2
    obtain ⟨k, rfl⟩ : ∃ m, k = m + 1 := ⟨k - 1, by simp at hk; omega⟩
    obtain ⟨hi, hr, hd'⟩ := drop_cons_info hd
    have hb := okb_iff.1 hok a (by rw [← hr, rd_nat]; exact getD_mem hi)
    simp only [List.length_cons] at hk
    rw [impl_total.l0, if_pos (by omega), if_pos (by omega), if_pos (by omega), hr, w64 (by omega) (by omega), w64_i i (by omega), ih (i + 1) k (s + a) hd' (by omega) (by omega) (by omega)]
    simp only [tot]; congr 1; omega
theorem total_eq (k : Nat) (l : List Int) (hk : 3000000 ≤ k) (hl : l.length ≤ 1048576) (hok : okb 1048576 l = true) : impl_total.f k l = some (tot l) := by
  unfold impl_total.f
  have := impl_total_l0 l hl hok l 0 k 0 (by simp) (by omega) (by omega) (by omega)
  simpa using this
theorem eqIntS_l0 (a b : List Int) (hl : a.length ≤ 1048576) (hab : a.length = b.length) : ∀ (t u : List Int) (i k : Nat), a.drop i = t → b.drop i = u → t.length < k →
    laws_eqIntS.l0 k a b i = some (decide (t = u)) := by
  intro t
  induction t with
  | nil =>
    intro u i k hd hu hk
    obtain ⟨k, rfl⟩ : ∃ m, k = m + 1 := ⟨k - 1, by simp at hk; omega⟩
    have : u = [] := by rw [← hu]; exact List.drop_eq_nil_of_le (by have := List.drop_eq_nil_iff.1 hd; omega)
    rw [laws_eqIntS.l0, if_neg (drop_nil_info hd), this]; simp
  | cons x t ih =>
    intro u i k hd hu hk
    obtain ⟨k, rfl⟩ : ∃ m, k = m + 1 := ⟨k - 1, by simp at hk; omega⟩
    obtain ⟨hi', hr, hd'⟩ := drop_cons_info hd
    simp only [List.length_cons] at hk
    cases u with
    | nil => have := List.drop_eq_nil_iff.1 hu; omega
    | cons y u =>
      obtain ⟨hj', hr2, hu'⟩ := drop_cons_info hu
      rw [laws_eqIntS.l0, if_pos (by omega), if_pos (by omega), if_pos (by omega), hr, hr2, w64_i i (by omega)]
      by_cases hxy : x = y
      · rw [if_pos hxy, ih u (i + 1) k hd' hu' (by omega)]; simp [hxy]
      · rw [if_neg hxy]; simp [hxy]
theorem eqIntS_eq (k : Nat) (a b : List Int) (hk : 3000000 ≤ k) (hl : a.length ≤ 1048576) : laws_eqIntS.f k a b = some (decide (a = b)) := by
  unfold laws_eqIntS.f
  by_cases h : a.length = b.length
  · rw [if_pos (by omega)]
    have := eqIntS_l0 a b hl h a b 0 k (by simp) (by simp) (by omega)
    simpa using this
  · rw [if_neg (by omega)]
    have : a ≠ b := fun e => h (by rw [e])
    simp [this]
theorem heldIntS_l0 (l : List Int) (hl : l.length ≤ 1048576) : ∀ (d i k : Nat) (m : Int), l.drop i = ramp m d → d < k → 0 ≤ m → m + d ≤ 1152921504606846976 →
    laws_heldIntS.l0 k l m i = some (m + d) := by
  intro d
  induction d with
  | zero =>
    intro i k m hd hk h0 h1
    obtain ⟨k, rfl⟩ : ∃ m, k = m + 1 := ⟨k - 1, by omega⟩
    rw [laws_heldIntS.l0, if_neg (drop_nil_info hd)]; simp
  | succ d ih =>
    intro i k m hd hk h0 h1
    obtain ⟨k, rfl⟩ : ∃ m, k = m + 1 := ⟨k - 1, by omega⟩
    obtain ⟨hi', hr, hd'⟩ := drop_cons_info hd
    rw [laws_heldIntS.l0, if_pos (by omega), if_pos (by omega), if_pos hr, w64_i i (by omega), w64 (by omega) (by omega), ih (i + 1) k (m + 1) hd' (by omega) (by omega) (by omega)]
    congr 1; omega
theorem heldIntS_eq (k : Nat) (n : Nat) (m : Int) (hk : 3000000 ≤ k) (hn : n ≤ 1048576) (h0 : 0 ≤ m) (h1 : m ≤ 4611686018427387) : laws_heldIntS.f k (ramp m n) m = some (m + n) := by
  unfold laws_heldIntS.f
  exact heldIntS_l0 (ramp m n) (by rw [ramp_length]; exact hn) n 0 k m (by simp) (by omega) h0 (by omega)
theorem l1In_eq (a b c : Int) : spec_l1In.f a b c = some (decide (b ≤ a ∧ a ≤ c)) := by
  unfold spec_l1In.f
  by_cases h : b ≤ a
  · rw [if_pos h]; simp [h]
  · rw [if_neg h]; simp [h]
/-- Numbers are lengths. -/
def lenOk (l : List Int) : Bool := decide (l.length ≤ 400) && okb 400 l && decide (tot l ≤ 400)
theorem lenOk_iff {l : List Int} : lenOk l = true ↔ l.length ≤ 400 ∧ okb 400 l = true ∧ tot l ≤ 400 := by simp [lenOk, and_assoc]
/-- Numbers are data. -/
def datOk (l : List Int) : Bool := decide (l.length ≤ 400) && okb 10006 l
theorem datOk_iff {l : List Int} : datOk l = true ↔ l.length ≤ 400 ∧ okb 10006 l = true := by simp [datOk]
theorem okb_le {m m' : Int} {l : List Int} (h : okb m l = true) (hm : m ≤ m') : okb m' l = true := by
  rw [okb_iff] at h ⊢; exact fun n hn => by have := h n hn; omega
def segOk (l d : List Int) : Bool := lenOk l && datOk d && decide (tot l = d.length)
theorem segOk_iff {l d : List Int} : segOk l d = true ↔ lenOk l = true ∧ datOk d = true ∧ tot l = d.length := by simp [segOk, and_assoc]
/-- The segments of data. -/
def segs : List Int → List Int → List (List Int)
  | [], _ => []
  | a :: t, d => d.take a.toNat :: segs t (d.drop a.toNat)
theorem segs_length (l d : List Int) : (segs l d).length = l.length := by
  induction l generalizing d with
  | nil => rfl
  | cons a t ih => simp [segs, ih]
theorem ddrop_cons_info {α : Type} {l : List α} {i : Nat} {a : α} {t : List α} (h : l.drop i = a :: t) : i < l.length ∧ l[i]? = some a ∧ l.drop (i + 1) = t := by
  have hi : i < l.length := by
    rcases Nat.lt_or_ge i l.length with h1 | h1
    · exact h1
    · rw [List.drop_eq_nil_of_le h1] at h; cases h
  rw [List.drop_eq_getElem_cons hi] at h
  injection h with h1 h2
  exact ⟨hi, by rw [List.getElem?_eq_getElem hi, h1], h2⟩
theorem okb_mem_segs {m : Int} {l d s : List Int} (h : okb m d = true) (hs : s ∈ segs l d) : okb m s = true := by
  induction l generalizing d with
  | nil => cases hs
  | cons a t ih =>
    simp only [segs, List.mem_cons] at hs
    rcases hs with rfl | hs
    · exact okb_take h _
    · exact ih (okb_drop h _) hs
theorem mem_segs_len {l d s : List Int} (hs : s ∈ segs l d) : s.length ≤ d.length := by
  induction l generalizing d with
  | nil => cases hs
  | cons a t ih =>
    simp only [segs, List.mem_cons] at hs
    rcases hs with rfl | hs
    · simp; omega
    · have := ih hs; simp at this; omega
theorem okb_tail {m a : Int} {t : List Int} (h : okb m (a :: t) = true) : 0 ≤ a ∧ a ≤ m ∧ okb m t = true := by
  rw [okb_cons] at h; simp at h; exact ⟨h.1.1, h.1.2, h.2⟩
theorem rdRow_of {l : List (List Int)} {i : Nat} {a : List Int} (h : l[i]? = some a) : rd_L1 l (i : Int) = a := by
  unfold rd_L1; rw [Int.toNat_natCast, List.getD_eq_getElem?_getD, h]; rfl
theorem eqIntSS_l0 (l : List (List Int)) (hl : l.length ≤ 1048576) (hr : ∀ r ∈ l, r.length ≤ 1048576) : ∀ (t : List (List Int)) (i k : Nat), l.drop i = t → t.length + 3000000 < k →
    laws_eqIntSS.l0 k l l i = some true := by
  intro t
  induction t with
  | nil =>
    intro i k hd hk
    obtain ⟨k, rfl⟩ : ∃ m, k = m + 1 := ⟨k - 1, by omega⟩
    rw [laws_eqIntSS.l0, if_neg (drop_nil_info hd)]
  | cons x t ih =>
    intro i k hd hk
    obtain ⟨k, rfl⟩ : ∃ m, k = m + 1 := ⟨k - 1, by omega⟩
    obtain ⟨hi', ha, hd'⟩ := ddrop_cons_info hd
    simp only [List.length_cons] at hk
    rw [laws_eqIntSS.l0, if_pos (by omega), if_pos (by omega), if_pos (by omega), eqIntS_eq k _ _ (by omega) (by rw [rdRow_of ha]; exact hr x (List.mem_of_getElem? ha))]
    simp only [Option.bind_some, decide_true, if_true]
    rw [w64_i i (by omega)]
    exact ih (i + 1) k hd' (by omega)
theorem eqLayout_eq (k : Nat) (l : List (List Int)) (d : List Int) (hk : 4100000 ≤ k) (hl : l.length ≤ 1048576) (hr : ∀ r ∈ l, r.length ≤ 1048576) (hd : d.length ≤ 1048576) : laws_eqLayout.f k l d l d = some true := by
  unfold laws_eqLayout.f laws_eqIntSS.f
  have := eqIntSS_l0 l hl hr l 0 k (by simp) (by omega)
  rw [show ((0 : Nat) : Int) = 0 from rfl] at this
  rw [if_pos rfl, this, Option.bind_some, if_pos rfl, eqIntS_eq k d d (by omega) hd, Option.bind_some, if_pos (by simp)]
/-- Where a layout is wrong: at a level, or behind the last one; -1 if nowhere. -/
def wrongGo (n : Int) (d : List Int) : Int → Int → List (List Int) → Int
  | i, e, [] => if (d.length : Int) = e ∧ okb 10006 d = true then -1 else n
  | i, e, r :: t => if i < 3 ∧ (r.length : Int) = e ∧ okb 400 r = true then wrongGo n d (i + 1) (tot r) t else i
def wrongV (l : List (List Int)) (d : List Int) : Int := wrongGo l.length d 0 1 l
theorem l2Sum_l0 (l : List Int) (hl : l.length ≤ 1048576) : ∀ (t : List Int) (i k : Nat) (s : Int), l.drop i = t → t.length < k → 0 ≤ s → s ≤ 400 * i →
    spec_l2Sum.l0 k s l l.length i = some (if okb 400 t = true then s + tot t else -1) := by
  intro t
  induction t with
  | nil =>
    intro i k s hd hk h0 h1
    obtain ⟨k, rfl⟩ : ∃ m, k = m + 1 := ⟨k - 1, by simp at hk; omega⟩
    rw [spec_l2Sum.l0, if_neg (drop_nil_info hd)]; simp [tot, okb_nil]
  | cons a t ih =>
    intro i k s hd hk h0 h1
    obtain ⟨k, rfl⟩ : ∃ m, k = m + 1 := ⟨k - 1, by simp at hk; omega⟩
    obtain ⟨hi, hr, hd'⟩ := drop_cons_info hd
    simp only [List.length_cons] at hk
    rw [spec_l2Sum.l0, if_pos (by omega), if_pos (by omega), if_pos (by omega), hr, l1In_eq, Option.bind_some]
    by_cases h : 0 ≤ a ∧ a ≤ 400
    · rw [if_pos (by simp [h]), w64 (x := s + a) (by omega) (by omega), w64_i i (by omega), ih (i + 1) k (s + a) hd' (by omega) (by omega) (by omega)]
      simp only [okb_cons, h, tot]
      simp only [and_self, decide_true, Bool.true_and]
      congr 1
      split <;> omega
    · rw [if_neg (by simpa using h)]
      simp [okb_cons, h]
theorem l2Sum_eq (k : Nat) (l : List Int) (hk : 3000000 ≤ k) (hl : l.length ≤ 1048576) : spec_l2Sum.f k l = some (if okb 400 l = true then tot l else -1) := by
  unfold spec_l2Sum.f
  have := l2Sum_l0 l hl l 0 k 0 (by simp) (by omega) (by omega) (by omega)
  rw [show ((0 : Nat) : Int) = 0 from rfl] at this
  rw [this]; simp
theorem spec_Wrong_l1 (l : List (List Int)) (d : List Int) (hd0 : d.length ≤ 1048576) : ∀ (t : List Int) (i k : Nat), d.drop i = t → t.length < k →
    spec_WhatIsWrong.l1 k d d.length i l d = some (if okb 10006 t = true then -1 else (l.length : Int)) := by
  intro t
  induction t with
  | nil =>
    intro i k hd hk
    obtain ⟨k, rfl⟩ : ∃ m, k = m + 1 := ⟨k - 1, by omega⟩
    rw [spec_WhatIsWrong.l1, if_neg (drop_nil_info hd)]; simp [okb_nil]
  | cons a t ih =>
    intro i k hd hk
    obtain ⟨k, rfl⟩ : ∃ m, k = m + 1 := ⟨k - 1, by omega⟩
    obtain ⟨hi, hr, hd'⟩ := drop_cons_info hd
    simp only [List.length_cons] at hk
    rw [spec_WhatIsWrong.l1, if_pos (by omega), if_pos (by omega), if_pos (by omega), hr, l1In_eq, Option.bind_some]
    by_cases h : 0 ≤ a ∧ a ≤ 10006
    · rw [if_pos (by simp [h]), w64_i i (by omega), ih (i + 1) k hd' (by omega)]
      simp [okb_cons, h]
    · rw [if_neg (by simpa using h)]
      simp [okb_cons, h]
theorem spec_Wrong_l0 (l : List (List Int)) (d : List Int) (hl : l.length ≤ 1048576) (hr : ∀ r ∈ l, r.length ≤ 1048576) (hd0 : d.length ≤ 1048576) : ∀ (t : List (List Int)) (i k : Nat) (e : Int), l.drop i = t → t.length + 3000000 < k →
    spec_WhatIsWrong.l0 k e l l.length i l d = some (wrongGo l.length d i e t) := by
  intro t
  induction t with
  | nil =>
    intro i k e hd hk
    obtain ⟨k, rfl⟩ : ∃ m, k = m + 1 := ⟨k - 1, by omega⟩
    rw [spec_WhatIsWrong.l0, if_neg (drop_nil_info hd)]
    have := spec_Wrong_l1 l d hd0 d 0 k (by simp) (by simp at hk; omega)
    rw [show ((0 : Nat) : Int) = 0 from rfl] at this
    rw [this, wrongGo]
    by_cases h : (d.length : Int) = e
    · rw [if_pos h]; simp [h]
    · rw [if_neg h]; simp [h]
  | cons r t ih =>
    intro i k e hd hk
    obtain ⟨k, rfl⟩ : ∃ m, k = m + 1 := ⟨k - 1, by omega⟩
    obtain ⟨hi, ha, hd'⟩ := ddrop_cons_info hd
    have hrl := hr r (List.mem_of_getElem? ha)
    simp only [List.length_cons] at hk
    rw [spec_WhatIsWrong.l0, if_pos (by omega), if_pos (by omega), if_pos (by omega), rdRow_of ha, l2Sum_eq k r (by omega) hrl, wrongGo]
    simp only [Option.bind_some]
    by_cases h1 : (r.length : Int) = e
    case neg => rw [if_neg h1, if_neg (by simp [h1])]
    rw [if_pos h1]
    by_cases h2 : okb 400 r = true
    case neg => rw [if_neg h2, if_pos (by omega), if_neg (by simp [h2])]
    have htn := tot_nonneg h2
    rw [if_pos h2, if_neg (by omega)]
    by_cases h3 : (i : Int) < 3
    case neg => rw [if_pos (by omega), if_neg (by simp; omega)]
    rw [if_neg (by omega), if_pos ⟨h3, h1, h2⟩, w64_i i (by omega), ih (i + 1) k (tot r) hd' (by omega)]
    rfl
theorem spec_Wrong_eq (k : Nat) (l : List (List Int)) (d : List Int) (hk : 4100000 ≤ k) (hl : l.length ≤ 1048576) (hr : ∀ r ∈ l, r.length ≤ 1048576) (hd0 : d.length ≤ 1048576) : spec_WhatIsWrong.f k l d = some (wrongV l d) := by
  unfold spec_WhatIsWrong.f
  have := spec_Wrong_l0 l d hl hr hd0 l 0 k 1 (by simp) (by omega)
  simpa [wrongV] using this
theorem impl_Wrong_l0 (l : List (List Int)) (d : List Int) (hl : l.length ≤ 1048576) (hr : ∀ r ∈ l, r.length ≤ 1048576) (hd0 : d.length ≤ 1048576) : ∀ (t : List (List Int)) (i k : Nat) (e : Int), i ≤ 3 → l.drop i = t → t.length + 3000000 < k →
    impl_wrong.l0 k e l l.length i l d = some (wrongGo l.length d i e t) := by
  intro t
  induction t with
  | nil =>
    intro i k e hi3 hd hk
    obtain ⟨k, rfl⟩ : ∃ m, k = m + 1 := ⟨k - 1, by omega⟩
    rw [impl_wrong.l0, if_neg (drop_nil_info hd), within_eq d _ hd0, Option.bind_some, wrongGo]
    by_cases h : (d.length : Int) = e
    · rw [if_pos h]
      by_cases h2 : okb 10006 d = true
      · rw [if_pos h2, if_pos ⟨h, h2⟩]
      · rw [if_neg h2, if_neg (by simp [h2])]
    · rw [if_neg h, if_neg (by simp [h])]
  | cons r t ih =>
    intro i k e hi3 hd hk
    obtain ⟨k, rfl⟩ : ∃ m, k = m + 1 := ⟨k - 1, by omega⟩
    obtain ⟨hi, ha, hd'⟩ := ddrop_cons_info hd
    have hrl := hr r (List.mem_of_getElem? ha)
    simp only [List.length_cons] at hk
    rw [impl_wrong.l0, if_pos (by omega), if_pos (by omega), if_pos (by omega), rdRow_of ha, wrongGo]
    by_cases h3 : (i : Int) = 3
    case pos => rw [if_pos h3, if_neg (by omega)]
    rw [if_neg h3]
    by_cases h1 : (r.length : Int) = e
    case neg => rw [if_neg h1, if_neg (by simp [h1])]
    rw [if_pos h1, within_eq r _ hrl, Option.bind_some]
    by_cases h2 : okb 400 r = true
    case neg => rw [if_neg h2, if_neg (by simp [h2])]
    rw [if_pos h2, total_eq k r (by omega) hrl (okb_le h2 (by omega)), Option.bind_some, if_pos ⟨by omega, h1, h2⟩, w64_i i (by omega), ih (i + 1) k (tot r) (by omega) hd' (by omega)]
    rfl
theorem impl_wrong_eq (k : Nat) (l : List (List Int)) (d : List Int) (hk : 4100000 ≤ k) (hl : l.length ≤ 1048576) (hr : ∀ r ∈ l, r.length ≤ 1048576) (hd0 : d.length ≤ 1048576) : impl_wrong.f k l d 1 = some (wrongV l d) := by
  unfold impl_wrong.f
  have := impl_Wrong_l0 l d hl hr hd0 l 0 k 1 (by omega) (by simp) (by omega)
  simpa [wrongV] using this
theorem impl_Valid_eq (k : Nat) (l : List (List Int)) (d : List Int) (hk : 4100000 ≤ k) (hl : l.length ≤ 1048576) (hr : ∀ r ∈ l, r.length ≤ 1048576) (hd0 : d.length ≤ 1048576) : impl_LayoutValid.f k l d = some (decide (wrongV l d < 0)) := by
  unfold impl_LayoutValid.f
  rw [impl_wrong_eq k l d hk hl hr hd0, Option.bind_some]
theorem spec_Valid_eq (k : Nat) (l : List (List Int)) (d : List Int) (hk : 4100000 ≤ k) (hl : l.length ≤ 1048576) (hr : ∀ r ∈ l, r.length ≤ 1048576) (hd0 : d.length ≤ 1048576) : spec_LayoutValid.f k l d = some (decide (wrongV l d < 0)) := by
  unfold spec_LayoutValid.f
  rw [spec_Wrong_eq k l d hk hl hr hd0, Option.bind_some]
/-- The place of indices in a layout, from a level on. -/
def placeGo : Int → List (List Int) → List Int → Int
  | pos, _, [] => pos
  | pos, r :: t, a :: u => if 0 ≤ a ∧ a < rd r pos then placeGo (tot (r.take pos.toNat) + a) t u else -1
  | _, [], _ :: _ => -1
def placeV (l : List (List Int)) (d u : List Int) : Int := if wrongV l d < 0 ∧ u.length = l.length then placeGo 0 l u else -1
theorem wrongGo_cases (n : Int) (d : List Int) (hn : 0 ≤ n) : ∀ (t : List (List Int)) (i e : Int), 0 ≤ i → wrongGo n d i e t < 0 → wrongGo n d i e t = -1 := by
  intro t
  induction t with
  | nil => intro i e hi h; unfold wrongGo at h ⊢; split at h <;> simp_all; omega
  | cons r t ih =>
    intro i e hi h
    unfold wrongGo at h ⊢
    split at h
    · rename_i hc; rw [if_pos hc]; exact ih _ _ (by omega) h
    · omega
theorem wrongGo_step {n i e : Int} {d r : List Int} {t : List (List Int)} (hi : 0 ≤ i) (h : wrongGo n d i e (r :: t) = -1) : (r.length : Int) = e ∧ okb 400 r = true ∧ wrongGo n d (i + 1) (tot r) t = -1 := by
  unfold wrongGo at h
  split at h
  · rename_i hc; exact ⟨hc.2.1, hc.2.2, h⟩
  · omega
theorem tot_take_rd {r : List Int} {p : Int} (hok : okb 400 r = true) (h0 : 0 ≤ p) (h1 : p < (r.length : Int)) : 0 ≤ tot (r.take p.toNat) ∧ tot (r.take p.toNat) + rd r p ≤ tot r ∧ 0 ≤ rd r p := by
  obtain ⟨q, rfl⟩ := Int.eq_ofNat_of_zero_le h0
  have hq : q < r.length := by omega
  have e1 : r = r.take q ++ (r.drop q) := (List.take_append_drop q r).symm
  have e2 : r.drop q = rd r (q : Int) :: r.drop (q + 1) := by
    rw [List.drop_eq_getElem_cons hq, rd_nat, List.getD_eq_getElem?_getD, List.getElem?_eq_getElem hq]; rfl
  have e3 : tot r = tot (r.take q) + (rd r (q : Int) + tot (r.drop (q + 1))) := by
    have h2 : tot (r.take q ++ r.drop q) = tot (r.take q) + tot (r.drop q) := tot_append _ _
    rw [List.take_append_drop] at h2
    rw [h2, e2, tot]
  have a1 := tot_nonneg (okb_take hok q)
  have a2 := tot_nonneg (okb_drop hok (q + 1))
  have a3 := okb_iff.1 hok _ (rd_mem (l := r) (i := (q : Int)) (by omega) h1)
  simp only [Int.toNat_natCast]
  omega
end Go.Proofs.YtlakjonnkggomaaDoor.Pa
