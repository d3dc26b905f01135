/-
  Plain lemmas on what the functions compute: lists and numbers alone.
-/
import Derived.Test.YtnehpbkjmmadkaaPw1
import Derived.Test.YtnehpbkjmmadkaaPw2
import Derived.Test.YtnehpbkjmmadkaaPw3
import Derived.Test.YtnehpbkjmmadkaaPw4
import Derived.Test.YtnehpbkjmmadkaaPw5
import Derived.Test.YtnehpbkjmmadkaaPw6
import Derived.Test.YtnehpbkjmmadkaaPw7
namespace Go.Proofs.Ytnehpbkjmmadkaa.Pw
open Go.RowKit Go.Proofs.YtnehpbkjmmadkaaW.PrintWords Go.Proofs.YtnehpbkjmmadkaaW.PrintLast Go.Proofs.YtnehpbkjmmadkaaW.PrintMore
set_option linter.unusedVariables false
set_option linter.unusedSimpArgs false
theorem w64 {x : Int} (h0 : -9223372036854775808 ≤ x) (h1 : x ≤ 9223372036854775807) : wrap64 x = x := by unfold wrap64; omega
theorem w64_nat {x : Int} (h0 : 0 ≤ x) (h1 : x ≤ 9223372036854775807) : wrap64 x = x := w64 (by omega) h1
theorem w64_i (i : Nat) (h : i ≤ 9223372036854775806) : wrap64 ((i : Int) + 1) = ((i + 1 : Nat) : Int) := by rw [w64 (by omega) (by omega)]; omega
theorem rd_nat (l : List Int) (i : Nat) : rd l (i : Int) = l.getD i 0 := by simp [rd]
theorem drop_cons_info {l : List Int} {i : Nat} {a : Int} {t : List Int} (h : l.drop i = a :: t) : i < l.length ∧ rd l (i : Int) = a ∧ l.drop (i + 1) = t := by
  have hi : i < l.length := by
    rcases Nat.lt_or_ge i l.length with h1 | h1
    · exact h1
    · rw [List.drop_eq_nil_of_le h1] at h; cases h
  rw [List.drop_eq_getElem_cons hi] at h
  injection h with h1 h2
  refine ⟨hi, ?_, h2⟩
  rw [rd_nat, List.getD_eq_getElem?_getD, List.getElem?_eq_getElem hi]
  exact h1
theorem drop_nil_info {α : Type} {l : List α} {i : Nat} (h : l.drop i = []) : ¬ ((i : Int) < (l.length : Int)) := by
  have := List.drop_eq_nil_iff.1 h
  omega
theorem mn_def (a b : Int) : mn a b = if a ≤ b then a else b := by unfold mn; split <;> split <;> omega
theorem getD_mem {l : List Int} {i : Nat} (h : i < l.length) : l.getD i 0 ∈ l := by
  rw [List.getD_eq_getElem?_getD, List.getElem?_eq_getElem h]; exact List.getElem_mem h
theorem rd_mem {l : List Int} {i : Int} (h0 : 0 ≤ i) (h : i < (l.length : Int)) : rd l i ∈ l := by
  obtain ⟨n, rfl⟩ := Int.eq_ofNat_of_zero_le h0
  rw [rd_nat]; exact getD_mem (by omega)
/-- The sum of numbers. -/
def tot : List Int → Int
  | [] => 0
  | a :: t => a + tot t
theorem tot_append (a b : List Int) : tot (a ++ b) = tot a + tot b := by
  induction a with
  | nil => simp [tot]
  | cons x t ih => simp only [List.cons_append, tot, ih]; omega
/-- All numbers lie from 0 to m. -/
def okb (m : Int) (l : List Int) : Bool := l.all fun n => decide (0 ≤ n) && decide (n ≤ m)
theorem okb_iff {m : Int} {l : List Int} : okb m l = true ↔ ∀ n ∈ l, 0 ≤ n ∧ n ≤ m := by
  simp [okb, List.all_eq_true]
theorem okb_nil (m : Int) : okb m [] = true := rfl
theorem okb_cons (m a : Int) (t : List Int) : okb m (a :: t) = (decide (0 ≤ a ∧ a ≤ m) && okb m t) := by
  simp [okb, Bool.decide_and]
theorem tot_nonneg {m : Int} {l : List Int} (h : okb m l = true) : 0 ≤ tot l := by
  rw [okb_iff] at h
  induction l with
  | nil => simp [tot]
  | cons a t ih =>
    have := h a (by simp)
    have := ih (fun n hn => h n (by simp [hn]))
    simp only [tot]; omega
theorem tot_le {m : Int} {l : List Int} (h : okb m l = true) : tot l ≤ m * l.length := by
  rw [okb_iff] at h
  induction l with
  | nil => simp [tot]
  | cons a t ih =>
    have h1 := h a (by simp)
    have h2 := ih (fun n hn => h n (by simp [hn]))
    simp only [tot, List.length_cons]
    have : m * ((t.length + 1 : Nat) : Int) = m * t.length + m := by rw [Int.natCast_add, Int.mul_add]; simp
    omega
theorem okb_drop {m : Int} {l : List Int} (h : okb m l = true) (i : Nat) : okb m (l.drop i) = true := by
  rw [okb_iff] at h ⊢; exact fun n hn => h n (List.mem_of_mem_drop hn)
theorem okb_take {m : Int} {l : List Int} (h : okb m l = true) (i : Nat) : okb m (l.take i) = true := by
  rw [okb_iff] at h ⊢; exact fun n hn => h n (List.mem_of_mem_take hn)
/-- n, n + 1, .. -/
def ramp (n : Int) : Nat → List Int
  | 0 => []
  | k + 1 => n :: ramp (n + 1) k
theorem ramp_length (n : Int) (k : Nat) : (ramp n k).length = k := by
  induction k generalizing n with
  | zero => rfl
  | succ k ih => simp [ramp, ih]
theorem idxOut_neg (m : Int) (l : List Int) (d : Nat) : ∀ i, l.length - i = d → (decide (idxOut m l i < 0) = okb m (l.drop i)) := by
  induction d with
  | zero =>
    intro i hi
    rw [idxOut_end m l i (by omega), List.drop_eq_nil_of_le (by omega)]; rfl
  | succ d ih =>
    intro i hi
    have hlt : i < l.length := by omega
    have hd : l.drop i = rd l i :: l.drop (i + 1) := by
      rw [List.drop_eq_getElem_cons hlt, rd_nat, List.getD_eq_getElem?_getD, List.getElem?_eq_getElem hlt]; rfl
    rw [hd, okb_cons]
    cases ho : outB m (rd l i) with
    | true =>
      rw [idxOut_hit m l i hlt ho]
      rw [outB_def] at ho
      have hne : ¬ (0 ≤ rd l i ∧ rd l i ≤ m) := by
        intro h
        simp [show ¬ rd l (i : Int) < 0 from by omega, show ¬ m < rd l (i : Int) from by omega] at ho
      rw [decide_eq_false hne, Bool.false_and]
      exact decide_eq_false (by omega)
    | false =>
      rw [idxOut_next m l i hlt ho, ih (i + 1) (by omega)]
      rw [outB_def] at ho
      have hy : (0 ≤ rd l i ∧ rd l i ≤ m) := by
        simp at ho; omega
      rw [decide_eq_true hy, Bool.true_and]
theorem within_eq (l : List Int) (m : Int) (hl : l.length ≤ 1048576) : impl_within.f l m = some (okb m l) := by
  unfold impl_within.f
  rw [if_pos (by omega), idxOut_neg m l l.length 0 (by omega), List.drop_zero]
theorem impl_total_l0 (l : List Int) (hl : l.length ≤ 1048576) (hok : okb 1048576 l = true) : ∀ (t : List Int) (i k : Nat) (s : Int), l.drop i = t → t.length < k → 0 ≤ s → s ≤ 1048576 * i →
    impl_total.l0 k s l l.length i = some (s + tot t) := by
  intro t
  induction t with
  | nil =>
    intro i k s hd hk hs hs2
    obtain ⟨k, rfl⟩ : ∃ m, k = m + 1 := ⟨k - 1, by simp at hk; omega⟩
    rw [impl_total.l0, if_neg (drop_nil_info hd)]; simp [tot]
  | cons a t ih =>
    intro i k s hd hk hs hs2
    obtain ⟨k, rfl⟩ : ∃ m, k = m + 1 := ⟨k - 1, by simp at hk; omega⟩
    obtain ⟨hi, hr, hd'⟩ := drop_cons_info hd
    have hb := okb_iff.1 hok a (by rw [← hr, rd_nat]; exact getD_mem hi)
    simp only [List.length_cons] at hk
    rw [impl_total.l0, if_pos (by omega), if_pos (by omega), if_pos (by omega), hr, w64 (by omega) (by omega), w64_i i (by omega), ih (i + 1) k (s + a) hd' (by omega) (by omega) (by omega)]
    simp only [tot]; congr 1; omega
theorem total_eq (k : Nat) (l : List Int) (hk : 3000000 ≤ k) (hl : l.length ≤ 1048576) (hok : okb 1048576 l = true) : impl_total.f k l = some (tot l) := by
  unfold impl_total.f
  have := impl_total_l0 l hl hok l 0 k 0 (by simp) (by omega) (by omega) (by omega)
  simpa using this
/-- Only what is bound is looked into, not what follows. -/
theorem obind_congr {α β : Type} {a b : Option α} {f : α → Option β} (h : a = b) : a.bind f = b.bind f := by rw [h]
theorem faSame_l0 (a b : List Int) (hl : a.length ≤ 1048576) (n : Int) (hn : n = if a.length ≤ b.length then (a.length : Int) else b.length) : ∀ (t u : List Int) (i k : Nat), a.drop i = t → b.drop i = u → t.length < k → i ≤ b.length → i ≤ a.length →
    laws_faSame.l0 k a b n i = some (decide (t = u)) := by
  intro t
  induction t with
  | nil =>
    intro u i k hd hu hk hib hia
    obtain ⟨k, rfl⟩ : ∃ m, k = m + 1 := ⟨k - 1, by simp at hk; omega⟩
    have ha := List.drop_eq_nil_iff.1 hd
    have hul : u.length = b.length - i := by rw [← hu]; simp
    rw [laws_faSame.l0, if_neg (by split at hn <;> omega)]
    congr 1
    cases u with
    | nil => simp at hul; simp; omega
    | cons y u => simp at hul; simp; omega
  | cons x t ih =>
    intro u i k hd hu hk hib hia
    obtain ⟨k, rfl⟩ : ∃ m, k = m + 1 := ⟨k - 1, by simp at hk; omega⟩
    obtain ⟨hi', hr, hd'⟩ := drop_cons_info hd
    simp only [List.length_cons] at hk
    cases u with
    | nil =>
      have hb := List.drop_eq_nil_iff.1 hu
      rw [laws_faSame.l0, if_neg (by split at hn <;> omega)]
      congr 1
      simp; omega
    | cons y u =>
      obtain ⟨hj', hr2, hu'⟩ := drop_cons_info hu
      rw [laws_faSame.l0, if_pos (by split at hn <;> omega), if_pos (by omega), if_pos (by omega), if_pos (by omega), hr, hr2, w64_i i (by omega)]
      by_cases hxy : x = y
      · rw [if_pos hxy, ih u (i + 1) k hd' hu' (by omega) (by omega) (by omega)]; simp [hxy]
      · rw [if_neg hxy]; simp [hxy]
theorem faSame_eq (k : Nat) (a b : List Int) (hk : 3000000 ≤ k) (hl : a.length ≤ 1048576) : laws_faSame.f k a b = some (decide (a = b)) := by
  unfold laws_faSame.f
  have := faSame_l0 a b hl (mn (a.length : Int) (b.length : Int)) (by rw [mn_def]; split <;> split <;> omega) a b 0 k (by simp) (by simp) (by omega) (by omega) (by omega)
  simpa using this
theorem l1In_eq (a b c : Int) : spec_l1In.f a b c = some (decide (b ≤ a ∧ a ≤ c)) := by
  unfold spec_l1In.f
  by_cases h : b ≤ a
  · rw [if_pos h]; simp [h]
  · rw [if_neg h]; simp [h]
/-- Numbers are lengths. -/
def lenOk (l : List Int) : Bool := decide (l.length ≤ 400) && okb 400 l && decide (tot l ≤ 400)
theorem lenOk_iff {l : List Int} : lenOk l = true ↔ l.length ≤ 400 ∧ okb 400 l = true ∧ tot l ≤ 400 := by simp [lenOk, and_assoc]
/-- Numbers are data. -/
def datOk (l : List Int) : Bool := decide (l.length ≤ 400) && okb 10006 l
theorem datOk_iff {l : List Int} : datOk l = true ↔ l.length ≤ 400 ∧ okb 10006 l = true := by simp [datOk]
theorem okb_le {m m' : Int} {l : List Int} (h : okb m l = true) (hm : m ≤ m') : okb m' l = true := by
  rw [okb_iff] at h ⊢; exact fun n hn => by have := h n hn; omega
def segOk (l d : List Int) : Bool := lenOk l && datOk d && decide (tot l = d.length)
theorem segOk_iff {l d : List Int} : segOk l d = true ↔ lenOk l = true ∧ datOk d = true ∧ tot l = d.length := by simp [segOk, and_assoc]
theorem l3Lengths_l0 (x0 l : List Int) (hl : l.length ≤ 1048576) : ∀ (t : List Int) (i k : Nat) (s : Int), l.drop i = t → t.length < k → 0 ≤ s → s ≤ 401 →
    spec_l3Lengths.l0 k x0 s l l.length i = some (okb 400 t && decide (x0.length ≤ 400) && decide (s + tot t ≤ 400)) := by
  intro t
  induction t with
  | nil =>
    intro i k s hd hk hs hs2
    obtain ⟨k, rfl⟩ : ∃ m, k = m + 1 := ⟨k - 1, by simp at hk; omega⟩
    rw [spec_l3Lengths.l0, if_neg (drop_nil_info hd)]
    by_cases h : x0.length ≤ 400
    · rw [if_pos (by omega)]; simp [tot, h, okb_nil]
    · rw [if_neg (by omega)]; simp [h]
  | cons a t ih =>
    intro i k s hd hk hs hs2
    obtain ⟨k, rfl⟩ : ∃ m, k = m + 1 := ⟨k - 1, by simp at hk; omega⟩
    obtain ⟨hi, hr, hd'⟩ := drop_cons_info hd
    simp only [List.length_cons] at hk
    rw [spec_l3Lengths.l0, if_pos (by omega), if_pos (by omega), if_pos (by omega), hr, l1In_eq, okb_cons]
    simp only [Option.bind_some]
    by_cases ha : 0 ≤ a ∧ a ≤ 400
    · rw [if_pos (by simp [ha]), w64_i i (by omega), w64 (by omega) (by omega), ih (i + 1) k _ hd' (by omega) (by rw [mn_def]; split <;> omega) (by rw [mn_def]; split <;> omega)]
      rw [decide_eq_true ha, Bool.true_and]
      cases hok : okb 400 t with
      | false => simp
      | true =>
        have := tot_nonneg hok
        congr 2
        rw [mn_def, decide_eq_decide]; simp only [tot]; split <;> constructor <;> intro _ <;> omega
    · rw [if_neg (by simp [ha])]; simp [ha]
theorem l3Lengths_eq (k : Nat) (l : List Int) (hk : 3000000 ≤ k) (hl : l.length ≤ 1048576) : spec_l3Lengths.f k l = some (lenOk l) := by
  unfold spec_l3Lengths.f
  have := l3Lengths_l0 l l hl l 0 k 0 (by simp) (by omega) (by omega) (by omega)
  rw [show ((0 : Nat) : Int) = 0 from rfl] at this
  rw [this]; unfold lenOk; congr 1
  cases okb 400 l <;> cases decide (l.length ≤ 400) <;> simp
theorem l3Numbers_l0 (l : List Int) (hl : l.length ≤ 1048576) : ∀ (t : List Int) (i k : Nat), l.drop i = t → t.length < k →
    spec_l3Numbers.l0 k l l.length i = some (okb 10006 t) := by
  intro t
  induction t with
  | nil =>
    intro i k hd hk
    obtain ⟨k, rfl⟩ : ∃ m, k = m + 1 := ⟨k - 1, by simp at hk; omega⟩
    rw [spec_l3Numbers.l0, if_neg (drop_nil_info hd)]; rfl
  | cons a t ih =>
    intro i k hd hk
    obtain ⟨k, rfl⟩ : ∃ m, k = m + 1 := ⟨k - 1, by simp at hk; omega⟩
    obtain ⟨hi, hr, hd'⟩ := drop_cons_info hd
    simp only [List.length_cons] at hk
    rw [spec_l3Numbers.l0, if_pos (by omega), if_pos (by omega), if_pos (by omega), hr, l1In_eq, okb_cons]
    simp only [Option.bind_some]
    by_cases ha : 0 ≤ a ∧ a ≤ 10006
    · rw [if_pos (by simp [ha]), w64_i i (by omega), ih (i + 1) k hd' (by omega)]; simp [ha]
    · rw [if_neg (by simp [ha])]; simp [ha]
theorem l3Numbers_eq (k : Nat) (l : List Int) (hk : 3000000 ≤ k) (hl : l.length ≤ 1048576) : spec_l3Numbers.f k l = some (okb 10006 l) := by
  unfold spec_l3Numbers.f
  exact l3Numbers_l0 l hl l 0 k (by simp) (by omega)
theorem l3Total_l0 (l : List Int) (hl : l.length ≤ 1048576) (hok : okb 1048576 l = true) : ∀ (t : List Int) (i k : Nat) (s : Int), l.drop i = t → t.length < k → 0 ≤ s → s ≤ 1048576 * i →
    spec_l3Total.l0 k s l l.length i = some (s + tot t) := by
  intro t
  induction t with
  | nil =>
    intro i k s hd hk hs hs2
    obtain ⟨k, rfl⟩ : ∃ m, k = m + 1 := ⟨k - 1, by simp at hk; omega⟩
    rw [spec_l3Total.l0, if_neg (drop_nil_info hd)]; simp [tot]
  | cons a t ih =>
    intro i k s hd hk hs hs2
    obtain ⟨k, rfl⟩ : ∃ m, k = m + 1 := ⟨k - 1, by simp at hk; omega⟩
    obtain ⟨hi, hr, hd'⟩ := drop_cons_info hd
    have hb := okb_iff.1 hok a (by rw [← hr, rd_nat]; exact getD_mem hi)
    simp only [List.length_cons] at hk
    rw [spec_l3Total.l0, if_pos (by omega), if_pos (by omega), if_pos (by omega), hr, w64 (by omega) (by omega), w64_i i (by omega), ih (i + 1) k (s + a) hd' (by omega) (by omega) (by omega)]
    simp only [tot]; congr 1; omega
theorem l3Total_eq (k : Nat) (l : List Int) (hk : 3000000 ≤ k) (hl : l.length ≤ 1048576) (hok : okb 1048576 l = true) : spec_l3Total.f k l = some (tot l) := by
  unfold spec_l3Total.f
  have := l3Total_l0 l hl hok l 0 k 0 (by simp) (by omega) (by omega) (by omega)
  simpa using this
theorem spec_SegmentsValid_eq (k : Nat) (l d : List Int) (hk : 3000000 ≤ k) (hl : l.length ≤ 1048576) (hd : d.length ≤ 1048576) : spec_SegmentsValid.f k l d = some (segOk l d) := by
  unfold spec_SegmentsValid.f
  rw [l3Lengths_eq k l hk hl]
  simp only [Option.bind_some]
  cases h : lenOk l with
  | false => simp [segOk, h]
  | true =>
    have h1 := lenOk_iff.1 h
    rw [l3Numbers_eq k d hk hd, l3Total_eq k l hk hl (okb_le h1.2.1 (by omega))]
    simp only [Option.bind_some, if_true]
    cases h2 : okb 10006 d with
    | false => simp [segOk, datOk, h2]
    | true =>
      simp only [if_true, segOk, datOk, h, h2, Bool.true_and, Bool.and_true]
      congr 1
      by_cases h3 : tot l = d.length
      · have : d.length ≤ 400 := by omega
        simp [h3, this]
      · have e1 : (tot l == (d.length : Int)) = false := by simp [h3]
        rw [e1]; simp [h3]
theorem lengthsOk_eq (k : Nat) (l : List Int) (hk : 3000000 ≤ k) (hl : l.length ≤ 1048576) : impl_lengthsOk.f k l = some (lenOk l) := by
  unfold impl_lengthsOk.f
  by_cases h : l.length ≤ 400
  · rw [if_pos (by omega), within_eq l 400 hl]
    simp only [Option.bind_some]
    cases h2 : okb 400 l with
    | false => simp [lenOk, h2]
    | true =>
      rw [if_pos rfl, total_eq k l hk hl (okb_le h2 (by omega))]
      simp [lenOk, h, h2]
  · rw [if_neg (by omega)]; simp [lenOk, h]
theorem dataOk_eq (l : List Int) (hl : l.length ≤ 1048576) : impl_dataOk.f l = some (datOk l) := by
  unfold impl_dataOk.f
  by_cases h : l.length ≤ 400
  · rw [if_pos (by omega), within_eq l 10006 hl]; simp [datOk, h]
  · rw [if_neg (by omega)]; simp [datOk, h]
theorem impl_SegmentsValid_eq (k : Nat) (l d : List Int) (hk : 3000000 ≤ k) (hl : l.length ≤ 1048576) (hd : d.length ≤ 1048576) : impl_SegmentsValid.f k l d = some (segOk l d) := by
  unfold impl_SegmentsValid.f
  rw [lengthsOk_eq k l hk hl, dataOk_eq d hd]
  simp only [Option.bind_some]
  cases h : lenOk l with
  | false => simp [segOk, h]
  | true =>
    have h1 := lenOk_iff.1 h
    rw [total_eq k l hk hl (okb_le h1.2.1 (by omega))]
    cases h2 : datOk d with
    | false => simp [segOk, h2]
    | true =>
      simp only [segOk, h, h2, Bool.true_and, if_true, Option.bind_some]
      congr 1
      by_cases h3 : tot l = d.length
      · simp [h3]
      · have e1 : ((d.length : Int) == tot l) = false := by simp; omega
        rw [e1]; simp [h3]
/-- Where segments begin, the first one at s. -/
def startsFrom (s : Int) : List Int → List Int
  | [] => []
  | a :: t => s :: startsFrom (s + a) t
/-- Numbers from i on, as many as d. -/
def ups : List Int → List Int
  | [] => []
  | a :: t => ramp 0 a.toNat ++ ups t
/-- Rounds of a loop within a loop. -/
def cst : List Int → Nat
  | [] => 1
  | a :: t => a.toNat + 2 + cst t
theorem cst_le {m : Int} {l : List Int} (h : okb m l = true) : (cst l : Int) = tot l + 2 * l.length + 1 := by
  rw [okb_iff] at h
  induction l with
  | nil => rfl
  | cons a t ih =>
    have h1 := h a (by simp)
    have h2 := ih (fun n hn => h n (by simp [hn]))
    simp only [cst, tot, List.length_cons]; omega
theorem cst_len {l : List Int} (h : lenOk l = true) : cst l ≤ 1201 := by
  obtain ⟨h1, h2, h3⟩ := lenOk_iff.1 h
  have := cst_le h2; omega
theorem len_append1 {α : Type} (a : List α) (x : α) : (a ++ [x]).length = a.length + 1 := by simp
theorem l4Data_eq (k : Nat) (l : List Int) (hk : 3000000 ≤ k) (hl : l.length ≤ 1048576) : spec_l4Data.f k l = some (datOk l) := by
  unfold spec_l4Data.f
  rw [l3Numbers_eq k l hk hl]
  simp only [Option.bind_some, datOk]
  cases okb 10006 l
  · simp
  · simp; omega
theorem l4Indices_l0 (x0 l : List Int) (n : Int) (hn : 0 ≤ n) (hn2 : n ≤ 1048576) (hl : l.length ≤ 1048576) : ∀ (t : List Int) (i k : Nat), l.drop i = t → t.length < k →
    spec_l4Indices.l0 k x0 n l l.length i = some (okb (n - 1) t && decide (x0.length ≤ 400)) := by
  intro t
  induction t with
  | nil =>
    intro i k hd hk
    obtain ⟨k, rfl⟩ : ∃ m, k = m + 1 := ⟨k - 1, by simp at hk; omega⟩
    rw [spec_l4Indices.l0, if_neg (drop_nil_info hd)]; simp [okb_nil]; omega
  | cons a t ih =>
    intro i k hd hk
    obtain ⟨k, rfl⟩ : ∃ m, k = m + 1 := ⟨k - 1, by simp at hk; omega⟩
    obtain ⟨hi, hr, hd'⟩ := drop_cons_info hd
    simp only [List.length_cons] at hk
    rw [spec_l4Indices.l0, if_pos (by omega), if_pos (by omega), if_pos (by omega), hr, w64 (x := n - 1) (by omega) (by omega), l1In_eq, okb_cons]
    simp only [Option.bind_some]
    by_cases ha : 0 ≤ a ∧ a ≤ n - 1
    · rw [if_pos (by simp [ha]), w64_i i (by omega), ih (i + 1) k hd' (by omega)]; simp [ha]
    · rw [if_neg (by simp [ha])]; simp [ha]
theorem l4Indices_eq (k : Nat) (l : List Int) (n : Int) (hk : 3000000 ≤ k) (hl : l.length ≤ 1048576) (hn : 0 ≤ n) (hn2 : n ≤ 1048576) : spec_l4Indices.f k l n = some (okb (n - 1) l && decide (l.length ≤ 400)) := by
  unfold spec_l4Indices.f
  exact l4Indices_l0 l l n hn hn2 hl l 0 k (by simp) (by omega)
def gatOk (d a : List Int) : Bool := datOk d && (okb (d.length - 1) a && decide (a.length ≤ 400))
def gatV (d a : List Int) : List Int × Bool := if gatOk d a = true then (a.map fun i => rd d i, true) else ([], false)
theorem impl_Gather_l0 (d l : List Int) (hl : l.length ≤ 400) (hok : okb ((d.length : Int) - 1) l = true) : ∀ (t : List Int) (i k : Nat) (s : List Int), l.drop i = t → t.length < k → s.length = i →
    impl_GatherData.l0 k d s l l.length i = some (s ++ t.map (fun i => rd d i), true) := by
  intro t
  induction t with
  | nil =>
    intro i k s hd hk hs
    obtain ⟨k, rfl⟩ : ∃ m, k = m + 1 := ⟨k - 1, by simp at hk; omega⟩
    rw [impl_GatherData.l0, if_neg (drop_nil_info hd)]; simp
  | cons a t ih =>
    intro i k s hd hk hs
    obtain ⟨k, rfl⟩ : ∃ m, k = m + 1 := ⟨k - 1, by simp at hk; omega⟩
    obtain ⟨hi, hr, hd'⟩ := drop_cons_info hd
    have hb := okb_iff.1 hok a (by rw [← hr, rd_nat]; exact getD_mem hi)
    simp only [List.length_cons] at hk
    rw [impl_GatherData.l0, if_pos (by omega), if_pos (by omega), if_pos (by omega), hr, if_pos (by omega), if_pos (by omega), if_pos (by omega), w64_i i (by omega),
      ih (i + 1) k _ hd' (by omega) (by simp [hs])]
    simp
theorem impl_Gather_eq (k : Nat) (d a : List Int) (hk : 3000010 ≤ k) (hd : d.length ≤ 1048576) (ha : a.length ≤ 1048576) : impl_GatherData.f k d a = some (gatV d a) := by
  unfold impl_GatherData.f
  rw [dataOk_eq d hd]
  simp only [Option.bind_some]
  obtain ⟨k, rfl⟩ : ∃ m, k = m + 1 := ⟨k - 1, by omega⟩
  cases h1 : datOk d with
  | false => simp [impl_GatherData.j0, gatV, gatOk, h1]
  | true =>
    simp only [if_true]
    by_cases h4 : a.length ≤ 400
    · rw [if_neg (by omega), w64 (by omega) (by omega), within_eq a _ ha]
      simp only [Option.bind_some]
      cases h2 : okb ((d.length : Int) - 1) a with
      | false => simp [impl_GatherData.j0, gatV, gatOk, h1, h2]
      | true =>
        have := impl_Gather_l0 d a h4 h2 a 0 k [] (by simp) (by omega) (by simp)
        simp only [impl_GatherData.j0, gatV, gatOk, h1, h2, h4, decide_true, Bool.not_true, if_neg (show ¬ (false = true) by decide), Bool.true_and, if_true]
        rw [show ((0 : Int)) = ((0 : Nat) : Int) from rfl, this]; simp
    · rw [if_pos (by omega)]
      simp [impl_GatherData.j0, gatV, gatOk, h1, h4]
def staV (l : List Int) : List Int × Bool := if lenOk l = true then (startsFrom 0 l, true) else ([], false)
theorem l3Starts_l0 (l : List Int) (hl : l.length ≤ 400) (hok : okb 400 l = true) : ∀ (t : List Int) (i k : Nat) (s : List Int) (c : Int), l.drop i = t → t.length < k → s.length = i → 0 ≤ c → c ≤ 400 * i →
    spec_l3Starts.l0 k s c l l.length i = some (s ++ startsFrom c t) := by
  intro t
  induction t with
  | nil =>
    intro i k s c hd hk hs h0 h1
    obtain ⟨k, rfl⟩ : ∃ m, k = m + 1 := ⟨k - 1, by simp at hk; omega⟩
    rw [spec_l3Starts.l0, if_neg (drop_nil_info hd)]; simp [startsFrom]
  | cons a t ih =>
    intro i k s c hd hk hs h0 h1
    obtain ⟨k, rfl⟩ : ∃ m, k = m + 1 := ⟨k - 1, by simp at hk; omega⟩
    obtain ⟨hi, hr, hd'⟩ := drop_cons_info hd
    have hb := okb_iff.1 hok a (by rw [← hr, rd_nat]; exact getD_mem hi)
    simp only [List.length_cons] at hk
    rw [spec_l3Starts.l0, if_pos (by omega), if_pos (by omega), if_pos (by omega), if_pos (by omega), hr, w64 (by omega) (by omega), w64_i i (by omega),
      ih (i + 1) k _ (c + a) hd' (by omega) (by simp [hs]) (by omega) (by omega)]
    simp [startsFrom]
theorem l3Starts_eq (k : Nat) (l : List Int) (hk : 3000000 ≤ k) (h : lenOk l = true) : spec_l3Starts.f k l = some (startsFrom 0 l) := by
  obtain ⟨h1, h2, h3⟩ := lenOk_iff.1 h
  unfold spec_l3Starts.f
  have := l3Starts_l0 l h1 h2 l 0 k [] 0 (by simp) (by omega) (by simp) (by omega) (by omega)
  simpa using this
def upV (l : List Int) : List Int × Bool := if lenOk l = true then (ups l, true) else ([], false)
theorem ramp_succ (m : Int) (d : Nat) : ramp m (d + 1) = m :: ramp (m + 1) d := rfl
theorem startsFrom_length (s : Int) (l : List Int) : (startsFrom s l).length = l.length := by
  induction l generalizing s with
  | nil => rfl
  | cons a t ih => simp [startsFrom, ih]
theorem ups_length {m : Int} {l : List Int} (h : okb m l = true) : ((ups l).length : Int) = tot l := by
  rw [okb_iff] at h
  induction l with
  | nil => rfl
  | cons a t ih =>
    have h1 := h a (by simp)
    have h2 := ih (fun n hn => h n (by simp [hn]))
    simp only [ups, tot, List.length_append, ramp_length]; omega
theorem gatV_len (d a : List Int) : (gatV d a).1.length ≤ 1048576 := by
  unfold gatV; split
  · rename_i h; simp only [gatOk, Bool.and_eq_true, decide_eq_true_eq] at h; simp; omega
  · simp
theorem staV_len (l : List Int) : (staV l).1.length ≤ 1048576 := by
  unfold staV; split
  · rename_i h; have := lenOk_iff.1 h; rw [startsFrom_length]; omega
  · simp
theorem upV_len (l : List Int) : (upV l).1.length ≤ 1048576 := by
  unfold upV; split
  · rename_i h; have := lenOk_iff.1 h; have := ups_length this.2.1; simp only; omega
  · simp
theorem lt0_1 (a : Nat) : ((1 : Int) + a < 0) = False := by simp; omega
theorem lt0_2 (a b : Nat) : ((1 : Int) + a + b < 0) = False := by simp; omega
theorem lt0_3 (a b c : Nat) : ((1 : Int) + a + b + c < 0) = False := by simp; omega
theorem lt0_4 (a b c d : Nat) : ((1 : Int) + a + b + c + d < 0) = False := by simp; omega
/-- The segments of data. -/
def segs : List Int → List Int → List (List Int)
  | [], _ => []
  | a :: t, d => d.take a.toNat :: segs t (d.drop a.toNat)
theorem segs_length (l d : List Int) : (segs l d).length = l.length := by
  induction l generalizing d with
  | nil => rfl
  | cons a t ih => simp [segs, ih]
theorem ddrop_cons_info {α : Type} {l : List α} {i : Nat} {a : α} {t : List α} (h : l.drop i = a :: t) : i < l.length ∧ l[i]? = some a ∧ l.drop (i + 1) = t := by
  have hi : i < l.length := by
    rcases Nat.lt_or_ge i l.length with h1 | h1
    · exact h1
    · rw [List.drop_eq_nil_of_le h1] at h; cases h
  rw [List.drop_eq_getElem_cons hi] at h
  injection h with h1 h2
  exact ⟨hi, by rw [List.getElem?_eq_getElem hi, h1], h2⟩
theorem okb_mem_segs {m : Int} {l d s : List Int} (h : okb m d = true) (hs : s ∈ segs l d) : okb m s = true := by
  induction l generalizing d with
  | nil => cases hs
  | cons a t ih =>
    simp only [segs, List.mem_cons] at hs
    rcases hs with rfl | hs
    · exact okb_take h _
    · exact ih (okb_drop h _) hs
theorem mem_segs_len {l d s : List Int} (hs : s ∈ segs l d) : s.length ≤ d.length := by
  induction l generalizing d with
  | nil => cases hs
  | cons a t ih =>
    simp only [segs, List.mem_cons] at hs
    rcases hs with rfl | hs
    · simp; omega
    · have := ih hs; simp at this; omega
theorem okb_tail {m a : Int} {t : List Int} (h : okb m (a :: t) = true) : 0 ≤ a ∧ a ≤ m ∧ okb m t = true := by
  rw [okb_cons] at h; simp at h; exact ⟨h.1.1, h.1.2, h.2⟩
theorem rdLL_of {l : List (List Int)} {i : Nat} {a : List Int} (h : l[i]? = some a) : rd_L1 l (i : Int) = a := by
  unfold rd_L1; rw [Int.toNat_natCast, List.getD_eq_getElem?_getD, h]; rfl
theorem impl_segments_l0 (l : List Int) (hl : l.length ≤ 400) : ∀ (t : List Int) (i k : Nat) (d : List Int) (s : List (List Int)), l.drop i = t → t.length < k → s.length = i → okb 400 t = true → tot t ≤ d.length →
    impl_segments.l0 k d s l l.length i = some (s ++ segs t d) := by
  intro t
  induction t with
  | nil =>
    intro i k d s hd hk hs hok ht
    obtain ⟨k, rfl⟩ : ∃ m, k = m + 1 := ⟨k - 1, by simp at hk; omega⟩
    rw [impl_segments.l0, if_neg (drop_nil_info hd)]; simp [segs]
  | cons a t ih =>
    intro i k d s hd hk hs hok ht
    obtain ⟨k, rfl⟩ : ∃ m, k = m + 1 := ⟨k - 1, by simp at hk; omega⟩
    obtain ⟨hi, hr, hd'⟩ := drop_cons_info hd
    obtain ⟨h0, h1, hok'⟩ := okb_tail hok
    have := tot_nonneg hok'
    simp only [List.length_cons] at hk
    simp only [tot] at ht
    rw [impl_segments.l0, if_pos (by omega), if_pos (by omega), if_pos (by omega), hr, if_pos h0, if_pos (by omega), if_pos (by omega), w64_i i (by omega), ih (i + 1) k _ _ hd' (by omega) (by simp [hs]) hok' (by simp; omega)]
    simp [segs]
theorem segments_eq (k : Nat) (l d : List Int) (hk : 3000000 ≤ k) (hl : l.length ≤ 400) (hok : okb 400 l = true) (ht : tot l ≤ d.length) : impl_segments.f k l d = some (segs l d) := by
  unfold impl_segments.f
  have := impl_segments_l0 l hl l 0 k d [] (by simp) (by omega) (by simp) hok ht
  simpa using this
theorem l3Cut_l0 (l d : List Int) (hl : l.length ≤ 400) (hd0 : d.length ≤ 1048576) (st : List Int) (hst : st.length = l.length) : ∀ (t u : List Int) (i k : Nat) (c : Int) (s : List (List Int)), l.drop i = t → st.drop i = u → u = startsFrom c t → t.length < k → s.length = i → okb 400 t = true → 0 ≤ c → c + tot t ≤ d.length →
    spec_l3Cut.l0 k l d s st st.length i = some (s ++ segs t (d.drop c.toNat)) := by
  intro t
  induction t with
  | nil =>
    intro u i k c s hd hu huc hk hs hok h0 ht
    obtain ⟨k, rfl⟩ : ∃ m, k = m + 1 := ⟨k - 1, by simp at hk; omega⟩
    have hh := drop_nil_info hd
    rw [spec_l3Cut.l0, if_neg (by omega)]; simp [segs]
  | cons a t ih =>
    intro u i k c s hd hu huc hk hs hok h0 ht
    obtain ⟨k, rfl⟩ : ∃ m, k = m + 1 := ⟨k - 1, by simp at hk; omega⟩
    obtain ⟨hi, hr, hd'⟩ := drop_cons_info hd
    subst huc
    simp only [startsFrom] at hu
    obtain ⟨hi2, hr2, hu'⟩ := drop_cons_info hu
    obtain ⟨ha0, ha1, hok'⟩ := okb_tail hok
    have := tot_nonneg hok'
    simp only [List.length_cons] at hk
    simp only [tot] at ht
    rw [spec_l3Cut.l0, if_pos (by omega), if_pos (by omega), if_pos (by omega), if_pos (by omega), hr, hr2, w64 (x := c + a) (by omega) (by omega), if_pos (by omega), if_pos (by omega), if_pos (by omega), if_pos (by omega), w64_i i (by omega),
      ih _ (i + 1) k (c + a) _ hd' hu' rfl (by omega) (by simp [hs]) hok' (by omega) (by omega)]
    have e1 : (c + a).toNat = c.toNat + a.toNat := by omega
    rw [e1, segs, List.drop_drop, List.append_assoc]
    congr 2
    simp only [List.singleton_append]
    congr 1
    rw [List.drop_take]; congr 1; omega
theorem l3Cut_eq (k : Nat) (l d : List Int) (hk : 3000000 ≤ k) (hl : lenOk l = true) (hd0 : d.length ≤ 1048576) (ht : tot l ≤ d.length) : spec_l3Cut.f k l d = some (segs l d) := by
  obtain ⟨h1, h2, h3⟩ := lenOk_iff.1 hl
  unfold spec_l3Cut.f
  rw [l3Starts_eq k l hk hl]
  simp only [Option.bind_some]
  have := l3Cut_l0 l d h1 hd0 (startsFrom 0 l) (startsFrom_length 0 l) l (startsFrom 0 l) 0 k 0 [] (by simp) (by simp) rfl (by omega) (by simp) h2 (by omega) (by omega)
  simpa using this
def merOk (o i : List Int) : Bool := lenOk o && lenOk i && decide (tot o = i.length)
def merV (o i : List Int) : List Int × Bool := if merOk o i = true then ((segs o i).map tot, true) else ([], false)
theorem merOk_iff {o i : List Int} : merOk o i = true ↔ lenOk o = true ∧ lenOk i = true ∧ tot o = i.length := by simp [merOk, and_assoc]
theorem merV_len (o i : List Int) : (merV o i).1.length ≤ 1048576 := by
  unfold merV; split
  · rename_i h; obtain ⟨h1, h2, h3⟩ := merOk_iff.1 h; have := lenOk_iff.1 h1; simp [segs_length]; omega
  · simp
/-- The sum of numbers, of which 10007 is taken away until it is less. -/
def sumM (l : List Int) : Int := tot l % 10007
def sumV (l d : List Int) : List Int × Bool := if segOk l d = true then ((segs l d).map sumM, true) else ([], false)
theorem sumV_len (l d : List Int) : (sumV l d).1.length ≤ 1048576 := by
  unfold sumV; split
  · rename_i h; obtain ⟨h1, h2, h3⟩ := segOk_iff.1 h; have := lenOk_iff.1 h1; simp [segs_length]; omega
  · simp
theorem tmod_nonneg (x : Int) (h : 0 ≤ x) : Int.tmod x 10007 = x % 10007 := by rw [Int.tmod_eq_emod_of_nonneg h]
/-- A sum that is cut down at each step. -/
def sumStep (s : Int) : List Int → Int
  | [] => s
  | a :: t => sumStep ((s + a) % 10007) t
theorem sumStep_eq (s : Int) (l : List Int) (h0 : 0 ≤ s) (h1 : s < 10007) : sumStep s l = (s + tot l) % 10007 := by
  induction l generalizing s with
  | nil => simp only [sumStep, tot]; omega
  | cons a t ih =>
    rw [sumStep, ih _ (by omega) (by omega), tot]; omega
/-- Rounds of a loop over lists. -/
def cstL : List (List Int) → Nat
  | [] => 1
  | y :: t => y.length + 2 + cstL t
theorem cstL_le {x : List (List Int)} (h : ∀ y ∈ x, y.length ≤ 400) : cstL x ≤ 402 * x.length + 1 := by
  induction x with
  | nil => simp [cstL]
  | cons y t ih =>
    have h1 := h y (by simp)
    have h2 := ih (fun z hz => h z (by simp [hz]))
    simp only [cstL, List.length_cons]; omega
theorem sum_eq (k : Nat) (l : List Int) (hk : 3000000 ≤ k) (hl : l.length ≤ 1048576) (hok : okb 10006 l = true) : impl_sum.f k l = some (sumM l) := by
  unfold impl_sum.f
  rw [total_eq k l hk hl (okb_le hok (by omega))]
  simp only [Option.bind_some]
  rw [tmod_nonneg _ (tot_nonneg hok)]; rfl
theorem each_Sum_l0 (x : List (List Int)) (hx : x.length ≤ 400) (hok : ∀ y ∈ x, okb 10006 y = true ∧ y.length ≤ 400) : ∀ (t : List (List Int)) (i k : Nat) (s : List Int), x.drop i = t → t.length + 3000001 < k → s.length = i →
    impl_each_at_SumSegments_1.l0 k s x x.length i = some (s ++ t.map sumM, true) := by
  intro t
  induction t with
  | nil =>
    intro i k s hd hk hs
    obtain ⟨k, rfl⟩ : ∃ m, k = m + 1 := ⟨k - 1, by simp at hk; omega⟩
    rw [impl_each_at_SumSegments_1.l0, if_neg (drop_nil_info hd)]; simp
  | cons y t ih =>
    intro i k s hd hk hs
    obtain ⟨k, rfl⟩ : ∃ m, k = m + 1 := ⟨k - 1, by simp at hk; omega⟩
    obtain ⟨hi, hr, hd'⟩ := ddrop_cons_info hd
    have hy := hok y (List.mem_of_getElem? hr)
    simp only [List.length_cons] at hk
    rw [impl_each_at_SumSegments_1.l0, if_pos (by omega), if_pos (by omega), if_pos (by omega), rdLL_of hr]
    unfold impl_SumSegments_1.f
    rw [sum_eq k y (by omega) (by omega) hy.1]
    simp only [Option.bind_some]
    rw [if_pos (by simp; omega), w64_i i (by omega), ih (i + 1) k _ hd' (by omega) (by simp [hs])]
    simp
theorem impl_Sum_eq (k : Nat) (l d : List Int) (hk : 3001000 ≤ k) (hl : l.length ≤ 1048576) (hd : d.length ≤ 1048576) : impl_SumSegments.f k l d = some (sumV l d) := by
  unfold impl_SumSegments.f impl_each_at_SumSegments_1.f
  rw [impl_SegmentsValid_eq k l d (by omega) hl hd]
  simp only [Option.bind_some]
  cases h : segOk l d with
  | false => simp [sumV, h]
  | true =>
    obtain ⟨h1, h2, h3⟩ := segOk_iff.1 h
    have hl1 := lenOk_iff.1 h1
    have hd1 := datOk_iff.1 h2
    rw [if_pos rfl, segments_eq k l d (by omega) hl1.1 hl1.2.1 (by omega)]
    simp only [Option.bind_some]
    have hm : ∀ y ∈ segs l d, okb 10006 y = true ∧ y.length ≤ 400 := fun y hy => ⟨okb_mem_segs hd1.2 hy, by have := mem_segs_len hy; omega⟩
    have := each_Sum_l0 (segs l d) (by rw [segs_length]; omega) hm (segs l d) 0 k [] (by simp) (by rw [segs_length]; omega) (by simp)
    rw [show ((0 : Nat) : Int) = 0 from rfl] at this
    rw [this]; simp [sumV, h]
/-- The numbers that have a flag that is not 0. -/
def sel : List Int → List Int → List Int
  | d :: ds, f :: fs => if f = 0 then sel ds fs else d :: sel ds fs
  | _, _ => []
/-- How many of each segment are flagged, and these. -/
def packGo : List Int → List Int → List Int → List Int × List Int
  | [], _, _ => ([], [])
  | a :: t, d, f => (((sel (d.take a.toNat) (f.take a.toNat)).length : Int) :: (packGo t (d.drop a.toNat) (f.drop a.toNat)).1, sel (d.take a.toNat) (f.take a.toNat) ++ (packGo t (d.drop a.toNat) (f.drop a.toNat)).2)
def pacOk (l d f : List Int) : Bool := segOk l d && (decide (f.length = d.length) && okb 10006 f)
def pacV (l d f : List Int) : List Int × List Int × Bool := if pacOk l d f = true then ((packGo l d f).1, (packGo l d f).2, true) else ([], [], false)
theorem sel_len (d f : List Int) : (sel d f).length ≤ d.length := by
  induction d generalizing f with
  | nil => simp [sel]
  | cons a t ih =>
    cases f with
    | nil => simp [sel]
    | cons b u =>
      rw [sel]; have := ih u
      split
      · simp; omega
      · simp; omega
theorem packGo_len1 (l d f : List Int) : (packGo l d f).1.length = l.length := by
  induction l generalizing d f with
  | nil => rfl
  | cons a t ih => simp [packGo, ih]
theorem packGo_len2 (l d f : List Int) : (packGo l d f).2.length ≤ d.length := by
  induction l generalizing d f with
  | nil => simp [packGo]
  | cons a t ih =>
    have h1 := sel_len (d.take a.toNat) (f.take a.toNat)
    have h2 := ih (d.drop a.toNat) (f.drop a.toNat)
    simp only [packGo, List.length_append]
    simp at h1 h2; omega
theorem pacOk_iff {l d f : List Int} : pacOk l d f = true ↔ segOk l d = true ∧ f.length = d.length ∧ okb 10006 f = true := by simp [pacOk]
theorem pacV_len1 (l d f : List Int) : (pacV l d f).1.length ≤ 1048576 := by
  unfold pacV; split
  · rename_i h; obtain ⟨h1, h2, h3⟩ := pacOk_iff.1 h; have := lenOk_iff.1 (segOk_iff.1 h1).1; simp only [packGo_len1]; omega
  · simp
theorem pacV_len2 (l d f : List Int) : (pacV l d f).2.1.length ≤ 1048576 := by
  unfold pacV; split
  · rename_i h; obtain ⟨h1, h2, h3⟩ := pacOk_iff.1 h; have := datOk_iff.1 (segOk_iff.1 h1).2.1; have := packGo_len2 l d f; simp only; omega
  · simp
theorem drop_uncons {l : List Int} {i : Nat} (h : i < l.length) : l.drop i = rd l (i : Int) :: l.drop (i + 1) := by
  rw [List.drop_eq_getElem_cons h, rd_nat, List.getD_eq_getElem?_getD, List.getElem?_eq_getElem h]; rfl
theorem impl_Pack_l1 {i : Nat} (l d f : List Int) (hl : l.length ≤ 400) (hd : d.length ≤ 400) (hf : f.length = d.length) (s9 : List Int) (hs9 : s9.length = i) (hi : i < l.length) (c : Nat) (P1 P2 : List Int) (a0 n : Nat) (hn : a0 + n ≤ d.length)
    (ih : ∀ (k : Nat) (s s' : List Int), s.length = i + 1 → s'.length ≤ a0 + n → c < k → impl_PackSegments.l0 k d f s s' ((a0 + n : Nat) : Int) l l.length ((i + 1 : Nat) : Int) = some (s ++ P1, s' ++ P2, true)) :
    ∀ (r j q k : Nat) (s10 : List Int) (had : Nat), r + j = n → q = a0 + j → r + 1 + c < k → s10.length ≤ a0 + j → had ≤ s10.length →
      impl_PackSegments.l1 k d f s9 s10 (q : Int) had l l.length i n j = some (s9 ++ (((s10.length : Int) - had + (sel ((d.drop q).take r) ((f.drop q).take r)).length) :: P1), s10 ++ (sel ((d.drop q).take r) ((f.drop q).take r) ++ P2), true) := by
  intro r
  induction r with
  | zero =>
    intro j q k s10 had hr hq hk hs hh
    obtain ⟨k, rfl⟩ : ∃ m, k = m + 1 := ⟨k - 1, by omega⟩
    have hj : j = n := by omega
    have hq2 : q = a0 + n := by omega
    rw [impl_PackSegments.l1, if_neg (by omega), if_pos (by omega), w64_i i (by omega), w64 (x := (s10.length : Int) - had) (by omega) (by omega), hq2, ih k _ s10 (by simp [hs9]) (by omega) (by omega)]
    simp [sel]
  | succ r ih2 =>
    intro j q k s10 had hr hq hk hs hh
    obtain ⟨k, rfl⟩ : ∃ m, k = m + 1 := ⟨k - 1, by omega⟩
    have hfd : q < f.length := by omega
    have hdd : q < d.length := by omega
    rw [impl_PackSegments.l1, if_pos (by omega), if_pos (by omega), if_pos (by omega), drop_uncons hdd, drop_uncons hfd, List.take_succ_cons, List.take_succ_cons, sel]
    rw [w64_i q (by omega), w64_i j (by omega)]
    by_cases h0 : rd f (q : Int) = 0
    · rw [if_pos h0, if_pos h0, ih2 (j + 1) (q + 1) k s10 had (by omega) (by omega) (by omega) (by omega) hh]
    · rw [if_neg h0, if_neg h0, if_pos (by omega), if_pos (by omega), ih2 (j + 1) (q + 1) k _ had (by omega) (by omega) (by omega) (by simp; omega) (by simp; omega)]
      simp; omega
theorem impl_Pack_l0 (l d f : List Int) (hl : l.length ≤ 400) (hd : d.length ≤ 400) (hf : f.length = d.length) : ∀ (t : List Int) (i k a0 : Nat) (s9 s10 : List Int), l.drop i = t → cst t < k → s9.length = i → s10.length ≤ a0 → okb 400 t = true → (a0 : Int) + tot t ≤ d.length →
    impl_PackSegments.l0 k d f s9 s10 a0 l l.length i = some (s9 ++ (packGo t (d.drop a0) (f.drop a0)).1, s10 ++ (packGo t (d.drop a0) (f.drop a0)).2, true) := by
  intro t
  induction t with
  | nil =>
    intro i k a0 s9 s10 hdr hk hs9 hs10 hok ht
    obtain ⟨k, rfl⟩ : ∃ m, k = m + 1 := ⟨k - 1, by simp only [cst] at hk; omega⟩
    rw [impl_PackSegments.l0, if_neg (drop_nil_info hdr)]; simp [packGo]
  | cons a t ih =>
    intro i k a0 s9 s10 hdr hk hs9 hs10 hok ht
    simp only [cst] at hk
    obtain ⟨k, rfl⟩ : ∃ m, k = m + 1 := ⟨k - 1, by omega⟩
    obtain ⟨hi, hr, hd'⟩ := drop_cons_info hdr
    rw [okb_cons] at hok
    simp only [Bool.and_eq_true, decide_eq_true_eq] at hok
    obtain ⟨⟨ha0, ha1⟩, hok'⟩ := hok
    have hnn := tot_nonneg hok'
    simp only [tot] at ht
    obtain ⟨n, rfl⟩ := Int.eq_ofNat_of_zero_le ha0
    rw [impl_PackSegments.l0, if_pos (by omega), if_pos (by omega), if_pos (by omega), hr]
    have := impl_Pack_l1 (i := i) l d f hl hd hf s9 hs9 hi (cst t) (packGo t (d.drop (a0 + n)) (f.drop (a0 + n))).1 (packGo t (d.drop (a0 + n)) (f.drop (a0 + n))).2 a0 n (by omega)
      (fun k s s' h1 h2 h3 => ih (i + 1) k (a0 + n) s s' hd' h3 h1 h2 hok' (by omega)) n 0 a0 k s10 s10.length (by omega) (by omega) (by omega) (by omega) (Nat.le_refl _)
    rw [show ((0 : Nat) : Int) = 0 from rfl] at this
    rw [this]
    simp only [packGo, List.drop_drop, Int.toNat_natCast]
    simp
theorem impl_Pack_eq (k : Nat) (l d f : List Int) (hk : 3001000 ≤ k) (hl : l.length ≤ 1048576) (hd : d.length ≤ 1048576) (hf : f.length ≤ 1048576) : impl_PackSegments.f k l d f = some (pacV l d f) := by
  obtain ⟨k, rfl⟩ : ∃ m, k = m + 1 := ⟨k - 1, by omega⟩
  unfold impl_PackSegments.f
  rw [impl_SegmentsValid_eq (k + 1) l d (by omega) hl hd, dataOk_eq f hf]
  simp only [Option.bind_some]
  cases h1 : segOk l d with
  | false => simp [impl_PackSegments.j0, pacV, pacOk, h1]
  | true =>
    obtain ⟨g1, g2, g3⟩ := segOk_iff.1 h1
    have hl1 := lenOk_iff.1 g1
    have hd1 := datOk_iff.1 g2
    simp only [if_true]
    by_cases h2 : f.length = d.length
    · have e : ((f.length : Int) != (d.length : Int)) = false := by simp [h2]
      cases h3 : okb 10006 f with
      | false =>
        have : datOk f = false := by simp [datOk, h3]
        simp [impl_PackSegments.j0, pacV, pacOk, this, h3]
      | true =>
        have : datOk f = true := by simp [datOk, h3]; omega
        rw [this, e, if_pos rfl, impl_PackSegments.j0, if_neg (by decide)]
        have hc := cst_len g1
        have := impl_Pack_l0 l d f hl1.1 hd1.1 h2 l 0 k 0 [] [] (by simp) (by omega) (by simp) (by simp) hl1.2.1 (by omega)
        rw [show ((0 : Nat) : Int) = 0 from rfl] at this
        rw [this]; simp [pacV, pacOk, h1, h2, h3]
    · have e : ((f.length : Int) != (d.length : Int)) = true := by simp; omega
      rw [e]
      simp [impl_PackSegments.j0, pacV, pacOk, h2]
/-- The picked segments, one behind the other. -/
def pickL (x : List (List Int)) (u : List Int) : List Int := (u.map (fun a => rd_L1 x a)).flatten
def pickOk (l d u : List Int) : Bool := segOk l d && (okb ((l.length : Int) - 1) u && decide (u.length ≤ 400))
def pickV (l d u : List Int) : List Int × List Int × Bool := if pickOk l d u = true then (if (pickL (segs l d) u).length ≤ 400 then (u.map (fun a => rd l a), pickL (segs l d) u, true) else ([], [], false)) else ([], [], false)
theorem pickOk_iff {l d u : List Int} : pickOk l d u = true ↔ segOk l d = true ∧ okb ((l.length : Int) - 1) u = true ∧ u.length ≤ 400 := by simp [pickOk]
theorem pickV_len (l d u : List Int) : (pickV l d u).1.length ≤ 1048576 := by
  unfold pickV; split
  · rename_i h; obtain ⟨h1, h2, h3⟩ := pickOk_iff.1 h
    split
    · simp; omega
    · simp
  · simp
theorem pickV_len2 (l d u : List Int) : (pickV l d u).2.1.length ≤ 1048576 := by
  unfold pickV; split
  · rename_i h
    split
    · show (pickL (segs l d) u).length ≤ _; omega
    · simp
  · simp
theorem rdLL_len {x : List (List Int)} {a : Int} (h : ∀ y ∈ x, y.length ≤ 400) : (rd_L1 x a).length ≤ 400 := by
  unfold rd_L1
  rw [List.getD_eq_getElem?_getD]
  cases hx : x[a.toNat]? with
  | none => simp
  | some y => exact h y (List.mem_of_getElem? hx)
theorem pickL_len {x : List (List Int)} (h : ∀ y ∈ x, y.length ≤ 400) (u : List Int) : (pickL x u).length ≤ 400 * u.length := by
  induction u with
  | nil => simp [pickL]
  | cons a t ih =>
    have := rdLL_len (a := a) h
    simp only [pickL, List.map_cons, List.flatten_cons, List.length_append, List.length_cons] at *
    omega
theorem spec_Pick_l0 (l u : List Int) (x : List (List Int)) (hu : u.length ≤ 400) (hxl : x.length = l.length) (hx : ∀ y ∈ x, y.length ≤ 400) (hok : okb ((l.length : Int) - 1) u = true) : ∀ (t : List Int) (i k : Nat) (s o : List Int), u.drop i = t → t.length < k → s.length = i → o.length ≤ 400 →
    spec_PickSegments.l0 k l s o x u u.length i = some (if (o ++ pickL x t).length ≤ 400 then (s ++ t.map (fun a => rd l a), o ++ pickL x t, true) else ([], [], false)) := by
  intro t
  induction t with
  | nil =>
    intro i k s o hd hk hs ho
    obtain ⟨k, rfl⟩ : ∃ m, k = m + 1 := ⟨k - 1, by simp at hk; omega⟩
    rw [spec_PickSegments.l0, if_neg (drop_nil_info hd)]; simp [pickL, ho]
  | cons a t ih =>
    intro i k s o hd hk hs ho
    obtain ⟨k, rfl⟩ : ∃ m, k = m + 1 := ⟨k - 1, by simp at hk; omega⟩
    obtain ⟨hi, hr, hd'⟩ := drop_cons_info hd
    have hb := okb_iff.1 hok a (by rw [← hr, rd_nat]; exact getD_mem hi)
    have hl := rdLL_len (a := a) hx
    simp only [List.length_cons] at hk
    rw [spec_PickSegments.l0, if_pos (by omega), if_pos (by omega), if_pos (by omega), hr, if_pos hb.1, if_pos (by omega), if_pos (by omega), if_pos (by omega), if_pos (by omega)]
    simp only [Option.bind_some]
    have e : o ++ pickL x (a :: t) = (o ++ rd_L1 x a) ++ pickL x t := by simp [pickL]
    by_cases h4 : (o ++ rd_L1 x a).length ≤ 400
    · rw [if_neg (by omega), w64_i i (by omega), ih (i + 1) k _ _ hd' (by omega) (by simp [hs]) h4, e]
      simp
    · rw [if_pos (by omega), if_neg (by rw [e, List.length_append]; omega)]
theorem spec_Pick_eq (k : Nat) (l d u : List Int) (hk : 3001000 ≤ k) (hl : l.length ≤ 1048576) (hd : d.length ≤ 1048576) (hu : u.length ≤ 1048576) : spec_PickSegments.f k l d u = some (pickV l d u) := by
  obtain ⟨k, rfl⟩ : ∃ m, k = m + 1 := ⟨k - 1, by omega⟩
  unfold spec_PickSegments.f
  simp only [Option.bind_some]
  rw [spec_SegmentsValid_eq (k + 1) l d (by omega) hl hd]
  simp only [Option.bind_some]
  cases h : segOk l d with
  | false => simp [pickV, pickOk, h, spec_PickSegments.j0]
  | true =>
    rw [if_pos rfl, l4Indices_eq (k + 1) u _ (by omega) hu (by omega) (by omega)]
    simp only [Option.bind_some]
    cases h2 : (okb ((l.length : Int) - 1) u && decide (u.length ≤ 400)) with
    | false => simp [pickV, pickOk, h2, spec_PickSegments.j0]
    | true =>
      obtain ⟨h3, h4, h5⟩ := segOk_iff.1 h
      have hd1 := datOk_iff.1 h4
      simp only [Bool.and_eq_true, decide_eq_true_eq] at h2
      rw [spec_PickSegments.j0, if_neg (by simp), l3Cut_eq k l d (by omega) h3 hd (by omega)]
      simp only [Option.bind_some]
      have := spec_Pick_l0 l u (segs l d) h2.2 (segs_length l d) (fun y hy => by have := mem_segs_len hy; omega) h2.1 u 0 k [] [] (by simp) (by omega) rfl (by simp)
      rw [show ((0 : Nat) : Int) = 0 from rfl] at this
      rw [this]; simp [pickV, pickOk, h, h2]
theorem impl_Pick_l0 (l u : List Int) (x : List (List Int)) (hu : u.length ≤ 400) (hxl : x.length = l.length) (hx : ∀ y ∈ x, y.length ≤ 400) (hok : okb ((l.length : Int) - 1) u = true) : ∀ (t : List Int) (i k : Nat) (s o : List Int), u.drop i = t → t.length < k → s.length = i → o.length ≤ 400 * i →
    impl_PickSegments.l0 k l x s o u u.length i = some (if (o ++ pickL x t).length ≤ 400 then (s ++ t.map (fun a => rd l a), o ++ pickL x t, true) else ([], [], false)) := by
  intro t
  induction t with
  | nil =>
    intro i k s o hd hk hs ho
    obtain ⟨k, rfl⟩ : ∃ m, k = m + 1 := ⟨k - 1, by simp at hk; omega⟩
    rw [impl_PickSegments.l0, if_neg (drop_nil_info hd)]
    by_cases h : o.length ≤ 400
    · rw [if_neg (by omega)]; simp [pickL, h]
    · rw [if_pos (by omega)]; simp [pickL, h]
  | cons a t ih =>
    intro i k s o hd hk hs ho
    obtain ⟨k, rfl⟩ : ∃ m, k = m + 1 := ⟨k - 1, by simp at hk; omega⟩
    obtain ⟨hi, hr, hd'⟩ := drop_cons_info hd
    have hb := okb_iff.1 hok a (by rw [← hr, rd_nat]; exact getD_mem hi)
    have hl := rdLL_len (a := a) hx
    simp only [List.length_cons] at hk
    rw [impl_PickSegments.l0, if_pos (by omega), if_pos (by omega), if_pos (by omega), hr, if_pos hb.1, if_pos (by omega), if_pos (by omega), if_pos (by omega), if_pos (by omega), w64_i i (by omega), ih (i + 1) k _ _ hd' (by omega) (by simp [hs]) (by simp; omega)]
    have e : o ++ pickL x (a :: t) = (o ++ rd_L1 x a) ++ pickL x t := by simp [pickL]
    rw [e]; simp
theorem impl_Pick_eq (k : Nat) (l d u : List Int) (hk : 3001000 ≤ k) (hl : l.length ≤ 1048576) (hd : d.length ≤ 1048576) (hu : u.length ≤ 1048576) : impl_PickSegments.f k l d u = some (pickV l d u) := by
  obtain ⟨k, rfl⟩ : ∃ m, k = m + 1 := ⟨k - 1, by omega⟩
  unfold impl_PickSegments.f
  rw [impl_SegmentsValid_eq (k + 1) l d (by omega) hl hd]
  simp only [Option.bind_some]
  cases h : segOk l d with
  | false => simp [pickV, pickOk, h, impl_PickSegments.j0]
  | true =>
    rw [if_pos rfl]
    by_cases h5 : u.length ≤ 400
    case neg => rw [if_pos (by omega)]; simp [pickV, pickOk, h5, impl_PickSegments.j0]
    rw [if_neg (by omega), w64 (by omega) (by omega), within_eq u _ hu]
    simp only [Option.bind_some]
    cases h2 : okb ((l.length : Int) - 1) u with
    | false => simp [pickV, pickOk, h2, impl_PickSegments.j0]
    | true =>
      obtain ⟨h3, h4, h6⟩ := segOk_iff.1 h
      have hl1 := lenOk_iff.1 h3
      have hd1 := datOk_iff.1 h4
      rw [impl_PickSegments.j0, if_neg (by simp), segments_eq k l d (by omega) hl1.1 hl1.2.1 (by omega)]
      simp only [Option.bind_some]
      have := impl_Pick_l0 l u (segs l d) h5 (segs_length l d) (fun y hy => by have := mem_segs_len hy; omega) h2 u 0 k [] [] (by simp) (by omega) rfl (by simp)
      rw [show ((0 : Nat) : Int) = 0 from rfl] at this
      rw [this]; simp [pickV, pickOk, h, h2, h5]
/-- How many flags are not 0. -/
def cntN : List Int → Nat
  | [] => 0
  | f :: fs => if f = 0 then cntN fs else cntN fs + 1
/-- What is woven of two lists by flags. -/
def wv : List Int → List Int → List Int → List Int
  | [], _, _ => []
  | f :: fs, a, b => if f = 0 then (match b with | [] => [] | x :: b' => x :: wv fs a b') else (match a with | [] => [] | x :: a' => x :: wv fs a' b)
theorem cntN_le (f : List Int) : cntN f ≤ f.length := by
  induction f with
  | nil => simp [cntN]
  | cons a t ih => rw [cntN]; split <;> simp <;> omega
theorem wv_len (f a b : List Int) : (wv f a b).length ≤ f.length := by
  induction f generalizing a b with
  | nil => simp [wv]
  | cons x t ih =>
    by_cases hx : x = 0
    · cases b with
      | nil => simp [wv, hx]
      | cons y b => simp [wv, hx]; exact ih a b
    · cases a with
      | nil => simp [wv, hx]
      | cons y a => simp [wv, hx]; exact ih a b
def wvOk (f a b : List Int) : Bool := (datOk f && (datOk a && datOk b)) && (decide (cntN f = a.length) && decide (f.length - cntN f = b.length))
def wvV (f a b : List Int) : List Int × Bool := if wvOk f a b = true then (wv f a b, true) else ([], false)
theorem wvOk_iff {f a b : List Int} : wvOk f a b = true ↔ (datOk f = true ∧ datOk a = true ∧ datOk b = true) ∧ cntN f = a.length ∧ f.length - cntN f = b.length := by simp [wvOk]
theorem wvV_len (f a b : List Int) : (wvV f a b).1.length ≤ 1048576 := by
  unfold wvV; split
  · rename_i h; obtain ⟨⟨h1, _, _⟩, _⟩ := wvOk_iff.1 h; have := datOk_iff.1 h1; have := wv_len f a b; simp only; omega
  · simp
theorem weaveGo_eq (f : List Int) : ∀ a b o : List Int, weaveGo f a b o = if cntN f = a.length ∧ f.length - cntN f = b.length then some (o ++ wv f a b) else none := by
  induction f with
  | nil =>
    intro a b o
    cases a <;> cases b <;> simp [weaveGo, cntN, wv]
  | cons x t ih =>
    intro a b o
    have hc := cntN_le t
    by_cases hx : x = 0
    · cases b with
      | nil =>
        rw [if_neg (by simp [cntN, hx]; omega)]
        simp [weaveGo, hx]
      | cons y b =>
        simp only [weaveGo, if_pos hx, ih, cntN, wv, List.length_cons]
        by_cases h : cntN t = a.length ∧ t.length - cntN t = b.length
        · rw [if_pos h, if_pos (by omega)]; simp
        · rw [if_neg h, if_neg (by omega)]
    · cases a with
      | nil =>
        rw [if_neg (by simp [cntN, hx])]
        simp [weaveGo, hx]
      | cons y a =>
        simp only [weaveGo, if_neg hx, ih, cntN, wv, List.length_cons]
        by_cases h : cntN t = a.length ∧ t.length - cntN t = b.length
        · rw [if_pos h, if_pos (by omega)]; simp
        · rw [if_neg h, if_neg (by omega)]
theorem dataB_datOk (l : List Int) : dataB l = datOk l := by
  unfold dataB datOk
  by_cases h : l.length ≤ 400
  · have := idxOut_neg 10006 l l.length 0 rfl
    rw [if_pos (by omega)]
    simp only [List.drop_zero] at this
    simp [h, this]
  · rw [if_neg (by omega)]; simp [h]
theorem impl_Weave_eq (f a b : List Int) : impl_WeaveData.f f a b = some (wvV f a b) := by
  unfold impl_WeaveData.f
  rw [dataB_datOk, dataB_datOk, dataB_datOk, weaveGo_eq]
  congr 1
  cases h1 : datOk f <;> cases h2 : datOk a <;> cases h3 : datOk b <;> simp [wvV, wvOk, h1, h2, h3]
  by_cases h : cntN f = a.length ∧ f.length - cntN f = b.length
  · rw [if_pos h, if_pos h]; rfl
  · rw [if_neg h, if_neg h]; rfl
theorem spec_Weave_l1 (f a b : List Int) (hf : f.length ≤ 400) (hal : a.length ≤ 1048576) (hbl : b.length ≤ 1048576) : ∀ (t : List Int) (i p q k : Nat) (s : List Int), f.drop i = t → t.length < k → s.length = i → p + cntN t = a.length → q + (t.length - cntN t) = b.length →
    spec_WeaveData.l1 k a b s p q f f.length i = some (s ++ wv t (a.drop p) (b.drop q), true) := by
  intro t
  induction t with
  | nil =>
    intro i p q k s hd hk hs hp hq
    obtain ⟨k, rfl⟩ : ∃ m, k = m + 1 := ⟨k - 1, by omega⟩
    rw [spec_WeaveData.l1, if_neg (drop_nil_info hd)]; simp [wv]
  | cons x t ih =>
    intro i p q k s hd hk hs hp hq
    obtain ⟨k, rfl⟩ : ∃ m, k = m + 1 := ⟨k - 1, by omega⟩
    obtain ⟨hi, hr, hd'⟩ := drop_cons_info hd
    have hc := cntN_le t
    simp only [List.length_cons] at hk hq
    rw [spec_WeaveData.l1, if_pos (by omega), if_pos (by omega), if_pos (by omega), hr, w64_i i (by omega)]
    by_cases hx : x = 0
    · simp only [cntN, if_pos hx] at hp hq
      have hq' : q < b.length := by omega
      have hb : b.drop q = rd b (q : Int) :: b.drop (q + 1) := by
        rw [List.drop_eq_getElem_cons hq', rd_nat, List.getD_eq_getElem?_getD, List.getElem?_eq_getElem hq']; rfl
      rw [if_pos hx, if_pos (by omega), if_pos (by omega), if_pos (by omega), w64_i q (by omega), ih (i + 1) p (q + 1) k _ hd' (by omega) (by simp [hs]) hp (by omega), hb]
      simp [wv, hx]
    · simp only [cntN, if_neg hx] at hp hq
      have hp' : p < a.length := by omega
      have ha : a.drop p = rd a (p : Int) :: a.drop (p + 1) := by
        rw [List.drop_eq_getElem_cons hp', rd_nat, List.getD_eq_getElem?_getD, List.getElem?_eq_getElem hp']; rfl
      rw [if_neg hx, if_pos (by omega), if_pos (by omega), if_pos (by omega), w64_i p (by omega), ih (i + 1) (p + 1) q k _ hd' (by omega) (by simp [hs]) (by omega) (by omega), ha]
      simp [wv, hx]
theorem spec_Weave_l0 (f a b : List Int) (hf : f.length ≤ 1048576) (ha : a.length ≤ 1048576) (hb : b.length ≤ 1048576) : ∀ (t : List Int) (i c k : Nat), f.drop i = t → t.length + 3001000 < k → c + cntN t = cntN f →
    spec_WeaveData.l0 k f a b [] c f f.length i = some (wvV f a b) := by
  intro t
  induction t with
  | nil =>
    intro i c k hd hk hc
    obtain ⟨k, rfl⟩ : ∃ m, k = m + 2 := ⟨k - 2, by omega⟩
    simp only [cntN, Nat.add_zero] at hc
    have hcl := cntN_le f
    rw [spec_WeaveData.l0, if_neg (drop_nil_info hd), l4Data_eq (k + 1) f (by omega) hf]
    simp only [Option.bind_some]
    cases h1 : datOk f with
    | false => simp [spec_WeaveData.j1, wvV, wvOk, h1]
    | true =>
      rw [if_pos rfl, l4Data_eq (k + 1) a (by omega) ha]
      simp only [Option.bind_some]
      cases h2 : datOk a with
      | false => simp [spec_WeaveData.j1, wvV, wvOk, h2]
      | true =>
        rw [if_pos rfl, l4Data_eq (k + 1) b (by omega) hb]
        simp only [Option.bind_some]
        cases h3 : datOk b with
        | false => simp [spec_WeaveData.j1, wvV, wvOk, h3]
        | true =>
          rw [if_pos rfl]
          by_cases h4 : cntN f = a.length
          case neg => rw [if_neg (by omega), spec_WeaveData.j1, if_pos rfl]; simp [wvV, wvOk, h4]
          rw [if_pos (by omega), w64 (by omega) (by omega), spec_WeaveData.j1]
          by_cases h5 : f.length - cntN f = b.length
          case neg => rw [if_pos (by simp; omega)]; simp [wvV, wvOk, h5]
          have h6 := (datOk_iff.1 h1).1
          rw [if_neg (by simp; omega)]
          have := spec_Weave_l1 f a b h6 ha hb f 0 0 0 k [] (by simp) (by omega) rfl (by omega) (by omega)
          rw [show ((0 : Nat) : Int) = 0 from rfl] at this
          rw [this]; simp [wvV, wvOk, h1, h2, h3, h4]
          omega
  | cons x t ih =>
    intro i c k hd hk hc
    obtain ⟨k, rfl⟩ : ∃ m, k = m + 1 := ⟨k - 1, by omega⟩
    obtain ⟨hi, hr, hd'⟩ := drop_cons_info hd
    have hcl := cntN_le f
    simp only [List.length_cons] at hk
    rw [spec_WeaveData.l0, if_pos (by omega), if_pos (by omega), if_pos (by omega), hr, w64_i i (by omega)]
    by_cases hx : x = 0
    · simp only [cntN, if_pos hx] at hc
      rw [if_pos hx]; exact ih (i + 1) c k hd' (by omega) hc
    · simp only [cntN, if_neg hx] at hc
      rw [if_neg hx, w64_i c (by omega)]; exact ih (i + 1) (c + 1) k hd' (by omega) (by omega)
theorem spec_Weave_eq (k : Nat) (f a b : List Int) (hk : 4049700 ≤ k) (hf : f.length ≤ 1048576) (ha : a.length ≤ 1048576) (hb : b.length ≤ 1048576) : spec_WeaveData.f k f a b = some (wvV f a b) := by
  unfold spec_WeaveData.f
  have := spec_Weave_l0 f a b hf ha hb f 0 0 k (by simp) (by omega) (by omega)
  simpa using this
theorem ofInt_toNat64 (a : Nat) (ha : a < 18446744073709551616) : (BitVec.ofInt 64 (a : Int)).toNat = a := by
  rw [BitVec.ofInt_natCast, BitVec.toNat_ofNat]; exact Nat.mod_eq_of_lt (by omega)
theorem xor_i64 (a b : Nat) (ha : a < 4611686018427387904) (hb : b < 4611686018427387904) : Go.bits .xor .i64 (a : Int) (b : Int) = ((a ^^^ b : Nat) : Int) := by
  have hx : a ^^^ b < 2 ^ 62 := Nat.xor_lt_two_pow (by omega) (by omega)
  show IntKind.i64.wrap ((BitVec.ofInt 64 (a : Int) ^^^ BitVec.ofInt 64 (b : Int)).toNat : Int) = _
  rw [BitVec.toNat_xor, ofInt_toNat64 a (by omega), ofInt_toNat64 b (by omega)]
  simp [IntKind.wrap, IntKind.bits, IntKind.signed]
  omega
theorem xor_nonneg (a b : Int) (h0 : 0 ≤ a) (h1 : a < 4611686018427387904) (h2 : 0 ≤ b) (h3 : b < 4611686018427387904) : 0 ≤ Go.bits .xor .i64 a b := by
  obtain ⟨n, rfl⟩ := Int.eq_ofNat_of_zero_le h0
  obtain ⟨m, rfl⟩ := Int.eq_ofNat_of_zero_le h2
  rw [xor_i64 n m (by omega) (by omega)]; omega
theorem tmod_pos (a b : Int) (h : 0 ≤ a) : Int.tmod a b = a % b := Int.tmod_eq_emod_of_nonneg h
theorem tdiv_pos (a b : Int) (h : 0 ≤ a) : Int.tdiv a b = a / b := Int.tdiv_eq_ediv_of_nonneg h
theorem rd_range {m : Int} {l : List Int} (h : okb m l = true) (i : Int) (h0 : 0 ≤ i) (h1 : i < (l.length : Int)) : 0 ≤ rd l i ∧ rd l i ≤ m := okb_iff.1 h _ (rd_mem h0 h1)
/-- A source of drawn numbers: bytes, and how many have been drawn. -/
def Src (b : List Int) (p : Int) (m : Int) : Prop := okb 255 b = true ∧ b.length ≤ 2000 ∧ 0 ≤ p ∧ p ≤ m ∧ m ≤ 1000000000
theorem Src.mono {b : List Int} {p m m' : Int} (h : Src b p m) (h1 : m ≤ m') (h2 : m' ≤ 1000000000) : Src b p m' := ⟨h.1, h.2.1, h.2.2.1, by have := h.2.2.2.1; omega, h2⟩
theorem pick_any (k : Nat) (b : List Int) (p m n : Int) (hk : 1 ≤ k) (h : Src b p m) (hm : m + 1 ≤ 1000000000) :
    ∃ v, spec_l13Rd_pick.f k b p n = some (v, p + 1) ∧ 0 ≤ v ∧ (1 ≤ n → v < n) ∧ Src b (p + 1) (m + 1) := by
  obtain ⟨h1, h2, h3, h4, h5⟩ := h
  obtain ⟨k, rfl⟩ : ∃ j, k = j + 1 := ⟨k - 1, by omega⟩
  have hS : Src b (p + 1) (m + 1) := ⟨h1, h2, by omega, by omega, hm⟩
  unfold spec_l13Rd_pick.f
  have e0 : wrap64 (p + 1) = p + 1 := w64 (by omega) (by omega)
  have e1 : wrap64 (p + 1 - 1) = p := by rw [w64 (by omega) (by omega)]; omega
  by_cases hn : n < 1
  · rw [if_pos hn, e0, spec_l13Rd_pick.j0, if_pos rfl]
    exact ⟨0, rfl, by omega, fun h => by omega, hS⟩
  rw [if_neg hn, e0, spec_l13Rd_pick.j0]
  by_cases hb : b = []
  · rw [if_pos (by rw [hb]; rfl)]
    exact ⟨0, rfl, by omega, fun h => by omega, hS⟩
  have hbl : 0 < b.length := List.length_pos_iff.2 hb
  rw [if_neg (by simp [hb]), e1]
  have fin : ∀ x : Int, 0 ≤ x → ∃ v, (some (Int.tmod x n, p + 1) : Option (Int × Int)) = some (v, p + 1) ∧ 0 ≤ v ∧ (1 ≤ n → v < n) ∧ Src b (p + 1) (m + 1) := fun x hx =>
    ⟨Int.tmod x n, rfl, by rw [tmod_pos _ _ hx]; exact Int.emod_nonneg _ (by omega), fun _ => by rw [tmod_pos _ _ hx]; exact Int.emod_lt_of_pos _ (by omega), hS⟩
  by_cases hp : p < (b.length : Int)
  · have hr := rd_range h1 p h3 hp
    rw [if_pos hp, if_pos h3, if_neg (by omega), w64 (x := rd b p) (by omega) (by omega)]
    exact fin _ hr.1
  rw [if_neg hp, if_neg (by omega)]
  have q1 : Int.tmod p (b.length : Int) = p % (b.length : Int) := tmod_pos _ _ h3
  have a1 := Int.emod_nonneg p (b := (b.length : Int)) (by omega)
  have a2 := Int.emod_lt_of_pos p (b := (b.length : Int)) (by omega)
  have w7 : wrap64 (wrap64 (p * 7) + 3) = p * 7 + 3 := by rw [w64 (x := p * 7) (by omega) (by omega), w64 (by omega) (by omega)]
  rw [q1, w7]
  have q2 : Int.tmod (p * 7 + 3) (b.length : Int) = (p * 7 + 3) % (b.length : Int) := tmod_pos _ _ (by omega)
  have b1 := Int.emod_nonneg (p * 7 + 3) (b := (b.length : Int)) (by omega)
  have b2 := Int.emod_lt_of_pos (p * 7 + 3) (b := (b.length : Int)) (by omega)
  rw [q2, if_pos a1, if_pos a2, if_pos b1, if_pos b2, if_neg (by omega)]
  have r1 := rd_range h1 _ a1 a2
  have r2 := rd_range h1 _ b1 b2
  have q3 : Int.tdiv p (b.length : Int) = p / (b.length : Int) := tdiv_pos _ _ h3
  have d1 : 0 ≤ p / (b.length : Int) := Int.ediv_nonneg h3 (by omega)
  have d2 : p / (b.length : Int) ≤ p := Int.ediv_le_self _ h3
  generalize rd b (p % (b.length : Int)) = x1 at r1 ⊢
  generalize rd b ((p * 7 + 3) % (b.length : Int)) = x2 at r2 ⊢
  rw [q3]
  generalize p / (b.length : Int) = x3 at d1 d2 ⊢
  rw [w64 (x := x1) (by omega) (by omega), w64 (x := x2) (by omega) (by omega), w64 (x := x3) (by omega) (by omega), w64 (x := x1 * 131) (by omega) (by omega), w64 (x := x2 * 1117) (by omega) (by omega), w64 (x := p * 29) (by omega) (by omega), w64 (x := x3 * 53) (by omega) (by omega),
    w64 (x := x1 * 131 + x2 * 1117) (by omega) (by omega), w64 (x := x1 * 131 + x2 * 1117 + p * 29) (by omega) (by omega), w64 (x := x1 * 131 + x2 * 1117 + p * 29 + x3 * 53) (by omega) (by omega)]
  have z0 : 0 ≤ x1 * 131 + x2 * 1117 + p * 29 + x3 * 53 := by omega
  have z1 : x1 * 131 + x2 * 1117 + p * 29 + x3 * 53 < 4611686018427387904 := by omega
  generalize x1 * 131 + x2 * 1117 + p * 29 + x3 * 53 = z at z0 z1 ⊢
  rw [tdiv_pos _ _ z0, w64 (x := z / 64) (by omega) (by omega)]
  exact fin _ (xor_nonneg _ _ z0 z1 (by omega) (by omega))
theorem num_any (k : Nat) (b : List Int) (p m : Int) (l : List Int) (hk : 1 ≤ k) (h : Src b p m) (hm : m + 1 ≤ 1000000000) (hl : l ≠ []) :
    ∃ v, spec_l13Rd_num.f k b p l = some (v, p + 1) ∧ v ∈ l ∧ Src b (p + 1) (m + 1) := by
  obtain ⟨v, hv, h0, h1, hS⟩ := pick_any k b p m (l.length : Int) hk h hm
  have hll : 0 < l.length := List.length_pos_iff.2 hl
  have h1 := h1 (by omega)
  unfold spec_l13Rd_num.f
  rw [hv]
  simp only [Option.bind_some]
  rw [if_pos h0, if_pos h1]
  exact ⟨rd l v, rfl, rd_mem h0 h1, hS⟩
theorem open_any (c : List Int) (h : okb 255 c = true) (hl : c.length ≤ 1048576) : ∃ b, spec_l13Open.f c = some (b, 0) ∧ Src b 0 0 := by
  unfold spec_l13Open.f
  by_cases h1 : (c.length : Int) > 2000
  · rw [if_pos h1, if_pos (by omega)]
    exact ⟨_, rfl, okb_take h _, by simp; omega, by omega, by omega, by omega⟩
  · rw [if_neg h1]
    exact ⟨_, rfl, h, by omega, by omega, by omega, by omega⟩
theorem wf_u8 {l : List Int} (h : ∀ x ∈ l, (Lit.int .u8 x).wf = true) : okb 255 l = true := by
  rw [okb_iff]; intro n hn
  have := h n hn
  simp [Lit.wf, IntKind.min, IntKind.max, IntKind.signed, IntKind.bits] at this
  omega
theorem l3Draw_l1 (b : List Int) (n i : Nat) (hn : n ≤ 1000) (hi : i < n) (s5 : List Int) (hs5 : s5.length ≤ i + 1)
    (ih : ∀ (k : Nat) (p m : Int) (s6 : List Int), 7 * (n - (i + 1)) + 3 < k → s6.length ≤ 4 * (i + 1) → Src b p m → m + 20 * ((n - (i + 1) : Nat) : Int) ≤ 100000000 → ∃ x u p', spec_l3Draw.l0 k s5 s6 n ((i + 1 : Nat) : Int) b p = some (x, u, p') ∧ x.length ≤ n ∧ u.length ≤ 4 * n ∧ Src b p' (m + 20 * ((n - (i + 1) : Nat) : Int))) :
    ∀ (d j v k : Nat) (p m : Int) (s6 : List Int), d = v - j → v ≤ 4 → j ≤ v → d + (7 * (n - (i + 1)) + 3) + 1 < k → s6.length ≤ 4 * i + j → Src b p m → m + 2 * d + 20 * ((n - (i + 1) : Nat) : Int) ≤ 100000000 →
      ∃ x u p', spec_l3Draw.l1 k s5 s6 n i v j b p = some (x, u, p') ∧ x.length ≤ n ∧ u.length ≤ 4 * n ∧ Src b p' (m + 2 * d + 20 * ((n - (i + 1) : Nat) : Int)) := by
  intro d
  induction d with
  | zero =>
    intro j v k p m s6 hd hv hj hk hs hS hm
    obtain ⟨k, rfl⟩ : ∃ j, k = j + 1 := ⟨k - 1, by omega⟩
    rw [spec_l3Draw.l1, if_neg (by omega), w64_i i (by omega)]
    obtain ⟨x, u, p', e, h1, h2, h3⟩ := ih k p m s6 (by omega) (by omega) hS (by omega)
    exact ⟨x, u, p', e, h1, h2, h3.mono (by omega) (by omega)⟩
  | succ d ihd =>
    intro j v k p m s6 hd hv hj hk hs hS hm
    obtain ⟨k, rfl⟩ : ∃ j, k = j + 1 := ⟨k - 1, by omega⟩
    rw [spec_l3Draw.l1, if_pos (by omega)]
    obtain ⟨q, e0, _, _, hS0⟩ := pick_any k b p m 100 (by omega) hS (by omega)
    rw [e0]; simp only [Option.bind_some]
    obtain ⟨u, e1, _, hS1⟩ := num_any k b (p + 1) (m + 1) [1, 0, 2, 3, 10006, q, 5000] (by omega) hS0 (by omega) (by simp)
    rw [e1]; simp only [Option.bind_some]
    rw [if_pos (by omega), w64_i j (by omega)]
    obtain ⟨x, u', p', e, h1, h2, h3⟩ := ihd (j + 1) v k (p + 1 + 1) (m + 1 + 1) (s6 ++ [u]) (by omega) hv (by omega) (by omega) (by simp; omega) hS1 (by omega)
    exact ⟨x, u', p', e, h1, h2, h3.mono (by omega) (by omega)⟩
theorem l3Draw_l0 (b : List Int) (n : Nat) (hn : n ≤ 1000) : ∀ (d i k : Nat) (p m : Int) (s5 s6 : List Int), d = n - i → i ≤ n → 7 * d + 3 < k → s5.length ≤ i → s6.length ≤ 4 * i → Src b p m → m + 20 * d ≤ 100000000 →
    ∃ x u p', spec_l3Draw.l0 k s5 s6 n i b p = some (x, u, p') ∧ x.length ≤ n ∧ u.length ≤ 4 * n ∧ Src b p' (m + 20 * d) := by
  intro d
  induction d with
  | zero =>
    intro i k p m s5 s6 hd hi hk h5 h6 hS hm
    obtain ⟨k, rfl⟩ : ∃ j, k = j + 1 := ⟨k - 1, by omega⟩
    rw [spec_l3Draw.l0, if_neg (by omega)]
    exact ⟨_, _, _, rfl, by omega, by omega, hS.mono (by omega) (by omega)⟩
  | succ d ih =>
    intro i k p m s5 s6 hd hi hk h5 h6 hS hm
    obtain ⟨k, rfl⟩ : ∃ j, k = j + 1 := ⟨k - 1, by omega⟩
    rw [spec_l3Draw.l0, if_pos (by omega)]
    obtain ⟨v, e1, hv, hS1⟩ := num_any k b p m [2, 0, 1, 3, 0, 4] (by omega) hS (by omega) (by simp)
    rw [e1]; simp only [Option.bind_some]
    rw [if_pos (by omega)]
    obtain ⟨v, rfl, hv3⟩ : ∃ v' : Nat, v = v' ∧ v' ≤ 4 := ⟨v.toNat, by simp at hv; omega, by simp at hv; omega⟩
    obtain ⟨x, u, p', e, h1, h2, h3⟩ := l3Draw_l1 b n i hn (by omega) (s5 ++ [(v : Int)]) (by simp; omega) (fun k p m s6 h1 h2 h3 h4 => by
      obtain ⟨x, u, p', e, g1, g2, g3⟩ := ih (i + 1) k p m (s5 ++ [(v : Int)]) s6 (by omega) (by omega) (by omega) (by simp; omega) (by omega) h3 (by omega)
      exact ⟨x, u, p', e, g1, g2, g3.mono (by omega) (by omega)⟩) v 0 v k (p + 1) (m + 1) s6 (by omega) hv3 (by omega) (by omega) (by omega) hS1 (by omega)
    exact ⟨x, u, p', e, h1, h2, h3.mono (by omega) (by omega)⟩
theorem l3Draw_any (k : Nat) (b : List Int) (p m : Int) (hk : 100 ≤ k) (hS : Src b p m) (hm : m ≤ 1000000) :
    ∃ x u p', spec_l3Draw.f k b p = some (x, u, p') ∧ x.length ≤ 5 ∧ u.length ≤ 20 ∧ Src b p' (m + 200) := by
  unfold spec_l3Draw.f
  obtain ⟨v, e1, h0, h1, hS1⟩ := pick_any k b p m 6 (by omega) hS (by omega)
  have h1 := h1 (by omega)
  rw [e1]; simp only [Option.bind_some]
  obtain ⟨n, rfl⟩ := Int.eq_ofNat_of_zero_le h0
  obtain ⟨x, u, p', e2, h2, h3, h4⟩ := l3Draw_l0 b n (by omega) n 0 k (p + 1) (m + 1) [] [] (by omega) (by omega) (by omega) (by simp) (by simp) hS1 (by omega)
  exact ⟨x, u, p', e2, by omega, by omega, h4.mono (by omega) (by omega)⟩
theorem l3Some_any (k : Nat) (b : List Int) (p m : Int) (hk : 100 ≤ k) (hS : Src b p m) (hm : m ≤ 100000) :
    ∃ x u p', spec_l3Some.f k b p = some (x, u, p') ∧ x.length ≤ 6 ∧ u.length ≤ 400 ∧ Src b p' (m + 300) := by
  unfold spec_l3Some.f
  obtain ⟨x, u, p1, e1, h1, h2, hS1⟩ := l3Draw_any k b p m hk hS (by omega)
  rw [e1]; simp only [Option.bind_some]
  obtain ⟨v, e2, _, _, hS2⟩ := pick_any k b p1 (m + 200) 24 (by omega) hS1 (by omega)
  rw [e2]; simp only [Option.bind_some]
  split
  · obtain ⟨w, e3, _, hS3⟩ := num_any k b (p1 + 1) (m + 200 + 1) [1, -1, 401, 9223372036854775807] (by omega) hS2 (by omega) (by simp)
    rw [e3]; simp only [Option.bind_some]
    rw [if_pos (by omega)]
    exact ⟨_, _, _, rfl, by simp; omega, by omega, hS3.mono (by omega) (by omega)⟩
  split
  · obtain ⟨w, e3, _, hS3⟩ := num_any k b (p1 + 1) (m + 200 + 1) [0, -1, 10007] (by omega) hS2 (by omega) (by simp)
    rw [e3]; simp only [Option.bind_some]
    rw [if_pos (by omega)]
    exact ⟨_, _, _, rfl, by omega, by simp; omega, hS3.mono (by omega) (by omega)⟩
  split
  · rw [if_pos (by omega)]
    exact ⟨_, _, _, rfl, by simp, by rw [List.length_replicate]; omega, hS2.mono (by omega) (by omega)⟩
  · exact ⟨_, _, _, rfl, by omega, by omega, hS2.mono (by omega) (by omega)⟩
theorem drawPick_l0 (b x y : List Int) (n : Nat) : ∀ (d i k : Nat) (p m : Int) (s : List Int), d = n - i → i ≤ n → n ≤ 1000 → d + 2 < k → s.length = i → Src b p m → m + 2 * d ≤ 100000000 →
    ∃ u, spec_DrawPickSegments.l0 k x y s n i b p = some (x, y, u) ∧ u.length ≤ n + 1 := by
  intro d
  induction d with
  | zero =>
    intro i k p m s hd hi hn hk hs hS hm
    obtain ⟨k, rfl⟩ : ∃ j, k = j + 1 := ⟨k - 1, by omega⟩
    rw [spec_DrawPickSegments.l0, if_neg (by omega)]
    obtain ⟨v, e1, _, _, hS1⟩ := pick_any k b p m 12 (by omega) hS (by omega)
    rw [e1]; simp only [Option.bind_some]
    split
    · obtain ⟨u, e2, _, hS2⟩ := num_any k b (p + 1) (m + 1) [-1, (x.length : Int)] (by omega) hS1 (by omega) (by simp)
      rw [e2]; simp only [Option.bind_some]
      rw [if_pos (by omega)]
      exact ⟨_, rfl, by simp; omega⟩
    · exact ⟨_, rfl, by omega⟩
  | succ d ih =>
    intro i k p m s hd hi hn hk hs hS hm
    obtain ⟨k, rfl⟩ : ∃ j, k = j + 1 := ⟨k - 1, by omega⟩
    rw [spec_DrawPickSegments.l0, if_pos (by omega)]
    obtain ⟨u, e2, _, _, hS2⟩ := pick_any k b p m (mx (x.length : Int) 1) (by omega) hS (by omega)
    rw [e2]; simp only [Option.bind_some]
    rw [if_pos (by omega), w64_i i (by omega)]
    exact ih (i + 1) k (p + 1) (m + 1) (s ++ [u]) (by omega) (by omega) hn (by omega) (by simp [hs]) hS2 (by omega)
theorem drawPick_any (k : Nat) (c : List Int) (hk : 1500 ≤ k) (h : okb 255 c = true) (hl : c.length ≤ 1048576) :
    ∃ x y u, spec_DrawPickSegments.f k c = some (x, y, u) ∧ x.length ≤ 1000 ∧ y.length ≤ 1000 ∧ u.length ≤ 1001 := by
  unfold spec_DrawPickSegments.f
  obtain ⟨b, e0, hS⟩ := open_any c h hl
  rw [e0]; simp only [Option.bind_some]
  obtain ⟨x, y, p', e1, h1, h2, hS1⟩ := l3Some_any k b 0 0 (by omega) hS (by omega)
  rw [e1]; simp only [Option.bind_some]
  obtain ⟨v, e2, g0, g1, hS2⟩ := pick_any k b p' (0 + 300) 5 (by omega) hS1 (by omega)
  have g1 := g1 (by omega)
  rw [e2]; simp only [Option.bind_some]
  obtain ⟨n, rfl⟩ := Int.eq_ofNat_of_zero_le g0
  obtain ⟨u, e3, h4⟩ := drawPick_l0 b x y n n 0 k (p' + 1) (0 + 300 + 1) [] (by omega) (by omega) (by omega) (by omega) rfl hS2 (by omega)
  exact ⟨x, y, u, e3, by omega, by omega, by omega⟩
theorem drawWeave_l0 (b : List Int) (n : Nat) : ∀ (d i k : Nat) (p m : Int) (s1 s2 s3 : List Int), d = n - i → i ≤ n → n ≤ 1000 → d + 2 < k → s1.length ≤ i → s2.length ≤ i → s3.length ≤ i → Src b p m → m + 2 * d ≤ 100000000 →
    ∃ x y u, spec_DrawWeaveData.l0 k s1 s2 s3 n i b p = some (x, y, u) ∧ x.length ≤ n + 1 ∧ y.length ≤ n + 1 ∧ u.length ≤ n + 1 := by
  intro d
  induction d with
  | zero =>
    intro i k p m s1 s2 s3 hd hi hn hk h1 h2 h3 hS hm
    obtain ⟨k, rfl⟩ : ∃ j, k = j + 1 := ⟨k - 1, by omega⟩
    rw [spec_DrawWeaveData.l0, if_neg (by omega)]
    obtain ⟨v, e1, _, _, hS1⟩ := pick_any k b p m 10 (by omega) hS (by omega)
    rw [e1]; simp only [Option.bind_some]
    split
    · obtain ⟨u, e2, _, hS2⟩ := num_any k b (p + 1) (m + 1) [1, -1] (by omega) hS1 (by omega) (by simp)
      rw [e2]; simp only [Option.bind_some]
      rw [if_pos (by omega)]
      exact ⟨_, _, _, rfl, by omega, by simp; omega, by omega⟩
    · exact ⟨_, _, _, rfl, by omega, by omega, by omega⟩
  | succ d ih =>
    intro i k p m s1 s2 s3 hd hi hn hk h1 h2 h3 hS hm
    obtain ⟨k, rfl⟩ : ∃ j, k = j + 1 := ⟨k - 1, by omega⟩
    rw [spec_DrawWeaveData.l0, if_pos (by omega)]
    obtain ⟨v, e1, _, hS1⟩ := num_any k b p m [1, 0, 3, 0] (by omega) hS (by omega) (by simp)
    rw [e1]; simp only [Option.bind_some]
    rw [if_pos (by omega)]
    obtain ⟨q, e2, _, _, hS2⟩ := pick_any k b (p + 1) (m + 1) 100 (by omega) hS1 (by omega)
    split
    · rw [e2]; simp only [Option.bind_some]
      rw [if_pos (by omega), w64_i i (by omega)]
      exact ih (i + 1) k (p + 1 + 1) (m + 1 + 1) (s1 ++ [v]) s2 (s3 ++ [q]) (by omega) (by omega) hn (by omega) (by simp; omega) (by omega) (by simp; omega) hS2 (by omega)
    · rw [e2]; simp only [Option.bind_some]
      rw [if_pos (by omega), w64_i i (by omega)]
      exact ih (i + 1) k (p + 1 + 1) (m + 1 + 1) (s1 ++ [v]) (s2 ++ [q]) s3 (by omega) (by omega) hn (by omega) (by simp; omega) (by simp; omega) (by omega) hS2 (by omega)
theorem drawWeave_any (k : Nat) (c : List Int) (hk : 200 ≤ k) (h : okb 255 c = true) (hl : c.length ≤ 1048576) :
    ∃ x y u, spec_DrawWeaveData.f k c = some (x, y, u) ∧ x.length ≤ 1000 ∧ y.length ≤ 1000 ∧ u.length ≤ 1001 := by
  unfold spec_DrawWeaveData.f
  obtain ⟨b, e0, hS⟩ := open_any c h hl
  rw [e0]; simp only [Option.bind_some]
  obtain ⟨v, e2, g0, g1, hS2⟩ := pick_any k b 0 0 8 (by omega) hS (by omega)
  have g1 := g1 (by omega)
  rw [e2]; simp only [Option.bind_some]
  obtain ⟨n, rfl⟩ := Int.eq_ofNat_of_zero_le g0
  obtain ⟨x, y, u, e3, h4, h5, h6⟩ := drawWeave_l0 b n n 0 k (0 + 1) (0 + 1) [] [] [] (by omega) (by omega) (by omega) (by omega) (by simp) (by simp) (by simp) hS2 (by omega)
  exact ⟨x, y, u, e3, by omega, by omega, by omega⟩
theorem segs_take (u : List Int) : ∀ (y : List Int) (n : Nat), (segs u y).take n = segs (u.take n) y := by
  induction u with
  | nil => intro y n; simp [segs]
  | cons a t ih =>
    intro y n
    cases n with
    | zero => simp [segs]
    | succ n => simp [segs, ih]
theorem segs_drop (u : List Int) (hu : okb 400 u = true) : ∀ (y : List Int) (n : Nat), (segs u y).drop n = segs (u.drop n) (y.drop (tot (u.take n)).toNat) := by
  induction u with
  | nil => intro y n; simp [segs]
  | cons a t ih =>
    intro y n
    obtain ⟨h0, h1, h2⟩ := okb_tail hu
    cases n with
    | zero => simp [segs, tot]
    | succ n =>
      have h3 := tot_nonneg (okb_take h2 n)
      simp only [segs, List.drop_succ_cons, List.take_succ_cons, tot, ih h2, List.drop_drop]
      congr 2; omega
theorem tot_segs (w : List Int) (hw : okb 400 w = true) : ∀ y : List Int, tot ((segs w y).map tot) = tot (y.take (tot w).toNat) := by
  induction w with
  | nil => intro y; simp [segs, tot]
  | cons a t ih =>
    intro y
    obtain ⟨h0, h1, h2⟩ := okb_tail hw
    have h3 := tot_nonneg h2
    simp only [segs, List.map_cons, tot, ih h2]
    rw [← tot_append]
    congr 1
    rw [show (a + tot t).toNat = a.toNat + (tot t).toNat from by omega, List.take_add]
theorem sum_segs (w : List Int) (hw : okb 400 w = true) : ∀ y : List Int, sumM ((segs w y).map sumM) = sumM (y.take (tot w).toNat) := by
  induction w with
  | nil => intro y; simp [segs, tot]
  | cons a t ih =>
    intro y
    obtain ⟨h0, h1, h2⟩ := okb_tail hw
    have h3 := tot_nonneg h2
    have e := ih h2 (y.drop a.toNat)
    have e2 : tot (y.take (a + tot t).toNat) = tot (y.take a.toNat) + tot ((y.drop a.toNat).take (tot t).toNat) := by
      rw [← tot_append, show (a + tot t).toNat = a.toNat + (tot t).toNat from by omega, List.take_add]
    simp only [segs, List.map_cons, sumM, tot] at e ⊢
    rw [e2]
    omega
theorem segs_segs (x : List Int) (hx : okb 400 x = true) : ∀ (u y : List Int), okb 400 u = true → (segs x ((segs u y).map sumM)).map sumM = (segs ((segs x u).map tot) y).map sumM := by
  induction x with
  | nil => intro u y _; simp [segs]
  | cons a t ih =>
    intro u y hu
    obtain ⟨h0, h1, h2⟩ := okb_tail hx
    have e := ih h2 (u.drop a.toNat) (y.drop (tot (u.take a.toNat)).toNat) (okb_drop hu _)
    simp only [segs, List.map_cons]
    rw [← List.map_take, segs_take, sum_segs _ (okb_take hu _), ← List.map_drop, segs_drop u hu, e]
theorem okb_of_tot {m : Int} {l : List Int} (h : ∀ n ∈ l, 0 ≤ n) (ht : tot l ≤ m) : okb m l = true := by
  induction l generalizing m with
  | nil => rfl
  | cons a t ih =>
    have h0 := h a (by simp)
    have h1 : ∀ n ∈ t, 0 ≤ n := fun n hn => h n (by simp [hn])
    simp only [tot] at ht
    have h2 := ih h1 (Int.le_refl _)
    have h3 := tot_nonneg h2
    rw [okb_cons, okb_le h2 (show tot t ≤ m by omega)]
    simp; omega
/-- What was merged is lengths again. -/
theorem merged_ok {x u : List Int} (h : merOk x u = true) : lenOk ((segs x u).map tot) = true ∧ tot ((segs x u).map tot) = tot u := by
  obtain ⟨h1, h2, h3⟩ := merOk_iff.1 h
  obtain ⟨a1, a2, a3⟩ := lenOk_iff.1 h1
  obtain ⟨b1, b2, b3⟩ := lenOk_iff.1 h2
  have e : tot ((segs x u).map tot) = tot u := by
    rw [tot_segs x a2, List.take_of_length_le (by omega)]
  refine ⟨lenOk_iff.2 ⟨by simp [segs_length]; omega, okb_of_tot ?_ (by omega), by omega⟩, e⟩
  intro n hn
  obtain ⟨s, hs, rfl⟩ := List.mem_map.1 hn
  exact tot_nonneg (okb_mem_segs b2 hs)
theorem sumM_range {l : List Int} : 0 ≤ sumM l ∧ sumM l ≤ 10006 := by
  unfold sumM; omega
theorem sums_data {u y : List Int} (hu : u.length ≤ 400) : datOk ((segs u y).map sumM) = true := by
  refine datOk_iff.2 ⟨by simp [segs_length]; omega, okb_iff.2 ?_⟩
  intro n hn
  obtain ⟨s, _, rfl⟩ := List.mem_map.1 hn
  exact sumM_range
theorem okb_set {m : Int} {l : List Int} (h : okb m l = true) (i : Nat) (v : Int) (h0 : 0 ≤ v) (h1 : v ≤ m) : okb m (l.set i v) = true := by
  rw [okb_iff] at h ⊢
  intro n hn
  rcases List.mem_or_eq_of_mem_set hn with hn | rfl
  · exact h n hn
  · exact ⟨h0, h1⟩
theorem okb_rep0 (m : Int) (n : Nat) (h : 0 ≤ m) : okb m (List.replicate n 0) = true := by
  rw [okb_iff]; intro x hx
  rw [List.mem_replicate] at hx
  omega
theorem drop_uncons_rd {l : List Int} {i : Nat} (h : i < l.length) : l.drop i = rd l (i : Int) :: l.drop (i + 1) := by
  rw [List.drop_eq_getElem_cons h, rd_nat, List.getD_eq_getElem?_getD, List.getElem?_eq_getElem h]; rfl
end Go.Proofs.Ytnehpbkjmmadkaa.Pw
