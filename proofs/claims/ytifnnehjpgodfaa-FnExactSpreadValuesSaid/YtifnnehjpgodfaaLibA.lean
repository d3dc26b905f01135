/-
  Plain lemmas on lists and numbers, for the loops of the printed functions.
-/
import Derived.Test.YtifnnehjpgodfaaPrint1
namespace Go.Proofs.Ytifnnehjpgodfaa.Print
open Go.RowKit Go.Proofs.YtifnnehjpgodfaaW.PrintWords Go.Proofs.YtifnnehjpgodfaaW.PrintLast
set_option linter.unusedVariables false
set_option linter.unusedSimpArgs false
theorem w64 {x : Int} (h0 : -9223372036854775808 ≤ x) (h1 : x ≤ 9223372036854775807) : wrap64 x = x := by unfold wrap64; omega
theorem w64_nat {x : Int} (h0 : 0 ≤ x) (h1 : x ≤ 9223372036854775807) : wrap64 x = x := w64 (by omega) h1
theorem w64_i (i : Nat) (h : i ≤ 9223372036854775806) : wrap64 ((i : Int) + 1) = ((i + 1 : Nat) : Int) := by rw [w64 (by omega) (by omega)]; omega
theorem rd_nat (l : List Int) (i : Nat) : rd l (i : Int) = l.getD i 0 := by simp [rd]
theorem drop_cons_info {l : List Int} {i : Nat} {a : Int} {t : List Int} (h : l.drop i = a :: t) : i < l.length ∧ rd l (i : Int) = a ∧ l.drop (i + 1) = t := by
  have hi : i < l.length := by
    rcases Nat.lt_or_ge i l.length with h1 | h1
    · exact h1
    · rw [List.drop_eq_nil_of_le h1] at h; cases h
  rw [List.drop_eq_getElem_cons hi] at h
  injection h with h1 h2
  refine ⟨hi, ?_, h2⟩
  rw [rd_nat, List.getD_eq_getElem?_getD, List.getElem?_eq_getElem hi]
  exact h1
theorem drop_nil_info {α : Type} {l : List α} {i : Nat} (h : l.drop i = []) : ¬ ((i : Int) < (l.length : Int)) := by
  have := List.drop_eq_nil_iff.1 h
  omega
theorem mn_def (a b : Int) : mn a b = if a ≤ b then a else b := by unfold mn; split <;> split <;> omega
theorem getD_mem {l : List Int} {i : Nat} (h : i < l.length) : l.getD i 0 ∈ l := by
  rw [List.getD_eq_getElem?_getD, List.getElem?_eq_getElem h]; exact List.getElem_mem h
theorem rd_mem {l : List Int} {i : Int} (h0 : 0 ≤ i) (h : i < (l.length : Int)) : rd l i ∈ l := by
  obtain ⟨n, rfl⟩ := Int.eq_ofNat_of_zero_le h0
  rw [rd_nat]; exact getD_mem (by omega)
/-- The sum of numbers. -/
def tot : List Int → Int
  | [] => 0
  | a :: t => a + tot t
theorem tot_append (a b : List Int) : tot (a ++ b) = tot a + tot b := by
  induction a with
  | nil => simp [tot]
  | cons x t ih => simp only [List.cons_append, tot, ih]; omega
/-- All numbers lie from 0 to m. -/
def okb (m : Int) (l : List Int) : Bool := l.all fun n => decide (0 ≤ n) && decide (n ≤ m)
theorem okb_iff {m : Int} {l : List Int} : okb m l = true ↔ ∀ n ∈ l, 0 ≤ n ∧ n ≤ m := by
  simp [okb, List.all_eq_true]
theorem okb_nil (m : Int) : okb m [] = true := rfl
theorem okb_cons (m a : Int) (t : List Int) : okb m (a :: t) = (decide (0 ≤ a ∧ a ≤ m) && okb m t) := by
  simp [okb, Bool.decide_and]
theorem tot_nonneg {m : Int} {l : List Int} (h : okb m l = true) : 0 ≤ tot l := by
  rw [okb_iff] at h
  induction l with
  | nil => simp [tot]
  | cons a t ih =>
    have := h a (by simp)
    have := ih (fun n hn => h n (by simp [hn]))
    simp only [tot]; omega
theorem tot_le {m : Int} {l : List Int} (h : okb m l = true) : tot l ≤ m * l.length := by
  rw [okb_iff] at h
  induction l with
  | nil => simp [tot]
  | cons a t ih =>
    have h1 := h a (by simp)
    have h2 := ih (fun n hn => h n (by simp [hn]))
    simp only [tot, List.length_cons]
    have : m * ((t.length + 1 : Nat) : Int) = m * t.length + m := by rw [Int.natCast_add, Int.mul_add]; simp
    omega
theorem okb_drop {m : Int} {l : List Int} (h : okb m l = true) (i : Nat) : okb m (l.drop i) = true := by
  rw [okb_iff] at h ⊢; exact fun n hn => h n (List.mem_of_mem_drop hn)
theorem okb_take {m : Int} {l : List Int} (h : okb m l = true) (i : Nat) : okb m (l.take i) = true := by
  rw [okb_iff] at h ⊢; exact fun n hn => h n (List.mem_of_mem_take hn)
/-- n, n + 1, .. -/
def ramp (n : Int) : Nat → List Int
  | 0 => []
  | k + 1 => n :: ramp (n + 1) k
theorem ramp_length (n : Int) (k : Nat) : (ramp n k).length = k := by
  induction k generalizing n with
  | zero => rfl
  | succ k ih => simp [ramp, ih]
theorem idxOut_neg (m : Int) (l : List Int) (d : Nat) : ∀ i, l.length - i = d → (decide (idxOut m l i < 0) = okb m (l.drop i)) := by
  induction d with
  | zero =>
    intro i hi
    rw [idxOut_end m l i (by omega), List.drop_eq_nil_of_le (by omega)]; rfl
  | succ d ih =>
    intro i hi
    have hlt : i < l.length := by omega
    have hd : l.drop i = rd l i :: l.drop (i + 1) := by
      rw [List.drop_eq_getElem_cons hlt, rd_nat, List.getD_eq_getElem?_getD, List.getElem?_eq_getElem hlt]; rfl
    rw [hd, okb_cons]
    cases ho : outB m (rd l i) with
    | true =>
      rw [idxOut_hit m l i hlt ho]
      rw [outB_def] at ho
      have hne : ¬ (0 ≤ rd l i ∧ rd l i ≤ m) := by
        intro h
        simp [show ¬ rd l (i : Int) < 0 from by omega, show ¬ m < rd l (i : Int) from by omega] at ho
      rw [decide_eq_false hne, Bool.false_and]
      exact decide_eq_false (by omega)
    | false =>
      rw [idxOut_next m l i hlt ho, ih (i + 1) (by omega)]
      rw [outB_def] at ho
      have hy : (0 ≤ rd l i ∧ rd l i ≤ m) := by
        simp at ho; omega
      rw [decide_eq_true hy, Bool.true_and]
theorem within_eq (l : List Int) (m : Int) (hl : l.length ≤ 1048576) : impl_within.f l m = some (okb m l) := by
  unfold impl_within.f
  rw [if_pos (by omega), idxOut_neg m l l.length 0 (by omega), List.drop_zero]
theorem impl_total_l0 (l : List Int) (hl : l.length ≤ 1048576) (hok : okb 1048576 l = true) : ∀ (t : List Int) (i k : Nat) (s : Int), l.drop i = t → t.length < k → 0 ≤ s → s ≤ 1048576 * i →
    impl_total.l0 k s l l.length i = some (s + tot t) := by
  intro t
  induction t with
  | nil =>
    intro i k s hd hk hs hs2
    obtain ⟨k, rfl⟩ : ∃ m, k = m + 1 := ⟨k - 1, by simp at hk; omega⟩
    rw [impl_total.l0, if_neg (drop_nil_info hd)]; simp [tot]
  | cons a t ih =>
    intro i k s hd hk hs hs2
    obtain ⟨k, rfl⟩ : ∃ m, k = m + 1 := ⟨k - 1, by simp at hk; omega⟩
    obtain ⟨hi, hr, hd'⟩ := drop_cons_info hd
    have hb := okb_iff.1 hok a (by rw [← hr, rd_nat]; exact getD_mem hi)
    simp only [List.length_cons] at hk
    rw [impl_total.l0, if_pos (by omega), if_pos (by omega), if_pos (by omega), hr, w64 (by omega) (by omega), w64_i i (by omega), ih (i + 1) k (s + a) hd' (by omega) (by omega) (by omega)]
    simp only [tot]; congr 1; omega
theorem total_eq (k : Nat) (l : List Int) (hk : 3000000 ≤ k) (hl : l.length ≤ 1048576) (hok : okb 1048576 l = true) : impl_total.f k l = some (tot l) := by
  unfold impl_total.f
  have := impl_total_l0 l hl hok l 0 k 0 (by simp) (by omega) (by omega) (by omega)
  simpa using this
/-- Only what is bound is looked into, not what follows. -/
theorem obind_congr {α β : Type} {a b : Option α} {f : α → Option β} (h : a = b) : a.bind f = b.bind f := by rw [h]
end Go.Proofs.Ytifnnehjpgodfaa.Print
