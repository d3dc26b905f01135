/-
  Plain lemmas on what the functions compute: lists and numbers alone.
-/
import Derived.Test.YtnehpbkjmmadkaaPrint1
import Derived.Test.YtnehpbkjmmadkaaPrint2
import Derived.Test.YtnehpbkjmmadkaaPrint3
import Derived.Test.YtnehpbkjmmadkaaPrint4
namespace Go.Proofs.Ytnehpbkjmmadkaa.Print
open Go.RowKit Go.Proofs.YtnehpbkjmmadkaaW.PrintWords Go.Proofs.YtnehpbkjmmadkaaW.PrintLast Go.Proofs.YtnehpbkjmmadkaaW.PrintMore
set_option linter.unusedVariables false
set_option linter.unusedSimpArgs false
theorem w64 {x : Int} (h0 : -9223372036854775808 ≤ x) (h1 : x ≤ 9223372036854775807) : wrap64 x = x := by unfold wrap64; omega
theorem w64_nat {x : Int} (h0 : 0 ≤ x) (h1 : x ≤ 9223372036854775807) : wrap64 x = x := w64 (by omega) h1
theorem w64_i (i : Nat) (h : i ≤ 9223372036854775806) : wrap64 ((i : Int) + 1) = ((i + 1 : Nat) : Int) := by rw [w64 (by omega) (by omega)]; omega
theorem rd_nat (l : List Int) (i : Nat) : rd l (i : Int) = l.getD i 0 := by simp [rd]
theorem drop_cons_info {l : List Int} {i : Nat} {a : Int} {t : List Int} (h : l.drop i = a :: t) : i < l.length ∧ rd l (i : Int) = a ∧ l.drop (i + 1) = t := by
  have hi : i < l.length := by
    rcases Nat.lt_or_ge i l.length with h1 | h1
    · exact h1
    · rw [List.drop_eq_nil_of_le h1] at h; cases h
  rw [List.drop_eq_getElem_cons hi] at h
  injection h with h1 h2
  refine ⟨hi, ?_, h2⟩
  rw [rd_nat, List.getD_eq_getElem?_getD, List.getElem?_eq_getElem hi]
  exact h1
theorem drop_nil_info {α : Type} {l : List α} {i : Nat} (h : l.drop i = []) : ¬ ((i : Int) < (l.length : Int)) := by
  have := List.drop_eq_nil_iff.1 h
  omega
theorem mn_def (a b : Int) : mn a b = if a ≤ b then a else b := by unfold mn; split <;> split <;> omega
theorem getD_mem {l : List Int} {i : Nat} (h : i < l.length) : l.getD i 0 ∈ l := by
  rw [List.getD_eq_getElem?_getD, List.getElem?_eq_getElem h]; exact List.getElem_mem h
theorem rd_mem {l : List Int} {i : Int} (h0 : 0 ≤ i) (h : i < (l.length : Int)) : rd l i ∈ l := by
  obtain ⟨n, rfl⟩ := Int.eq_ofNat_of_zero_le h0
  rw [rd_nat]; exact getD_mem (by omega)
/-- The sum of numbers. -/
def tot : List Int → Int
  | [] => 0
  | a :: t => a + tot t
theorem tot_append (a b : List Int) : tot (a ++ b) = tot a + tot b := by
  induction a with
  | nil => simp [tot]
  | cons x t ih => simp only [List.cons_append, tot, ih]; omega
/-- All numbers lie from 0 to m. -/
def okb (m : Int) (l : List Int) : Bool := l.all fun n => decide (0 ≤ n) && decide (n ≤ m)
theorem okb_iff {m : Int} {l : List Int} : okb m l = true ↔ ∀ n ∈ l, 0 ≤ n ∧ n ≤ m := by
  simp [okb, List.all_eq_true]
theorem okb_nil (m : Int) : okb m [] = true := rfl
theorem okb_cons (m a : Int) (t : List Int) : okb m (a :: t) = (decide (0 ≤ a ∧ a ≤ m) && okb m t) := by
  simp [okb, Bool.decide_and]
theorem tot_nonneg {m : Int} {l : List Int} (h : okb m l = true) : 0 ≤ tot l := by
  rw [okb_iff] at h
  induction l with
  | nil => simp [tot]
  | cons a t ih =>
    have := h a (by simp)
    have := ih (fun n hn => h n (by simp [hn]))
    simp only [tot]; omega
theorem tot_le {m : Int} {l : List Int} (h : okb m l = true) : tot l ≤ m * l.length := by
  rw [okb_iff] at h
  induction l with
  | nil => simp [tot]
  | cons a t ih =>
    have h1 := h a (by simp)
    have h2 := ih (fun n hn => h n (by simp [hn]))
    simp only [tot, List.length_cons]
    have : m * ((t.length + 1 : Nat) : Int) = m * t.length + m := by rw [Int.natCast_add, Int.mul_add]; simp
    omega
theorem okb_drop {m : Int} {l : List Int} (h : okb m l = true) (i : Nat) : okb m (l.drop i) = true := by
  rw [okb_iff] at h ⊢; exact fun n hn => h n (List.mem_of_mem_drop hn)
theorem okb_take {m : Int} {l : List Int} (h : okb m l = true) (i : Nat) : okb m (l.take i) = true := by
  rw [okb_iff] at h ⊢; exact fun n hn => h n (List.mem_of_mem_take hn)
/-- n, n + 1, .. -/
def ramp (n : Int) : Nat → List Int
  | 0 => []
  | k + 1 => n :: ramp (n + 1) k
theorem ramp_length (n : Int) (k : Nat) : (ramp n k).length = k := by
  induction k generalizing n with
  | zero => rfl
  | succ k ih => simp [ramp, ih]
theorem idxOut_neg (m : Int) (l : List Int) (d : Nat) : ∀ i, l.length - i = d → (decide (idxOut m l i < 0) = okb m (l.drop i)) := by
  induction d with
  | zero =>
    intro i hi
    rw [idxOut_end m l i (by omega), List.drop_eq_nil_of_le (by omega)]; rfl
  | succ d ih =>
    intro i hi
    have hlt : i < l.length := by omega
    have hd : l.drop i = rd l i :: l.drop (i + 1) := by
      rw [List.drop_eq_getElem_cons hlt, rd_nat, List.getD_eq_getElem?_getD, List.getElem?_eq_getElem hlt]; rfl
    rw [hd, okb_cons]
    cases ho : outB m (rd l i) with
    | true =>
      rw [idxOut_hit m l i hlt ho]
      rw [outB_def] at ho
      have hne : ¬ (0 ≤ rd l i ∧ rd l i ≤ m) := by
        intro h
        simp [show ¬ rd l (i : Int) < 0 from by omega, show ¬ m < rd l (i : Int) from by omega] at ho
      rw [decide_eq_false hne, Bool.false_and]
      exact decide_eq_false (by omega)
    | false =>
      rw [idxOut_next m l i hlt ho, ih (i + 1) (by omega)]
      rw [outB_def] at ho
      have hy : (0 ≤ rd l i ∧ rd l i ≤ m) := by
        simp at ho; omega
      rw [decide_eq_true hy, Bool.true_and]
theorem within_eq (l : List Int) (m : Int) (hl : l.length ≤ 1048576) : impl_within.f l m = some (okb m l) := by
  unfold impl_within.f
  rw [if_pos (by omega), idxOut_neg m l l.length 0 (by omega), List.drop_zero]
theorem impl_total_l0 (l : List Int) (hl : l.length ≤ 1048576) (hok : okb 1048576 l = true) : ∀ (t : List Int) (i k : Nat) (s : Int), l.drop i = t → t.length < k → 0 ≤ s → s ≤ 1048576 * i →
    impl_total.l0 k s l l.length i = some (s + tot t) := by
  intro t
  induction t with
  | nil =>
    intro i k s hd hk hs hs2
    obtain ⟨k, rfl⟩ : ∃ m, k = m + 1 := ⟨k - 1, by simp at hk; omega⟩
    rw [impl_total.l0, if_neg (drop_nil_info hd)]; simp [tot]
  | cons a t ih =>
    intro i k s hd hk hs hs2
    obtain ⟨k, rfl⟩ : ∃ m, k = m + 1 := ⟨k - 1, by simp at hk; omega⟩
    obtain ⟨hi, hr, hd'⟩ := drop_cons_info hd
    have hb := okb_iff.1 hok a (by rw [← hr, rd_nat]; exact getD_mem hi)
    simp only [List.length_cons] at hk
    rw [impl_total.l0, if_pos (by omega), if_pos (by omega), if_pos (by omega), hr, w64 (by omega) (by omega), w64_i i (by omega), ih (i + 1) k (s + a) hd' (by omega) (by omega) (by omega)]
    simp only [tot]; congr 1; omega
theorem total_eq (k : Nat) (l : List Int) (hk : 3000000 ≤ k) (hl : l.length ≤ 1048576) (hok : okb 1048576 l = true) : impl_total.f k l = some (tot l) := by
  unfold impl_total.f
  have := impl_total_l0 l hl hok l 0 k 0 (by simp) (by omega) (by omega) (by omega)
  simpa using this
/-- Only what is bound is looked into, not what follows. -/
theorem obind_congr {α β : Type} {a b : Option α} {f : α → Option β} (h : a = b) : a.bind f = b.bind f := by rw [h]
theorem toIntS_l0 (l : List Int) (hl : l.length ≤ 1048576) : ∀ (t : List Int) (i k : Nat) (s : List Int), l.drop i = t → t.length < k → i ≤ l.length → s = l.take i ++ List.replicate (l.length - i) 0 →
    laws_toIntS.l0 k l s i = some l := by
  intro t
  induction t with
  | nil =>
    intro i k s hd hk hi hs
    obtain ⟨k, rfl⟩ : ∃ m, k = m + 1 := ⟨k - 1, by simp at hk; omega⟩
    have h := drop_nil_info hd
    have hil : i = l.length := by omega
    rw [laws_toIntS.l0, if_neg h, hs, hil]; simp
  | cons a t ih =>
    intro i k s hd hk hi hs
    obtain ⟨k, rfl⟩ : ∃ m, k = m + 1 := ⟨k - 1, by simp at hk; omega⟩
    obtain ⟨hi', hr, hd'⟩ := drop_cons_info hd
    simp only [List.length_cons] at hk
    have hsl : s.length = l.length := by rw [hs]; simp; omega
    rw [laws_toIntS.l0, if_pos (by omega), if_pos (by omega), if_pos (by omega), w64_i i (by omega), hr]
    refine ih (i + 1) k _ hd' (by omega) (by omega) ?_
    rw [hs, Int.toNat_natCast]
    have ht : l.take (i + 1) = l.take i ++ [a] := by
      rw [List.take_succ_eq_append_getElem hi', ← hr, rd_nat, List.getD_eq_getElem?_getD, List.getElem?_eq_getElem hi']; rfl
    have hlt : (l.take i).length = i := by simp; omega
    rw [ht, List.set_append, if_neg (by omega), hlt, Nat.sub_self, show l.length - i = (l.length - (i + 1)) + 1 from by omega, List.replicate_succ, List.set_cons_zero, List.append_assoc]
    rfl
theorem toIntS_eq (k : Nat) (l : List Int) (hk : 3000000 ≤ k) (hl : l.length ≤ 1048576) : laws_toIntS.f k l = some l := by
  unfold laws_toIntS.f
  rw [if_pos (by omega), if_pos (by omega)]
  exact toIntS_l0 l hl l 0 k _ (by simp) (by omega) (by omega) (by simp)
theorem eqIntS_l0 (a b : List Int) (hl : a.length ≤ 1048576) (hab : a.length = b.length) : ∀ (t u : List Int) (i k : Nat), a.drop i = t → b.drop i = u → t.length < k →
    laws_eqIntS.l0 k a b i = some (decide (t = u)) := by
  intro t
  induction t with
  | nil =>
    intro u i k hd hu hk
    obtain ⟨k, rfl⟩ : ∃ m, k = m + 1 := ⟨k - 1, by simp at hk; omega⟩
    have : u = [] := by rw [← hu]; exact List.drop_eq_nil_of_le (by have := List.drop_eq_nil_iff.1 hd; omega)
    rw [laws_eqIntS.l0, if_neg (drop_nil_info hd), this]; simp
  | cons x t ih =>
    intro u i k hd hu hk
    obtain ⟨k, rfl⟩ : ∃ m, k = m + 1 := ⟨k - 1, by simp at hk; omega⟩
    obtain ⟨hi', hr, hd'⟩ := drop_cons_info hd
    simp only [List.length_cons] at hk
    cases u with
    | nil => have := List.drop_eq_nil_iff.1 hu; omega
    | cons y u =>
      obtain ⟨hj', hr2, hu'⟩ := drop_cons_info hu
      rw [laws_eqIntS.l0, if_pos (by omega), if_pos (by omega), if_pos (by omega), hr, hr2, w64_i i (by omega)]
      by_cases hxy : x = y
      · rw [if_pos hxy, ih u (i + 1) k hd' hu' (by omega)]; simp [hxy]
      · rw [if_neg hxy]; simp [hxy]
theorem eqIntS_eq (k : Nat) (a b : List Int) (hk : 3000000 ≤ k) (hl : a.length ≤ 1048576) : laws_eqIntS.f k a b = some (decide (a = b)) := by
  unfold laws_eqIntS.f
  by_cases h : a.length = b.length
  · rw [if_pos (by omega)]
    have := eqIntS_l0 a b hl h a b 0 k (by simp) (by simp) (by omega)
    simpa using this
  · rw [if_neg (by omega)]
    have : a ≠ b := fun e => h (by rw [e])
    simp [this]
theorem markIntS_l0 (n0 : Nat) (hn : n0 ≤ 1048576) : ∀ (d i k : Nat) (s : List Int) (m : Int), s.length = n0 → d = n0 - i → i ≤ n0 → d < k → 0 ≤ m → m + d ≤ 1152921504606846976 →
    laws_markIntS.l0 k s m i = some (m + d, s.take i ++ ramp m d) := by
  intro d
  induction d with
  | zero =>
    intro i k s m hs hd hi hk h0 h1
    obtain ⟨k, rfl⟩ : ∃ m, k = m + 1 := ⟨k - 1, by omega⟩
    rw [laws_markIntS.l0, if_neg (by omega)]
    simp only [ramp, List.append_nil]
    rw [List.take_of_length_le (by omega)]; simp
  | succ d ih =>
    intro i k s m hs hd hi hk h0 h1
    obtain ⟨k, rfl⟩ : ∃ m, k = m + 1 := ⟨k - 1, by omega⟩
    rw [laws_markIntS.l0, if_pos (by omega), if_pos (by omega), w64_i i (by omega), w64 (by omega) (by omega), Int.toNat_natCast]
    rw [ih (i + 1) k (s.set i m) (m + 1) (by simp [hs]) (by omega) (by omega) (by omega) (by omega) (by omega)]
    have ht : (s.set i m).take (i + 1) = s.take i ++ [m] := by
      rw [List.take_succ_eq_append_getElem (by simp; omega), List.getElem_set_self, List.take_set_of_le (Nat.le_refl _)]
    rw [ht, ramp, List.append_assoc]
    congr 2; omega
theorem markIntS_eq (k : Nat) (l : List Int) (m : Int) (hk : 3000000 ≤ k) (hl : l.length ≤ 1048576) (h0 : 0 ≤ m) (h1 : m ≤ 4611686018427387) : laws_markIntS.f k l m = some (m + l.length, ramp m l.length) := by
  unfold laws_markIntS.f
  have := markIntS_l0 l.length hl l.length 0 k l m rfl (by omega) (by omega) (by omega) h0 (by omega)
  simpa using this
theorem heldIntS_l0 (l : List Int) (hl : l.length ≤ 1048576) : ∀ (d i k : Nat) (m : Int), l.drop i = ramp m d → d < k → 0 ≤ m → m + d ≤ 1152921504606846976 →
    laws_heldIntS.l0 k l m i = some (m + d) := by
  intro d
  induction d with
  | zero =>
    intro i k m hd hk h0 h1
    obtain ⟨k, rfl⟩ : ∃ m, k = m + 1 := ⟨k - 1, by omega⟩
    rw [laws_heldIntS.l0, if_neg (drop_nil_info hd)]; simp
  | succ d ih =>
    intro i k m hd hk h0 h1
    obtain ⟨k, rfl⟩ : ∃ m, k = m + 1 := ⟨k - 1, by omega⟩
    obtain ⟨hi', hr, hd'⟩ := drop_cons_info hd
    rw [laws_heldIntS.l0, if_pos (by omega), if_pos (by omega), if_pos hr, w64_i i (by omega), w64 (by omega) (by omega), ih (i + 1) k (m + 1) hd' (by omega) (by omega) (by omega)]
    congr 1; omega
theorem heldIntS_eq (k : Nat) (n : Nat) (m : Int) (hk : 3000000 ≤ k) (hn : n ≤ 1048576) (h0 : 0 ≤ m) (h1 : m ≤ 4611686018427387) : laws_heldIntS.f k (ramp m n) m = some (m + n) := by
  unfold laws_heldIntS.f
  exact heldIntS_l0 (ramp m n) (by rw [ramp_length]; exact hn) n 0 k m (by simp) (by omega) h0 (by omega)
theorem l1In_eq (a b c : Int) : spec_l1In.f a b c = some (decide (b ≤ a ∧ a ≤ c)) := by
  unfold spec_l1In.f
  by_cases h : b ≤ a
  · rw [if_pos h]; simp [h]
  · rw [if_neg h]; simp [h]
/-- Numbers are lengths. -/
def lenOk (l : List Int) : Bool := decide (l.length ≤ 400) && okb 400 l && decide (tot l ≤ 400)
theorem lenOk_iff {l : List Int} : lenOk l = true ↔ l.length ≤ 400 ∧ okb 400 l = true ∧ tot l ≤ 400 := by simp [lenOk, and_assoc]
/-- Numbers are data. -/
def datOk (l : List Int) : Bool := decide (l.length ≤ 400) && okb 10006 l
theorem datOk_iff {l : List Int} : datOk l = true ↔ l.length ≤ 400 ∧ okb 10006 l = true := by simp [datOk]
theorem okb_le {m m' : Int} {l : List Int} (h : okb m l = true) (hm : m ≤ m') : okb m' l = true := by
  rw [okb_iff] at h ⊢; exact fun n hn => by have := h n hn; omega
def segOk (l d : List Int) : Bool := lenOk l && datOk d && decide (tot l = d.length)
theorem segOk_iff {l d : List Int} : segOk l d = true ↔ lenOk l = true ∧ datOk d = true ∧ tot l = d.length := by simp [segOk, and_assoc]
theorem l3Lengths_l0 (x0 l : List Int) (hl : l.length ≤ 1048576) : ∀ (t : List Int) (i k : Nat) (s : Int), l.drop i = t → t.length < k → 0 ≤ s → s ≤ 401 →
    spec_l3Lengths.l0 k x0 s l l.length i = some (okb 400 t && decide (x0.length ≤ 400) && decide (s + tot t ≤ 400)) := by
  intro t
  induction t with
  | nil =>
    intro i k s hd hk hs hs2
    obtain ⟨k, rfl⟩ : ∃ m, k = m + 1 := ⟨k - 1, by simp at hk; omega⟩
    rw [spec_l3Lengths.l0, if_neg (drop_nil_info hd)]
    by_cases h : x0.length ≤ 400
    · rw [if_pos (by omega)]; simp [tot, h, okb_nil]
    · rw [if_neg (by omega)]; simp [h]
  | cons a t ih =>
    intro i k s hd hk hs hs2
    obtain ⟨k, rfl⟩ : ∃ m, k = m + 1 := ⟨k - 1, by simp at hk; omega⟩
    obtain ⟨hi, hr, hd'⟩ := drop_cons_info hd
    simp only [List.length_cons] at hk
    rw [spec_l3Lengths.l0, if_pos (by omega), if_pos (by omega), if_pos (by omega), hr, l1In_eq, okb_cons]
    simp only [Option.bind_some]
    by_cases ha : 0 ≤ a ∧ a ≤ 400
    · rw [if_pos (by simp [ha]), w64_i i (by omega), w64 (by omega) (by omega), ih (i + 1) k _ hd' (by omega) (by rw [mn_def]; split <;> omega) (by rw [mn_def]; split <;> omega)]
      rw [decide_eq_true ha, Bool.true_and]
      cases hok : okb 400 t with
      | false => simp
      | true =>
        have := tot_nonneg hok
        congr 2
        rw [mn_def, decide_eq_decide]; simp only [tot]; split <;> constructor <;> intro _ <;> omega
    · rw [if_neg (by simp [ha])]; simp [ha]
theorem l3Lengths_eq (k : Nat) (l : List Int) (hk : 3000000 ≤ k) (hl : l.length ≤ 1048576) : spec_l3Lengths.f k l = some (lenOk l) := by
  unfold spec_l3Lengths.f
  have := l3Lengths_l0 l l hl l 0 k 0 (by simp) (by omega) (by omega) (by omega)
  rw [show ((0 : Nat) : Int) = 0 from rfl] at this
  rw [this]; unfold lenOk; congr 1
  cases okb 400 l <;> cases decide (l.length ≤ 400) <;> simp
theorem l3Numbers_l0 (l : List Int) (hl : l.length ≤ 1048576) : ∀ (t : List Int) (i k : Nat), l.drop i = t → t.length < k →
    spec_l3Numbers.l0 k l l.length i = some (okb 10006 t) := by
  intro t
  induction t with
  | nil =>
    intro i k hd hk
    obtain ⟨k, rfl⟩ : ∃ m, k = m + 1 := ⟨k - 1, by simp at hk; omega⟩
    rw [spec_l3Numbers.l0, if_neg (drop_nil_info hd)]; rfl
  | cons a t ih =>
    intro i k hd hk
    obtain ⟨k, rfl⟩ : ∃ m, k = m + 1 := ⟨k - 1, by simp at hk; omega⟩
    obtain ⟨hi, hr, hd'⟩ := drop_cons_info hd
    simp only [List.length_cons] at hk
    rw [spec_l3Numbers.l0, if_pos (by omega), if_pos (by omega), if_pos (by omega), hr, l1In_eq, okb_cons]
    simp only [Option.bind_some]
    by_cases ha : 0 ≤ a ∧ a ≤ 10006
    · rw [if_pos (by simp [ha]), w64_i i (by omega), ih (i + 1) k hd' (by omega)]; simp [ha]
    · rw [if_neg (by simp [ha])]; simp [ha]
theorem l3Numbers_eq (k : Nat) (l : List Int) (hk : 3000000 ≤ k) (hl : l.length ≤ 1048576) : spec_l3Numbers.f k l = some (okb 10006 l) := by
  unfold spec_l3Numbers.f
  exact l3Numbers_l0 l hl l 0 k (by simp) (by omega)
theorem l3Total_l0 (l : List Int) (hl : l.length ≤ 1048576) (hok : okb 1048576 l = true) : ∀ (t : List Int) (i k : Nat) (s : Int), l.drop i = t → t.length < k → 0 ≤ s → s ≤ 1048576 * i →
    spec_l3Total.l0 k s l l.length i = some (s + tot t) := by
  intro t
  induction t with
  | nil =>
    intro i k s hd hk hs hs2
    obtain ⟨k, rfl⟩ : ∃ m, k = m + 1 := ⟨k - 1, by simp at hk; omega⟩
    rw [spec_l3Total.l0, if_neg (drop_nil_info hd)]; simp [tot]
  | cons a t ih =>
    intro i k s hd hk hs hs2
    obtain ⟨k, rfl⟩ : ∃ m, k = m + 1 := ⟨k - 1, by simp at hk; omega⟩
    obtain ⟨hi, hr, hd'⟩ := drop_cons_info hd
    have hb := okb_iff.1 hok a (by rw [← hr, rd_nat]; exact getD_mem hi)
    simp only [List.length_cons] at hk
    rw [spec_l3Total.l0, if_pos (by omega), if_pos (by omega), if_pos (by omega), hr, w64 (by omega) (by omega), w64_i i (by omega), ih (i + 1) k (s + a) hd' (by omega) (by omega) (by omega)]
    simp only [tot]; congr 1; omega
theorem l3Total_eq (k : Nat) (l : List Int) (hk : 3000000 ≤ k) (hl : l.length ≤ 1048576) (hok : okb 1048576 l = true) : spec_l3Total.f k l = some (tot l) := by
  unfold spec_l3Total.f
  have := l3Total_l0 l hl hok l 0 k 0 (by simp) (by omega) (by omega) (by omega)
  simpa using this
theorem spec_SegmentsValid_eq (k : Nat) (l d : List Int) (hk : 3000000 ≤ k) (hl : l.length ≤ 1048576) (hd : d.length ≤ 1048576) : spec_SegmentsValid.f k l d = some (segOk l d) := by
  unfold spec_SegmentsValid.f
  rw [l3Lengths_eq k l hk hl]
  simp only [Option.bind_some]
  cases h : lenOk l with
  | false => simp [segOk, h]
  | true =>
    have h1 := lenOk_iff.1 h
    rw [l3Numbers_eq k d hk hd, l3Total_eq k l hk hl (okb_le h1.2.1 (by omega))]
    simp only [Option.bind_some, if_true]
    cases h2 : okb 10006 d with
    | false => simp [segOk, datOk, h2]
    | true =>
      simp only [if_true, segOk, datOk, h, h2, Bool.true_and, Bool.and_true]
      congr 1
      by_cases h3 : tot l = d.length
      · have : d.length ≤ 400 := by omega
        simp [h3, this]
      · have e1 : (tot l == (d.length : Int)) = false := by simp [h3]
        rw [e1]; simp [h3]
theorem lengthsOk_eq (k : Nat) (l : List Int) (hk : 3000000 ≤ k) (hl : l.length ≤ 1048576) : impl_lengthsOk.f k l = some (lenOk l) := by
  unfold impl_lengthsOk.f
  by_cases h : l.length ≤ 400
  · rw [if_pos (by omega), within_eq l 400 hl]
    simp only [Option.bind_some]
    cases h2 : okb 400 l with
    | false => simp [lenOk, h2]
    | true =>
      rw [if_pos rfl, total_eq k l hk hl (okb_le h2 (by omega))]
      simp [lenOk, h, h2]
  · rw [if_neg (by omega)]; simp [lenOk, h]
theorem dataOk_eq (l : List Int) (hl : l.length ≤ 1048576) : impl_dataOk.f l = some (datOk l) := by
  unfold impl_dataOk.f
  by_cases h : l.length ≤ 400
  · rw [if_pos (by omega), within_eq l 10006 hl]; simp [datOk, h]
  · rw [if_neg (by omega)]; simp [datOk, h]
theorem impl_SegmentsValid_eq (k : Nat) (l d : List Int) (hk : 3000000 ≤ k) (hl : l.length ≤ 1048576) (hd : d.length ≤ 1048576) : impl_SegmentsValid.f k l d = some (segOk l d) := by
  unfold impl_SegmentsValid.f
  rw [lengthsOk_eq k l hk hl, dataOk_eq d hd]
  simp only [Option.bind_some]
  cases h : lenOk l with
  | false => simp [segOk, h]
  | true =>
    have h1 := lenOk_iff.1 h
    rw [total_eq k l hk hl (okb_le h1.2.1 (by omega))]
    cases h2 : datOk d with
    | false => simp [segOk, h2]
    | true =>
      simp only [segOk, h, h2, Bool.true_and, if_true, Option.bind_some]
      congr 1
      by_cases h3 : tot l = d.length
      · simp [h3]
      · have e1 : ((d.length : Int) == tot l) = false := by simp; omega
        rw [e1]; simp [h3]
/-- Where segments begin, the first one at s. -/
def startsFrom (s : Int) : List Int → List Int
  | [] => []
  | a :: t => s :: startsFrom (s + a) t
/-- Numbers from i on, as many as d. -/
def ups : List Int → List Int
  | [] => []
  | a :: t => ramp 0 a.toNat ++ ups t
/-- Rounds of a loop within a loop. -/
def cst : List Int → Nat
  | [] => 1
  | a :: t => a.toNat + 2 + cst t
theorem cst_le {m : Int} {l : List Int} (h : okb m l = true) : (cst l : Int) = tot l + 2 * l.length + 1 := by
  rw [okb_iff] at h
  induction l with
  | nil => rfl
  | cons a t ih =>
    have h1 := h a (by simp)
    have h2 := ih (fun n hn => h n (by simp [hn]))
    simp only [cst, tot, List.length_cons]; omega
theorem cst_len {l : List Int} (h : lenOk l = true) : cst l ≤ 1201 := by
  obtain ⟨h1, h2, h3⟩ := lenOk_iff.1 h
  have := cst_le h2; omega
theorem len_append1 {α : Type} (a : List α) (x : α) : (a ++ [x]).length = a.length + 1 := by simp
theorem l4Indices_l0 (x0 l : List Int) (n : Int) (hn : 0 ≤ n) (hn2 : n ≤ 1048576) (hl : l.length ≤ 1048576) : ∀ (t : List Int) (i k : Nat), l.drop i = t → t.length < k →
    spec_l4Indices.l0 k x0 n l l.length i = some (okb (n - 1) t && decide (x0.length ≤ 400)) := by
  intro t
  induction t with
  | nil =>
    intro i k hd hk
    obtain ⟨k, rfl⟩ : ∃ m, k = m + 1 := ⟨k - 1, by simp at hk; omega⟩
    rw [spec_l4Indices.l0, if_neg (drop_nil_info hd)]; simp [okb_nil]; omega
  | cons a t ih =>
    intro i k hd hk
    obtain ⟨k, rfl⟩ : ∃ m, k = m + 1 := ⟨k - 1, by simp at hk; omega⟩
    obtain ⟨hi, hr, hd'⟩ := drop_cons_info hd
    simp only [List.length_cons] at hk
    rw [spec_l4Indices.l0, if_pos (by omega), if_pos (by omega), if_pos (by omega), hr, w64 (x := n - 1) (by omega) (by omega), l1In_eq, okb_cons]
    simp only [Option.bind_some]
    by_cases ha : 0 ≤ a ∧ a ≤ n - 1
    · rw [if_pos (by simp [ha]), w64_i i (by omega), ih (i + 1) k hd' (by omega)]; simp [ha]
    · rw [if_neg (by simp [ha])]; simp [ha]
theorem l4Indices_eq (k : Nat) (l : List Int) (n : Int) (hk : 3000000 ≤ k) (hl : l.length ≤ 1048576) (hn : 0 ≤ n) (hn2 : n ≤ 1048576) : spec_l4Indices.f k l n = some (okb (n - 1) l && decide (l.length ≤ 400)) := by
  unfold spec_l4Indices.f
  exact l4Indices_l0 l l n hn hn2 hl l 0 k (by simp) (by omega)
def gatOk (d a : List Int) : Bool := datOk d && (okb (d.length - 1) a && decide (a.length ≤ 400))
def gatV (d a : List Int) : List Int × Bool := if gatOk d a = true then (a.map fun i => rd d i, true) else ([], false)
def staV (l : List Int) : List Int × Bool := if lenOk l = true then (startsFrom 0 l, true) else ([], false)
theorem l3Starts_l0 (l : List Int) (hl : l.length ≤ 400) (hok : okb 400 l = true) : ∀ (t : List Int) (i k : Nat) (s : List Int) (c : Int), l.drop i = t → t.length < k → s.length = i → 0 ≤ c → c ≤ 400 * i →
    spec_l3Starts.l0 k s c l l.length i = some (s ++ startsFrom c t) := by
  intro t
  induction t with
  | nil =>
    intro i k s c hd hk hs h0 h1
    obtain ⟨k, rfl⟩ : ∃ m, k = m + 1 := ⟨k - 1, by simp at hk; omega⟩
    rw [spec_l3Starts.l0, if_neg (drop_nil_info hd)]; simp [startsFrom]
  | cons a t ih =>
    intro i k s c hd hk hs h0 h1
    obtain ⟨k, rfl⟩ : ∃ m, k = m + 1 := ⟨k - 1, by simp at hk; omega⟩
    obtain ⟨hi, hr, hd'⟩ := drop_cons_info hd
    have hb := okb_iff.1 hok a (by rw [← hr, rd_nat]; exact getD_mem hi)
    simp only [List.length_cons] at hk
    rw [spec_l3Starts.l0, if_pos (by omega), if_pos (by omega), if_pos (by omega), if_pos (by omega), hr, w64 (by omega) (by omega), w64_i i (by omega),
      ih (i + 1) k _ (c + a) hd' (by omega) (by simp [hs]) (by omega) (by omega)]
    simp [startsFrom]
theorem l3Starts_eq (k : Nat) (l : List Int) (hk : 3000000 ≤ k) (h : lenOk l = true) : spec_l3Starts.f k l = some (startsFrom 0 l) := by
  obtain ⟨h1, h2, h3⟩ := lenOk_iff.1 h
  unfold spec_l3Starts.f
  have := l3Starts_l0 l h1 h2 l 0 k [] 0 (by simp) (by omega) (by simp) (by omega) (by omega)
  simpa using this
def upV (l : List Int) : List Int × Bool := if lenOk l = true then (ups l, true) else ([], false)
theorem ramp_succ (m : Int) (d : Nat) : ramp m (d + 1) = m :: ramp (m + 1) d := rfl
theorem startsFrom_length (s : Int) (l : List Int) : (startsFrom s l).length = l.length := by
  induction l generalizing s with
  | nil => rfl
  | cons a t ih => simp [startsFrom, ih]
theorem ups_length {m : Int} {l : List Int} (h : okb m l = true) : ((ups l).length : Int) = tot l := by
  rw [okb_iff] at h
  induction l with
  | nil => rfl
  | cons a t ih =>
    have h1 := h a (by simp)
    have h2 := ih (fun n hn => h n (by simp [hn]))
    simp only [ups, tot, List.length_append, ramp_length]; omega
theorem gatV_len (d a : List Int) : (gatV d a).1.length ≤ 1048576 := by
  unfold gatV; split
  · rename_i h; simp only [gatOk, Bool.and_eq_true, decide_eq_true_eq] at h; simp; omega
  · simp
theorem staV_len (l : List Int) : (staV l).1.length ≤ 1048576 := by
  unfold staV; split
  · rename_i h; have := lenOk_iff.1 h; rw [startsFrom_length]; omega
  · simp
theorem upV_len (l : List Int) : (upV l).1.length ≤ 1048576 := by
  unfold upV; split
  · rename_i h; have := lenOk_iff.1 h; have := ups_length this.2.1; simp only; omega
  · simp
theorem lt0_1 (a : Nat) : ((1 : Int) + a < 0) = False := by simp; omega
theorem lt0_2 (a b : Nat) : ((1 : Int) + a + b < 0) = False := by simp; omega
theorem lt0_3 (a b c : Nat) : ((1 : Int) + a + b + c < 0) = False := by simp; omega
theorem lt0_4 (a b c d : Nat) : ((1 : Int) + a + b + c + d < 0) = False := by simp; omega
/-- The segments of data. -/
def segs : List Int → List Int → List (List Int)
  | [], _ => []
  | a :: t, d => d.take a.toNat :: segs t (d.drop a.toNat)
theorem segs_length (l d : List Int) : (segs l d).length = l.length := by
  induction l generalizing d with
  | nil => rfl
  | cons a t ih => simp [segs, ih]
theorem ddrop_cons_info {α : Type} {l : List α} {i : Nat} {a : α} {t : List α} (h : l.drop i = a :: t) : i < l.length ∧ l[i]? = some a ∧ l.drop (i + 1) = t := by
  have hi : i < l.length := by
    rcases Nat.lt_or_ge i l.length with h1 | h1
    · exact h1
    · rw [List.drop_eq_nil_of_le h1] at h; cases h
  rw [List.drop_eq_getElem_cons hi] at h
  injection h with h1 h2
  exact ⟨hi, by rw [List.getElem?_eq_getElem hi, h1], h2⟩
theorem okb_mem_segs {m : Int} {l d s : List Int} (h : okb m d = true) (hs : s ∈ segs l d) : okb m s = true := by
  induction l generalizing d with
  | nil => cases hs
  | cons a t ih =>
    simp only [segs, List.mem_cons] at hs
    rcases hs with rfl | hs
    · exact okb_take h _
    · exact ih (okb_drop h _) hs
theorem mem_segs_len {l d s : List Int} (hs : s ∈ segs l d) : s.length ≤ d.length := by
  induction l generalizing d with
  | nil => cases hs
  | cons a t ih =>
    simp only [segs, List.mem_cons] at hs
    rcases hs with rfl | hs
    · simp; omega
    · have := ih hs; simp at this; omega
theorem okb_tail {m a : Int} {t : List Int} (h : okb m (a :: t) = true) : 0 ≤ a ∧ a ≤ m ∧ okb m t = true := by
  rw [okb_cons] at h; simp at h; exact ⟨h.1.1, h.1.2, h.2⟩
theorem rdLL_of {l : List (List Int)} {i : Nat} {a : List Int} (h : l[i]? = some a) : rd_L1 l (i : Int) = a := by
  unfold rd_L1; rw [Int.toNat_natCast, List.getD_eq_getElem?_getD, h]; rfl
theorem impl_segments_l0 (l : List Int) (hl : l.length ≤ 400) : ∀ (t : List Int) (i k : Nat) (d : List Int) (s : List (List Int)), l.drop i = t → t.length < k → s.length = i → okb 400 t = true → tot t ≤ d.length →
    impl_segments.l0 k d s l l.length i = some (s ++ segs t d) := by
  intro t
  induction t with
  | nil =>
    intro i k d s hd hk hs hok ht
    obtain ⟨k, rfl⟩ : ∃ m, k = m + 1 := ⟨k - 1, by simp at hk; omega⟩
    rw [impl_segments.l0, if_neg (drop_nil_info hd)]; simp [segs]
  | cons a t ih =>
    intro i k d s hd hk hs hok ht
    obtain ⟨k, rfl⟩ : ∃ m, k = m + 1 := ⟨k - 1, by simp at hk; omega⟩
    obtain ⟨hi, hr, hd'⟩ := drop_cons_info hd
    obtain ⟨h0, h1, hok'⟩ := okb_tail hok
    have := tot_nonneg hok'
    simp only [List.length_cons] at hk
    simp only [tot] at ht
    rw [impl_segments.l0, if_pos (by omega), if_pos (by omega), if_pos (by omega), hr, if_pos h0, if_pos (by omega), if_pos (by omega), w64_i i (by omega), ih (i + 1) k _ _ hd' (by omega) (by simp [hs]) hok' (by simp; omega)]
    simp [segs]
theorem segments_eq (k : Nat) (l d : List Int) (hk : 3000000 ≤ k) (hl : l.length ≤ 400) (hok : okb 400 l = true) (ht : tot l ≤ d.length) : impl_segments.f k l d = some (segs l d) := by
  unfold impl_segments.f
  have := impl_segments_l0 l hl l 0 k d [] (by simp) (by omega) (by simp) hok ht
  simpa using this
theorem l3Cut_l0 (l d : List Int) (hl : l.length ≤ 400) (hd0 : d.length ≤ 1048576) (st : List Int) (hst : st.length = l.length) : ∀ (t u : List Int) (i k : Nat) (c : Int) (s : List (List Int)), l.drop i = t → st.drop i = u → u = startsFrom c t → t.length < k → s.length = i → okb 400 t = true → 0 ≤ c → c + tot t ≤ d.length →
    spec_l3Cut.l0 k l d s st st.length i = some (s ++ segs t (d.drop c.toNat)) := by
  intro t
  induction t with
  | nil =>
    intro u i k c s hd hu huc hk hs hok h0 ht
    obtain ⟨k, rfl⟩ : ∃ m, k = m + 1 := ⟨k - 1, by simp at hk; omega⟩
    have hh := drop_nil_info hd
    rw [spec_l3Cut.l0, if_neg (by omega)]; simp [segs]
  | cons a t ih =>
    intro u i k c s hd hu huc hk hs hok h0 ht
    obtain ⟨k, rfl⟩ : ∃ m, k = m + 1 := ⟨k - 1, by simp at hk; omega⟩
    obtain ⟨hi, hr, hd'⟩ := drop_cons_info hd
    subst huc
    simp only [startsFrom] at hu
    obtain ⟨hi2, hr2, hu'⟩ := drop_cons_info hu
    obtain ⟨ha0, ha1, hok'⟩ := okb_tail hok
    have := tot_nonneg hok'
    simp only [List.length_cons] at hk
    simp only [tot] at ht
    rw [spec_l3Cut.l0, if_pos (by omega), if_pos (by omega), if_pos (by omega), if_pos (by omega), hr, hr2, w64 (x := c + a) (by omega) (by omega), if_pos (by omega), if_pos (by omega), if_pos (by omega), if_pos (by omega), w64_i i (by omega),
      ih _ (i + 1) k (c + a) _ hd' hu' rfl (by omega) (by simp [hs]) hok' (by omega) (by omega)]
    have e1 : (c + a).toNat = c.toNat + a.toNat := by omega
    rw [e1, segs, List.drop_drop, List.append_assoc]
    congr 2
    simp only [List.singleton_append]
    congr 1
    rw [List.drop_take]; congr 1; omega
theorem l3Cut_eq (k : Nat) (l d : List Int) (hk : 3000000 ≤ k) (hl : lenOk l = true) (hd0 : d.length ≤ 1048576) (ht : tot l ≤ d.length) : spec_l3Cut.f k l d = some (segs l d) := by
  obtain ⟨h1, h2, h3⟩ := lenOk_iff.1 hl
  unfold spec_l3Cut.f
  rw [l3Starts_eq k l hk hl]
  simp only [Option.bind_some]
  have := l3Cut_l0 l d h1 hd0 (startsFrom 0 l) (startsFrom_length 0 l) l (startsFrom 0 l) 0 k 0 [] (by simp) (by simp) rfl (by omega) (by simp) h2 (by omega) (by omega)
  simpa using this
/-- The picked segments, one behind the other. -/
def pickL (x : List (List Int)) (u : List Int) : List Int := (u.map (fun a => rd_L1 x a)).flatten
def pickOk (l d u : List Int) : Bool := segOk l d && (okb ((l.length : Int) - 1) u && decide (u.length ≤ 400))
def pickV (l d u : List Int) : List Int × List Int × Bool := if pickOk l d u = true then (if (pickL (segs l d) u).length ≤ 400 then (u.map (fun a => rd l a), pickL (segs l d) u, true) else ([], [], false)) else ([], [], false)
theorem pickOk_iff {l d u : List Int} : pickOk l d u = true ↔ segOk l d = true ∧ okb ((l.length : Int) - 1) u = true ∧ u.length ≤ 400 := by simp [pickOk]
theorem pickV_len (l d u : List Int) : (pickV l d u).1.length ≤ 1048576 := by
  unfold pickV; split
  · rename_i h; obtain ⟨h1, h2, h3⟩ := pickOk_iff.1 h
    split
    · simp; omega
    · simp
  · simp
theorem pickV_len2 (l d u : List Int) : (pickV l d u).2.1.length ≤ 1048576 := by
  unfold pickV; split
  · rename_i h
    split
    · show (pickL (segs l d) u).length ≤ _; omega
    · simp
  · simp
theorem rdLL_len {x : List (List Int)} {a : Int} (h : ∀ y ∈ x, y.length ≤ 400) : (rd_L1 x a).length ≤ 400 := by
  unfold rd_L1
  rw [List.getD_eq_getElem?_getD]
  cases hx : x[a.toNat]? with
  | none => simp
  | some y => exact h y (List.mem_of_getElem? hx)
theorem pickL_len {x : List (List Int)} (h : ∀ y ∈ x, y.length ≤ 400) (u : List Int) : (pickL x u).length ≤ 400 * u.length := by
  induction u with
  | nil => simp [pickL]
  | cons a t ih =>
    have := rdLL_len (a := a) h
    simp only [pickL, List.map_cons, List.flatten_cons, List.length_append, List.length_cons] at *
    omega
theorem spec_Pick_l0 (l u : List Int) (x : List (List Int)) (hu : u.length ≤ 400) (hxl : x.length = l.length) (hx : ∀ y ∈ x, y.length ≤ 400) (hok : okb ((l.length : Int) - 1) u = true) : ∀ (t : List Int) (i k : Nat) (s o : List Int), u.drop i = t → t.length < k → s.length = i → o.length ≤ 400 →
    spec_PickSegments.l0 k l s o x u u.length i = some (if (o ++ pickL x t).length ≤ 400 then (s ++ t.map (fun a => rd l a), o ++ pickL x t, true) else ([], [], false)) := by
  intro t
  induction t with
  | nil =>
    intro i k s o hd hk hs ho
    obtain ⟨k, rfl⟩ : ∃ m, k = m + 1 := ⟨k - 1, by simp at hk; omega⟩
    rw [spec_PickSegments.l0, if_neg (drop_nil_info hd)]; simp [pickL, ho]
  | cons a t ih =>
    intro i k s o hd hk hs ho
    obtain ⟨k, rfl⟩ : ∃ m, k = m + 1 := ⟨k - 1, by simp at hk; omega⟩
    obtain ⟨hi, hr, hd'⟩ := drop_cons_info hd
    have hb := okb_iff.1 hok a (by rw [← hr, rd_nat]; exact getD_mem hi)
    have hl := rdLL_len (a := a) hx
    simp only [List.length_cons] at hk
    rw [spec_PickSegments.l0, if_pos (by omega), if_pos (by omega), if_pos (by omega), hr, if_pos hb.1, if_pos (by omega), if_pos (by omega), if_pos (by omega), if_pos (by omega)]
    simp only [Option.bind_some]
    have e : o ++ pickL x (a :: t) = (o ++ rd_L1 x a) ++ pickL x t := by simp [pickL]
    by_cases h4 : (o ++ rd_L1 x a).length ≤ 400
    · rw [if_neg (by omega), w64_i i (by omega), ih (i + 1) k _ _ hd' (by omega) (by simp [hs]) h4, e]
      simp
    · rw [if_pos (by omega), if_neg (by rw [e, List.length_append]; omega)]
theorem spec_Pick_eq (k : Nat) (l d u : List Int) (hk : 3001000 ≤ k) (hl : l.length ≤ 1048576) (hd : d.length ≤ 1048576) (hu : u.length ≤ 1048576) : spec_PickSegments.f k l d u = some (pickV l d u) := by
  obtain ⟨k, rfl⟩ : ∃ m, k = m + 1 := ⟨k - 1, by omega⟩
  unfold spec_PickSegments.f
  simp only [Option.bind_some]
  rw [spec_SegmentsValid_eq (k + 1) l d (by omega) hl hd]
  simp only [Option.bind_some]
  cases h : segOk l d with
  | false => simp [pickV, pickOk, h, spec_PickSegments.j0]
  | true =>
    rw [if_pos rfl, l4Indices_eq (k + 1) u _ (by omega) hu (by omega) (by omega)]
    simp only [Option.bind_some]
    cases h2 : (okb ((l.length : Int) - 1) u && decide (u.length ≤ 400)) with
    | false => simp [pickV, pickOk, h2, spec_PickSegments.j0]
    | true =>
      obtain ⟨h3, h4, h5⟩ := segOk_iff.1 h
      have hd1 := datOk_iff.1 h4
      simp only [Bool.and_eq_true, decide_eq_true_eq] at h2
      rw [spec_PickSegments.j0, if_neg (by simp), l3Cut_eq k l d (by omega) h3 hd (by omega)]
      simp only [Option.bind_some]
      have := spec_Pick_l0 l u (segs l d) h2.2 (segs_length l d) (fun y hy => by have := mem_segs_len hy; omega) h2.1 u 0 k [] [] (by simp) (by omega) rfl (by simp)
      rw [show ((0 : Nat) : Int) = 0 from rfl] at this
      rw [this]; simp [pickV, pickOk, h, h2]
theorem impl_Pick_l0 (l u : List Int) (x : List (List Int)) (hu : u.length ≤ 400) (hxl : x.length = l.length) (hx : ∀ y ∈ x, y.length ≤ 400) (hok : okb ((l.length : Int) - 1) u = true) : ∀ (t : List Int) (i k : Nat) (s o : List Int), u.drop i = t → t.length < k → s.length = i → o.length ≤ 400 * i →
    impl_PickSegments.l0 k l x s o u u.length i = some (if (o ++ pickL x t).length ≤ 400 then (s ++ t.map (fun a => rd l a), o ++ pickL x t, true) else ([], [], false)) := by
  intro t
  induction t with
  | nil =>
    intro i k s o hd hk hs ho
    obtain ⟨k, rfl⟩ : ∃ m, k = m + 1 := ⟨k - 1, by simp at hk; omega⟩
    rw [impl_PickSegments.l0, if_neg (drop_nil_info hd)]
    by_cases h : o.length ≤ 400
    · rw [if_neg (by omega)]; simp [pickL, h]
    · rw [if_pos (by omega)]; simp [pickL, h]
  | cons a t ih =>
    intro i k s o hd hk hs ho
    obtain ⟨k, rfl⟩ : ∃ m, k = m + 1 := ⟨k - 1, by simp at hk; omega⟩
    obtain ⟨hi, hr, hd'⟩ := drop_cons_info hd
    have hb := okb_iff.1 hok a (by rw [← hr, rd_nat]; exact getD_mem hi)
    have hl := rdLL_len (a := a) hx
    simp only [List.length_cons] at hk
    rw [impl_PickSegments.l0, if_pos (by omega), if_pos (by omega), if_pos (by omega), hr, if_pos hb.1, if_pos (by omega), if_pos (by omega), if_pos (by omega), if_pos (by omega), w64_i i (by omega), ih (i + 1) k _ _ hd' (by omega) (by simp [hs]) (by simp; omega)]
    have e : o ++ pickL x (a :: t) = (o ++ rd_L1 x a) ++ pickL x t := by simp [pickL]
    rw [e]; simp
theorem impl_Pick_eq (k : Nat) (l d u : List Int) (hk : 3001000 ≤ k) (hl : l.length ≤ 1048576) (hd : d.length ≤ 1048576) (hu : u.length ≤ 1048576) : impl_PickSegments.f k l d u = some (pickV l d u) := by
  obtain ⟨k, rfl⟩ : ∃ m, k = m + 1 := ⟨k - 1, by omega⟩
  unfold impl_PickSegments.f
  rw [impl_SegmentsValid_eq (k + 1) l d (by omega) hl hd]
  simp only [Option.bind_some]
  cases h : segOk l d with
  | false => simp [pickV, pickOk, h, impl_PickSegments.j0]
  | true =>
    rw [if_pos rfl]
    by_cases h5 : u.length ≤ 400
    case neg => rw [if_pos (by omega)]; simp [pickV, pickOk, h5, impl_PickSegments.j0]
    rw [if_neg (by omega), w64 (by omega) (by omega), within_eq u _ hu]
    simp only [Option.bind_some]
    cases h2 : okb ((l.length : Int) - 1) u with
    | false => simp [pickV, pickOk, h2, impl_PickSegments.j0]
    | true =>
      obtain ⟨h3, h4, h6⟩ := segOk_iff.1 h
      have hl1 := lenOk_iff.1 h3
      have hd1 := datOk_iff.1 h4
      rw [impl_PickSegments.j0, if_neg (by simp), segments_eq k l d (by omega) hl1.1 hl1.2.1 (by omega)]
      simp only [Option.bind_some]
      have := impl_Pick_l0 l u (segs l d) h5 (segs_length l d) (fun y hy => by have := mem_segs_len hy; omega) h2 u 0 k [] [] (by simp) (by omega) rfl (by simp)
      rw [show ((0 : Nat) : Int) = 0 from rfl] at this
      rw [this]; simp [pickV, pickOk, h, h2, h5]
end Go.Proofs.Ytnehpbkjmmadkaa.Print
