/-
  Plain lemmas on what the functions compute: lists and numbers alone.
-/
import Derived.Test.YtnehpbkjmmadkaaSo1
import Derived.Test.YtnehpbkjmmadkaaSo2
import Derived.Test.YtnehpbkjmmadkaaSo3
import Derived.Test.YtnehpbkjmmadkaaSo4
namespace Go.Proofs.Ytnehpbkjmmadkaa.So
open Go.RowKit Go.Proofs.YtnehpbkjmmadkaaW.PrintWords Go.Proofs.YtnehpbkjmmadkaaW.PrintLast Go.Proofs.YtnehpbkjmmadkaaW.PrintMore
set_option linter.unusedVariables false
set_option linter.unusedSimpArgs false
theorem w64 {x : Int} (h0 : -9223372036854775808 ≤ x) (h1 : x ≤ 9223372036854775807) : wrap64 x = x := by unfold wrap64; omega
theorem w64_nat {x : Int} (h0 : 0 ≤ x) (h1 : x ≤ 9223372036854775807) : wrap64 x = x := w64 (by omega) h1
theorem w64_i (i : Nat) (h : i ≤ 9223372036854775806) : wrap64 ((i : Int) + 1) = ((i + 1 : Nat) : Int) := by rw [w64 (by omega) (by omega)]; omega
theorem rd_nat (l : List Int) (i : Nat) : rd l (i : Int) = l.getD i 0 := by simp [rd]
theorem drop_cons_info {l : List Int} {i : Nat} {a : Int} {t : List Int} (h : l.drop i = a :: t) : i < l.length ∧ rd l (i : Int) = a ∧ l.drop (i + 1) = t := by
  have hi : i < l.length := by
    rcases Nat.lt_or_ge i l.length with h1 | h1
    · exact h1
    · rw [List.drop_eq_nil_of_le h1] at h; cases h
  rw [List.drop_eq_getElem_cons hi] at h
  injection h with h1 h2
  refine ⟨hi, ?_, h2⟩
  rw [rd_nat, List.getD_eq_getElem?_getD, List.getElem?_eq_getElem hi]
  exact h1
theorem drop_nil_info {α : Type} {l : List α} {i : Nat} (h : l.drop i = []) : ¬ ((i : Int) < (l.length : Int)) := by
  have := List.drop_eq_nil_iff.1 h
  omega
theorem mn_def (a b : Int) : mn a b = if a ≤ b then a else b := by unfold mn; split <;> split <;> omega
theorem getD_mem {l : List Int} {i : Nat} (h : i < l.length) : l.getD i 0 ∈ l := by
  rw [List.getD_eq_getElem?_getD, List.getElem?_eq_getElem h]; exact List.getElem_mem h
theorem rd_mem {l : List Int} {i : Int} (h0 : 0 ≤ i) (h : i < (l.length : Int)) : rd l i ∈ l := by
  obtain ⟨n, rfl⟩ := Int.eq_ofNat_of_zero_le h0
  rw [rd_nat]; exact getD_mem (by omega)
/-- The sum of numbers. -/
def tot : List Int → Int
  | [] => 0
  | a :: t => a + tot t
theorem tot_append (a b : List Int) : tot (a ++ b) = tot a + tot b := by
  induction a with
  | nil => simp [tot]
  | cons x t ih => simp only [List.cons_append, tot, ih]; omega
/-- All numbers lie from 0 to m. -/
def okb (m : Int) (l : List Int) : Bool := l.all fun n => decide (0 ≤ n) && decide (n ≤ m)
theorem okb_iff {m : Int} {l : List Int} : okb m l = true ↔ ∀ n ∈ l, 0 ≤ n ∧ n ≤ m := by
  simp [okb, List.all_eq_true]
theorem okb_nil (m : Int) : okb m [] = true := rfl
theorem okb_cons (m a : Int) (t : List Int) : okb m (a :: t) = (decide (0 ≤ a ∧ a ≤ m) && okb m t) := by
  simp [okb, Bool.decide_and]
theorem tot_nonneg {m : Int} {l : List Int} (h : okb m l = true) : 0 ≤ tot l := by
  rw [okb_iff] at h
  induction l with
  | nil => simp [tot]
  | cons a t ih =>
    have := h a (by simp)
    have := ih (fun n hn => h n (by simp [hn]))
    simp only [tot]; omega
theorem tot_le {m : Int} {l : List Int} (h : okb m l = true) : tot l ≤ m * l.length := by
  rw [okb_iff] at h
  induction l with
  | nil => simp [tot]
  | cons a t ih =>
    have h1 := h a (by simp)
    have h2 := ih (fun n hn => h n (by simp [hn]))
    simp only [tot, List.length_cons]
    have : m * ((t.length + 1 : Nat) : Int) = m * t.length + m := by rw [Int.natCast_add, Int.mul_add]; simp
    omega
theorem okb_drop {m : Int} {l : List Int} (h : okb m l = true) (i : Nat) : okb m (l.drop i) = true := by
  rw [okb_iff] at h ⊢; exact fun n hn => h n (List.mem_of_mem_drop hn)
theorem okb_take {m : Int} {l : List Int} (h : okb m l = true) (i : Nat) : okb m (l.take i) = true := by
  rw [okb_iff] at h ⊢; exact fun n hn => h n (List.mem_of_mem_take hn)
/-- n, n + 1, .. -/
def ramp (n : Int) : Nat → List Int
  | 0 => []
  | k + 1 => n :: ramp (n + 1) k
theorem ramp_length (n : Int) (k : Nat) : (ramp n k).length = k := by
  induction k generalizing n with
  | zero => rfl
  | succ k ih => simp [ramp, ih]
theorem idxOut_neg (m : Int) (l : List Int) (d : Nat) : ∀ i, l.length - i = d → (decide (idxOut m l i < 0) = okb m (l.drop i)) := by
  induction d with
  | zero =>
    intro i hi
    rw [idxOut_end m l i (by omega), List.drop_eq_nil_of_le (by omega)]; rfl
  | succ d ih =>
    intro i hi
    have hlt : i < l.length := by omega
    have hd : l.drop i = rd l i :: l.drop (i + 1) := by
      rw [List.drop_eq_getElem_cons hlt, rd_nat, List.getD_eq_getElem?_getD, List.getElem?_eq_getElem hlt]; rfl
    rw [hd, okb_cons]
    cases ho : outB m (rd l i) with
    | true =>
      rw [idxOut_hit m l i hlt ho]
      rw [outB_def] at ho
      have hne : ¬ (0 ≤ rd l i ∧ rd l i ≤ m) := by
        intro h
        simp [show ¬ rd l (i : Int) < 0 from by omega, show ¬ m < rd l (i : Int) from by omega] at ho
      rw [decide_eq_false hne, Bool.false_and]
      exact decide_eq_false (by omega)
    | false =>
      rw [idxOut_next m l i hlt ho, ih (i + 1) (by omega)]
      rw [outB_def] at ho
      have hy : (0 ≤ rd l i ∧ rd l i ≤ m) := by
        simp at ho; omega
      rw [decide_eq_true hy, Bool.true_and]
theorem within_eq (l : List Int) (m : Int) (hl : l.length ≤ 1048576) : impl_within.f l m = some (okb m l) := by
  unfold impl_within.f
  rw [if_pos (by omega), idxOut_neg m l l.length 0 (by omega), List.drop_zero]
theorem impl_total_l0 (l : List Int) (hl : l.length ≤ 1048576) (hok : okb 1048576 l = true) : ∀ (t : List Int) (i k : Nat) (s : Int), l.drop i = t → t.length < k → 0 ≤ s → s ≤ 1048576 * i →
    impl_total.l0 k s l l.length i = some (s + tot t) := by
  intro t
  induction t with
  | nil =>
    intro i k s hd hk hs hs2
    obtain ⟨k, rfl⟩ : ∃ m, k = m + 1 := ⟨k - 1, by simp at hk; omega⟩
    rw [impl_total.l0, if_neg (drop_nil_info hd)]; simp [tot]
  | cons a t ih =>
    intro i k s hd hk hs hs2
    obtain ⟨k, rfl⟩ : ∃ m, k = m + 1 := ⟨k - 1, by simp at hk; omega⟩
    obtain ⟨hi, hr, hd'⟩ := drop_cons_info hd
    have hb := okb_iff.1 hok a (by rw [← hr, rd_nat]; exact getD_mem hi)
    simp only [List.length_cons] at hk
    rw [impl_total.l0, if_pos (by omega), if_pos (by omega), if_pos (by omega), hr, w64 (by omega) (by omega), w64_i i (by omega), ih (i + 1) k (s + a) hd' (by omega) (by omega) (by omega)]
    simp only [tot]; congr 1; omega
theorem total_eq (k : Nat) (l : List Int) (hk : 3000000 ≤ k) (hl : l.length ≤ 1048576) (hok : okb 1048576 l = true) : impl_total.f k l = some (tot l) := by
  unfold impl_total.f
  have := impl_total_l0 l hl hok l 0 k 0 (by simp) (by omega) (by omega) (by omega)
  simpa using this
/-- Only what is bound is looked into, not what follows. -/
theorem obind_congr {α β : Type} {a b : Option α} {f : α → Option β} (h : a = b) : a.bind f = b.bind f := by rw [h]
theorem toIntS_l0 (l : List Int) (hl : l.length ≤ 1048576) : ∀ (t : List Int) (i k : Nat) (s : List Int), l.drop i = t → t.length < k → i ≤ l.length → s = l.take i ++ List.replicate (l.length - i) 0 →
    laws_toIntS.l0 k l s i = some l := by
  intro t
  induction t with
  | nil =>
    intro i k s hd hk hi hs
    obtain ⟨k, rfl⟩ : ∃ m, k = m + 1 := ⟨k - 1, by simp at hk; omega⟩
    have h := drop_nil_info hd
    have hil : i = l.length := by omega
    rw [laws_toIntS.l0, if_neg h, hs, hil]; simp
  | cons a t ih =>
    intro i k s hd hk hi hs
    obtain ⟨k, rfl⟩ : ∃ m, k = m + 1 := ⟨k - 1, by simp at hk; omega⟩
    obtain ⟨hi', hr, hd'⟩ := drop_cons_info hd
    simp only [List.length_cons] at hk
    have hsl : s.length = l.length := by rw [hs]; simp; omega
    rw [laws_toIntS.l0, if_pos (by omega), if_pos (by omega), if_pos (by omega), w64_i i (by omega), hr]
    refine ih (i + 1) k _ hd' (by omega) (by omega) ?_
    rw [hs, Int.toNat_natCast]
    have ht : l.take (i + 1) = l.take i ++ [a] := by
      rw [List.take_succ_eq_append_getElem hi', ← hr, rd_nat, List.getD_eq_getElem?_getD, List.getElem?_eq_getElem hi']; rfl
    have hlt : (l.take i).length = i := by simp; omega
    rw [ht, List.set_append, if_neg (by omega), hlt, Nat.sub_self, show l.length - i = (l.length - (i + 1)) + 1 from by omega, List.replicate_succ, List.set_cons_zero, List.append_assoc]
    rfl
theorem toIntS_eq (k : Nat) (l : List Int) (hk : 3000000 ≤ k) (hl : l.length ≤ 1048576) : laws_toIntS.f k l = some l := by
  unfold laws_toIntS.f
  rw [if_pos (by omega), if_pos (by omega)]
  exact toIntS_l0 l hl l 0 k _ (by simp) (by omega) (by omega) (by simp)
theorem eqIntS_l0 (a b : List Int) (hl : a.length ≤ 1048576) (hab : a.length = b.length) : ∀ (t u : List Int) (i k : Nat), a.drop i = t → b.drop i = u → t.length < k →
    laws_eqIntS.l0 k a b i = some (decide (t = u)) := by
  intro t
  induction t with
  | nil =>
    intro u i k hd hu hk
    obtain ⟨k, rfl⟩ : ∃ m, k = m + 1 := ⟨k - 1, by simp at hk; omega⟩
    have : u = [] := by rw [← hu]; exact List.drop_eq_nil_of_le (by have := List.drop_eq_nil_iff.1 hd; omega)
    rw [laws_eqIntS.l0, if_neg (drop_nil_info hd), this]; simp
  | cons x t ih =>
    intro u i k hd hu hk
    obtain ⟨k, rfl⟩ : ∃ m, k = m + 1 := ⟨k - 1, by simp at hk; omega⟩
    obtain ⟨hi', hr, hd'⟩ := drop_cons_info hd
    simp only [List.length_cons] at hk
    cases u with
    | nil => have := List.drop_eq_nil_iff.1 hu; omega
    | cons y u =>
      obtain ⟨hj', hr2, hu'⟩ := drop_cons_info hu
      rw [laws_eqIntS.l0, if_pos (by omega), if_pos (by omega), if_pos (by omega), hr, hr2, w64_i i (by omega)]
      by_cases hxy : x = y
      · rw [if_pos hxy, ih u (i + 1) k hd' hu' (by omega)]; simp [hxy]
      · rw [if_neg hxy]; simp [hxy]
theorem eqIntS_eq (k : Nat) (a b : List Int) (hk : 3000000 ≤ k) (hl : a.length ≤ 1048576) : laws_eqIntS.f k a b = some (decide (a = b)) := by
  unfold laws_eqIntS.f
  by_cases h : a.length = b.length
  · rw [if_pos (by omega)]
    have := eqIntS_l0 a b hl h a b 0 k (by simp) (by simp) (by omega)
    simpa using this
  · rw [if_neg (by omega)]
    have : a ≠ b := fun e => h (by rw [e])
    simp [this]
theorem markIntS_l0 (n0 : Nat) (hn : n0 ≤ 1048576) : ∀ (d i k : Nat) (s : List Int) (m : Int), s.length = n0 → d = n0 - i → i ≤ n0 → d < k → 0 ≤ m → m + d ≤ 1152921504606846976 →
    laws_markIntS.l0 k s m i = some (m + d, s.take i ++ ramp m d) := by
  intro d
  induction d with
  | zero =>
    intro i k s m hs hd hi hk h0 h1
    obtain ⟨k, rfl⟩ : ∃ m, k = m + 1 := ⟨k - 1, by omega⟩
    rw [laws_markIntS.l0, if_neg (by omega)]
    simp only [ramp, List.append_nil]
    rw [List.take_of_length_le (by omega)]; simp
  | succ d ih =>
    intro i k s m hs hd hi hk h0 h1
    obtain ⟨k, rfl⟩ : ∃ m, k = m + 1 := ⟨k - 1, by omega⟩
    rw [laws_markIntS.l0, if_pos (by omega), if_pos (by omega), w64_i i (by omega), w64 (by omega) (by omega), Int.toNat_natCast]
    rw [ih (i + 1) k (s.set i m) (m + 1) (by simp [hs]) (by omega) (by omega) (by omega) (by omega) (by omega)]
    have ht : (s.set i m).take (i + 1) = s.take i ++ [m] := by
      rw [List.take_succ_eq_append_getElem (by simp; omega), List.getElem_set_self, List.take_set_of_le (Nat.le_refl _)]
    rw [ht, ramp, List.append_assoc]
    congr 2; omega
theorem markIntS_eq (k : Nat) (l : List Int) (m : Int) (hk : 3000000 ≤ k) (hl : l.length ≤ 1048576) (h0 : 0 ≤ m) (h1 : m ≤ 4611686018427387) : laws_markIntS.f k l m = some (m + l.length, ramp m l.length) := by
  unfold laws_markIntS.f
  have := markIntS_l0 l.length hl l.length 0 k l m rfl (by omega) (by omega) (by omega) h0 (by omega)
  simpa using this
theorem heldIntS_l0 (l : List Int) (hl : l.length ≤ 1048576) : ∀ (d i k : Nat) (m : Int), l.drop i = ramp m d → d < k → 0 ≤ m → m + d ≤ 1152921504606846976 →
    laws_heldIntS.l0 k l m i = some (m + d) := by
  intro d
  induction d with
  | zero =>
    intro i k m hd hk h0 h1
    obtain ⟨k, rfl⟩ : ∃ m, k = m + 1 := ⟨k - 1, by omega⟩
    rw [laws_heldIntS.l0, if_neg (drop_nil_info hd)]; simp
  | succ d ih =>
    intro i k m hd hk h0 h1
    obtain ⟨k, rfl⟩ : ∃ m, k = m + 1 := ⟨k - 1, by omega⟩
    obtain ⟨hi', hr, hd'⟩ := drop_cons_info hd
    rw [laws_heldIntS.l0, if_pos (by omega), if_pos (by omega), if_pos hr, w64_i i (by omega), w64 (by omega) (by omega), ih (i + 1) k (m + 1) hd' (by omega) (by omega) (by omega)]
    congr 1; omega
theorem heldIntS_eq (k : Nat) (n : Nat) (m : Int) (hk : 3000000 ≤ k) (hn : n ≤ 1048576) (h0 : 0 ≤ m) (h1 : m ≤ 4611686018427387) : laws_heldIntS.f k (ramp m n) m = some (m + n) := by
  unfold laws_heldIntS.f
  exact heldIntS_l0 (ramp m n) (by rw [ramp_length]; exact hn) n 0 k m (by simp) (by omega) h0 (by omega)
theorem l1In_eq (a b c : Int) : spec_l1In.f a b c = some (decide (b ≤ a ∧ a ≤ c)) := by
  unfold spec_l1In.f
  by_cases h : b ≤ a
  · rw [if_pos h]; simp [h]
  · rw [if_neg h]; simp [h]
/-- Numbers are lengths. -/
def lenOk (l : List Int) : Bool := decide (l.length ≤ 400) && okb 400 l && decide (tot l ≤ 400)
theorem lenOk_iff {l : List Int} : lenOk l = true ↔ l.length ≤ 400 ∧ okb 400 l = true ∧ tot l ≤ 400 := by simp [lenOk, and_assoc]
/-- Numbers are data. -/
def datOk (l : List Int) : Bool := decide (l.length ≤ 400) && okb 10006 l
theorem datOk_iff {l : List Int} : datOk l = true ↔ l.length ≤ 400 ∧ okb 10006 l = true := by simp [datOk]
theorem okb_le {m m' : Int} {l : List Int} (h : okb m l = true) (hm : m ≤ m') : okb m' l = true := by
  rw [okb_iff] at h ⊢; exact fun n hn => by have := h n hn; omega
def segOk (l d : List Int) : Bool := lenOk l && datOk d && decide (tot l = d.length)
theorem segOk_iff {l d : List Int} : segOk l d = true ↔ lenOk l = true ∧ datOk d = true ∧ tot l = d.length := by simp [segOk, and_assoc]
theorem l3Lengths_l0 (x0 l : List Int) (hl : l.length ≤ 1048576) : ∀ (t : List Int) (i k : Nat) (s : Int), l.drop i = t → t.length < k → 0 ≤ s → s ≤ 401 →
    spec_l3Lengths.l0 k x0 s l l.length i = some (okb 400 t && decide (x0.length ≤ 400) && decide (s + tot t ≤ 400)) := by
  intro t
  induction t with
  | nil =>
    intro i k s hd hk hs hs2
    obtain ⟨k, rfl⟩ : ∃ m, k = m + 1 := ⟨k - 1, by simp at hk; omega⟩
    rw [spec_l3Lengths.l0, if_neg (drop_nil_info hd)]
    by_cases h : x0.length ≤ 400
    · rw [if_pos (by omega)]; simp [tot, h, okb_nil]
    · rw [if_neg (by omega)]; simp [h]
  | cons a t ih =>
    intro i k s hd hk hs hs2
    obtain ⟨k, rfl⟩ : ∃ m, k = m + 1 := ⟨k - 1, by simp at hk; omega⟩
    obtain ⟨hi, hr, hd'⟩ := drop_cons_info hd
    simp only [List.length_cons] at hk
    rw [spec_l3Lengths.l0, if_pos (by omega), if_pos (by omega), if_pos (by omega), hr, l1In_eq, okb_cons]
    simp only [Option.bind_some]
    by_cases ha : 0 ≤ a ∧ a ≤ 400
    · rw [if_pos (by simp [ha]), w64_i i (by omega), w64 (by omega) (by omega), ih (i + 1) k _ hd' (by omega) (by rw [mn_def]; split <;> omega) (by rw [mn_def]; split <;> omega)]
      rw [decide_eq_true ha, Bool.true_and]
      cases hok : okb 400 t with
      | false => simp
      | true =>
        have := tot_nonneg hok
        congr 2
        rw [mn_def, decide_eq_decide]; simp only [tot]; split <;> constructor <;> intro _ <;> omega
    · rw [if_neg (by simp [ha])]; simp [ha]
theorem l3Lengths_eq (k : Nat) (l : List Int) (hk : 3000000 ≤ k) (hl : l.length ≤ 1048576) : spec_l3Lengths.f k l = some (lenOk l) := by
  unfold spec_l3Lengths.f
  have := l3Lengths_l0 l l hl l 0 k 0 (by simp) (by omega) (by omega) (by omega)
  rw [show ((0 : Nat) : Int) = 0 from rfl] at this
  rw [this]; unfold lenOk; congr 1
  cases okb 400 l <;> cases decide (l.length ≤ 400) <;> simp
theorem l3Numbers_l0 (l : List Int) (hl : l.length ≤ 1048576) : ∀ (t : List Int) (i k : Nat), l.drop i = t → t.length < k →
    spec_l3Numbers.l0 k l l.length i = some (okb 10006 t) := by
  intro t
  induction t with
  | nil =>
    intro i k hd hk
    obtain ⟨k, rfl⟩ : ∃ m, k = m + 1 := ⟨k - 1, by simp at hk; omega⟩
    rw [spec_l3Numbers.l0, if_neg (drop_nil_info hd)]; rfl
  | cons a t ih =>
    intro i k hd hk
    obtain ⟨k, rfl⟩ : ∃ m, k = m + 1 := ⟨k - 1, by simp at hk; omega⟩
    obtain ⟨hi, hr, hd'⟩ := drop_cons_info hd
    simp only [List.length_cons] at hk
    rw [spec_l3Numbers.l0, if_pos (by omega), if_pos (by omega), if_pos (by omega), hr, l1In_eq, okb_cons]
    simp only [Option.bind_some]
    by_cases ha : 0 ≤ a ∧ a ≤ 10006
    · rw [if_pos (by simp [ha]), w64_i i (by omega), ih (i + 1) k hd' (by omega)]; simp [ha]
    · rw [if_neg (by simp [ha])]; simp [ha]
theorem l3Numbers_eq (k : Nat) (l : List Int) (hk : 3000000 ≤ k) (hl : l.length ≤ 1048576) : spec_l3Numbers.f k l = some (okb 10006 l) := by
  unfold spec_l3Numbers.f
  exact l3Numbers_l0 l hl l 0 k (by simp) (by omega)
theorem l3Total_l0 (l : List Int) (hl : l.length ≤ 1048576) (hok : okb 1048576 l = true) : ∀ (t : List Int) (i k : Nat) (s : Int), l.drop i = t → t.length < k → 0 ≤ s → s ≤ 1048576 * i →
    spec_l3Total.l0 k s l l.length i = some (s + tot t) := by
  intro t
  induction t with
  | nil =>
    intro i k s hd hk hs hs2
    obtain ⟨k, rfl⟩ : ∃ m, k = m + 1 := ⟨k - 1, by simp at hk; omega⟩
    rw [spec_l3Total.l0, if_neg (drop_nil_info hd)]; simp [tot]
  | cons a t ih =>
    intro i k s hd hk hs hs2
    obtain ⟨k, rfl⟩ : ∃ m, k = m + 1 := ⟨k - 1, by simp at hk; omega⟩
    obtain ⟨hi, hr, hd'⟩ := drop_cons_info hd
    have hb := okb_iff.1 hok a (by rw [← hr, rd_nat]; exact getD_mem hi)
    simp only [List.length_cons] at hk
    rw [spec_l3Total.l0, if_pos (by omega), if_pos (by omega), if_pos (by omega), hr, w64 (by omega) (by omega), w64_i i (by omega), ih (i + 1) k (s + a) hd' (by omega) (by omega) (by omega)]
    simp only [tot]; congr 1; omega
theorem l3Total_eq (k : Nat) (l : List Int) (hk : 3000000 ≤ k) (hl : l.length ≤ 1048576) (hok : okb 1048576 l = true) : spec_l3Total.f k l = some (tot l) := by
  unfold spec_l3Total.f
  have := l3Total_l0 l hl hok l 0 k 0 (by simp) (by omega) (by omega) (by omega)
  simpa using this
theorem spec_SegmentsValid_eq (k : Nat) (l d : List Int) (hk : 3000000 ≤ k) (hl : l.length ≤ 1048576) (hd : d.length ≤ 1048576) : spec_SegmentsValid.f k l d = some (segOk l d) := by
  unfold spec_SegmentsValid.f
  rw [l3Lengths_eq k l hk hl]
  simp only [Option.bind_some]
  cases h : lenOk l with
  | false => simp [segOk, h]
  | true =>
    have h1 := lenOk_iff.1 h
    rw [l3Numbers_eq k d hk hd, l3Total_eq k l hk hl (okb_le h1.2.1 (by omega))]
    simp only [Option.bind_some, if_true]
    cases h2 : okb 10006 d with
    | false => simp [segOk, datOk, h2]
    | true =>
      simp only [if_true, segOk, datOk, h, h2, Bool.true_and, Bool.and_true]
      congr 1
      by_cases h3 : tot l = d.length
      · have : d.length ≤ 400 := by omega
        simp [h3, this]
      · have e1 : (tot l == (d.length : Int)) = false := by simp [h3]
        rw [e1]; simp [h3]
theorem lengthsOk_eq (k : Nat) (l : List Int) (hk : 3000000 ≤ k) (hl : l.length ≤ 1048576) : impl_lengthsOk.f k l = some (lenOk l) := by
  unfold impl_lengthsOk.f
  by_cases h : l.length ≤ 400
  · rw [if_pos (by omega), within_eq l 400 hl]
    simp only [Option.bind_some]
    cases h2 : okb 400 l with
    | false => simp [lenOk, h2]
    | true =>
      rw [if_pos rfl, total_eq k l hk hl (okb_le h2 (by omega))]
      simp [lenOk, h, h2]
  · rw [if_neg (by omega)]; simp [lenOk, h]
theorem dataOk_eq (l : List Int) (hl : l.length ≤ 1048576) : impl_dataOk.f l = some (datOk l) := by
  unfold impl_dataOk.f
  by_cases h : l.length ≤ 400
  · rw [if_pos (by omega), within_eq l 10006 hl]; simp [datOk, h]
  · rw [if_neg (by omega)]; simp [datOk, h]
theorem impl_SegmentsValid_eq (k : Nat) (l d : List Int) (hk : 3000000 ≤ k) (hl : l.length ≤ 1048576) (hd : d.length ≤ 1048576) : impl_SegmentsValid.f k l d = some (segOk l d) := by
  unfold impl_SegmentsValid.f
  rw [lengthsOk_eq k l hk hl, dataOk_eq d hd]
  simp only [Option.bind_some]
  cases h : lenOk l with
  | false => simp [segOk, h]
  | true =>
    have h1 := lenOk_iff.1 h
    rw [total_eq k l hk hl (okb_le h1.2.1 (by omega))]
    cases h2 : datOk d with
    | false => simp [segOk, h2]
    | true =>
      simp only [segOk, h, h2, Bool.true_and, if_true, Option.bind_some]
      congr 1
      by_cases h3 : tot l = d.length
      · simp [h3]
      · have e1 : ((d.length : Int) == tot l) = false := by simp; omega
        rw [e1]; simp [h3]
/-- Where segments begin, the first one at s. -/
def startsFrom (s : Int) : List Int → List Int
  | [] => []
  | a :: t => s :: startsFrom (s + a) t
/-- Numbers from i on, as many as d. -/
def ups : List Int → List Int
  | [] => []
  | a :: t => ramp 0 a.toNat ++ ups t
/-- Rounds of a loop within a loop. -/
def cst : List Int → Nat
  | [] => 1
  | a :: t => a.toNat + 2 + cst t
theorem cst_le {m : Int} {l : List Int} (h : okb m l = true) : (cst l : Int) = tot l + 2 * l.length + 1 := by
  rw [okb_iff] at h
  induction l with
  | nil => rfl
  | cons a t ih =>
    have h1 := h a (by simp)
    have h2 := ih (fun n hn => h n (by simp [hn]))
    simp only [cst, tot, List.length_cons]; omega
theorem cst_len {l : List Int} (h : lenOk l = true) : cst l ≤ 1201 := by
  obtain ⟨h1, h2, h3⟩ := lenOk_iff.1 h
  have := cst_le h2; omega
theorem len_append1 {α : Type} (a : List α) (x : α) : (a ++ [x]).length = a.length + 1 := by simp
def gatOk (d a : List Int) : Bool := datOk d && (okb (d.length - 1) a && decide (a.length ≤ 400))
def gatV (d a : List Int) : List Int × Bool := if gatOk d a = true then (a.map fun i => rd d i, true) else ([], false)
def staV (l : List Int) : List Int × Bool := if lenOk l = true then (startsFrom 0 l, true) else ([], false)
theorem l3Starts_l0 (l : List Int) (hl : l.length ≤ 400) (hok : okb 400 l = true) : ∀ (t : List Int) (i k : Nat) (s : List Int) (c : Int), l.drop i = t → t.length < k → s.length = i → 0 ≤ c → c ≤ 400 * i →
    spec_l3Starts.l0 k s c l l.length i = some (s ++ startsFrom c t) := by
  intro t
  induction t with
  | nil =>
    intro i k s c hd hk hs h0 h1
    obtain ⟨k, rfl⟩ : ∃ m, k = m + 1 := ⟨k - 1, by simp at hk; omega⟩
    rw [spec_l3Starts.l0, if_neg (drop_nil_info hd)]; simp [startsFrom]
  | cons a t ih =>
    intro i k s c hd hk hs h0 h1
    obtain ⟨k, rfl⟩ : ∃ m, k = m + 1 := ⟨k - 1, by simp at hk; omega⟩
    obtain ⟨hi, hr, hd'⟩ := drop_cons_info hd
    have hb := okb_iff.1 hok a (by rw [← hr, rd_nat]; exact getD_mem hi)
    simp only [List.length_cons] at hk
    rw [spec_l3Starts.l0, if_pos (by omega), if_pos (by omega), if_pos (by omega), if_pos (by omega), hr, w64 (by omega) (by omega), w64_i i (by omega),
      ih (i + 1) k _ (c + a) hd' (by omega) (by simp [hs]) (by omega) (by omega)]
    simp [startsFrom]
theorem l3Starts_eq (k : Nat) (l : List Int) (hk : 3000000 ≤ k) (h : lenOk l = true) : spec_l3Starts.f k l = some (startsFrom 0 l) := by
  obtain ⟨h1, h2, h3⟩ := lenOk_iff.1 h
  unfold spec_l3Starts.f
  have := l3Starts_l0 l h1 h2 l 0 k [] 0 (by simp) (by omega) (by simp) (by omega) (by omega)
  simpa using this
def upV (l : List Int) : List Int × Bool := if lenOk l = true then (ups l, true) else ([], false)
theorem ramp_succ (m : Int) (d : Nat) : ramp m (d + 1) = m :: ramp (m + 1) d := rfl
theorem startsFrom_length (s : Int) (l : List Int) : (startsFrom s l).length = l.length := by
  induction l generalizing s with
  | nil => rfl
  | cons a t ih => simp [startsFrom, ih]
theorem ups_length {m : Int} {l : List Int} (h : okb m l = true) : ((ups l).length : Int) = tot l := by
  rw [okb_iff] at h
  induction l with
  | nil => rfl
  | cons a t ih =>
    have h1 := h a (by simp)
    have h2 := ih (fun n hn => h n (by simp [hn]))
    simp only [ups, tot, List.length_append, ramp_length]; omega
theorem gatV_len (d a : List Int) : (gatV d a).1.length ≤ 1048576 := by
  unfold gatV; split
  · rename_i h; simp only [gatOk, Bool.and_eq_true, decide_eq_true_eq] at h; simp; omega
  · simp
theorem staV_len (l : List Int) : (staV l).1.length ≤ 1048576 := by
  unfold staV; split
  · rename_i h; have := lenOk_iff.1 h; rw [startsFrom_length]; omega
  · simp
theorem upV_len (l : List Int) : (upV l).1.length ≤ 1048576 := by
  unfold upV; split
  · rename_i h; have := lenOk_iff.1 h; have := ups_length this.2.1; simp only; omega
  · simp
theorem lt0_1 (a : Nat) : ((1 : Int) + a < 0) = False := by simp; omega
theorem lt0_2 (a b : Nat) : ((1 : Int) + a + b < 0) = False := by simp; omega
theorem lt0_3 (a b c : Nat) : ((1 : Int) + a + b + c < 0) = False := by simp; omega
theorem lt0_4 (a b c d : Nat) : ((1 : Int) + a + b + c + d < 0) = False := by simp; omega
/-- The order of places: by what stands there, then by the place. -/
def leZ (d : List Int) (x y : Int) : Prop := rd d x < rd d y ∨ rd d x = rd d y ∧ x ≤ y
/-- A row of the first j places from s on, in order. -/
def SR (d : List Int) (s j : Nat) (R : List Int) : Prop := R.Perm ((List.range j).map fun (t : Nat) => ((s + t : Nat) : Int)) ∧ R.Pairwise (leZ d)
theorem SR.len {d : List Int} {s j : Nat} {R : List Int} (h : SR d s j R) : R.length = j := by have := h.1.length_eq; simpa using this
theorem SR.mem {d : List Int} {s j : Nat} {R : List Int} (h : SR d s j R) {x : Int} (hx : x ∈ R) : (s : Int) ≤ x ∧ x < (s + j : Nat) := by
  have := h.1.mem_iff.1 hx
  obtain ⟨t, ht, e⟩ := List.mem_map.1 this
  have := List.mem_range.1 ht
  omega
theorem SR.uniq {d : List Int} {s j : Nat} {R R' : List Int} (h : SR d s j R) (h' : SR d s j R') : R = R' :=
  List.Perm.eq_of_pairwise (le := leZ d) (fun a b _ _ h1 h2 => by unfold leZ at h1 h2; omega) h.2 h'.2 (h.1.trans h'.1.symm)
theorem SR.zero (d : List Int) (s : Nat) : SR d s 0 [] := ⟨by simp, List.Pairwise.nil⟩
theorem SR.insert {d : List Int} {s j p : Nat} {R : List Int} (h : SR d s j R) (hp : p ≤ j) (h1 : p = 0 ∨ rd d (R.getD (p - 1) 0) ≤ rd d ((s + j : Nat) : Int)) (h2 : ∀ t, p ≤ t → t < j → rd d ((s + j : Nat) : Int) < rd d (R.getD t 0)) :
    SR d s (j + 1) (R.take p ++ ((s + j : Nat) : Int) :: R.drop p) := by
  have hl := h.len
  have hg : ∀ t, t < j → ∃ ht : t < R.length, R.getD t 0 = R[t] := fun t ht => ⟨by omega, by rw [List.getD_eq_getElem?_getD, List.getElem?_eq_getElem (by omega)]; rfl⟩
  have hpw := List.pairwise_iff_getElem.1 h.2
  refine ⟨?_, ?_⟩
  · rw [List.range_succ, List.map_append]
    refine (List.perm_middle.trans ?_)
    rw [List.take_append_drop]
    exact (List.Perm.cons _ h.1).trans (List.perm_append_singleton _ _).symm
  · rw [List.pairwise_append]
    refine ⟨h.2.sublist (List.take_sublist _ _), ?_, ?_⟩
    · refine List.Pairwise.cons (fun b hb => ?_) (h.2.sublist (List.drop_sublist _ _))
      obtain ⟨t, ht, rfl⟩ := List.getElem_of_mem hb
      rw [List.length_drop] at ht
      rw [List.getElem_drop]
      have := h2 (p + t) (by omega) (by omega)
      obtain ⟨h3, h4⟩ := hg (p + t) (by omega)
      rw [h4] at this
      exact Or.inl this
    · intro a ha b hb
      obtain ⟨t, ht, rfl⟩ := List.getElem_of_mem ha
      rw [List.length_take] at ht
      rw [List.getElem_take]
      rcases List.mem_cons.1 hb with rfl | hb
      · have hm := h.mem (List.getElem_mem (show t < R.length by omega))
        rcases h1 with h1 | h1
        · omega
        · obtain ⟨h3, h4⟩ := hg (p - 1) (by omega)
          rw [h4] at h1
          by_cases e : t = p - 1
          · subst e; unfold leZ; omega
          · have := hpw t (p - 1) (by omega) h3 (by omega)
            unfold leZ at this ⊢; omega
      · obtain ⟨u, hu, rfl⟩ := List.getElem_of_mem hb
        rw [List.length_drop] at hu
        rw [List.getElem_drop]
        exact hpw t (p + u) (by omega) (by omega) (by omega)
theorem ext_all {α : Type} (d : Array α) {n : Nat} (h : d.size = n) : d.extract 0 n = d := by subst h; exact Array.extract_size
theorem segS_SR (d : List Int) (s n : Nat) (hs : s + n ≤ d.length) : SR d s n (Go.Proofs.YtnehpbkjmmadkaaW.SortW.segS d s n) := by
  by_cases hn : n = 0
  · subst hn
    have := Go.Proofs.YtnehpbkjmmadkaaW.SortW.segS_len d s 0
    rw [List.length_eq_zero_iff.1 this]; exact SR.zero d s
  have hz : (Go.Proofs.YtnehpbkjmmadkaaW.SortW.segA d s n).size = n := Go.Proofs.YtnehpbkjmmadkaaW.SortW.segA_size d s n
  obtain ⟨h1, h2⟩ := Go.Proofs.YtnehpbkjmmadkaaW.Stab.stable_holds (key := Go.Proofs.YtnehpbkjmmadkaaW.SortW.keyD d) (idx := fun x => x.val - s) n (Go.Proofs.YtnehpbkjmmadkaaW.SortW.segA d s n) (by omega) (fun k hk => by
    show ((Go.Proofs.YtnehpbkjmmadkaaW.SortW.segA d s n)[k]!).val - s = k
    rw [Go.Proofs.YtnehpbkjmmadkaaW.SortW.segA_at d s n k hk hs]; omega)
  have hz2 : (Go.Proofs.YtnehpbkjmmadkaaW.Stab.stable (Go.Proofs.YtnehpbkjmmadkaaW.Stab.ltK (Go.Proofs.YtnehpbkjmmadkaaW.SortW.keyD d)) n (Go.Proofs.YtnehpbkjmmadkaaW.SortW.segA d s n)).size = n := by rw [Go.Proofs.YtnehpbkjmmadkaaW.SortW.stable_size, hz]
  have hp : (Go.Proofs.YtnehpbkjmmadkaaW.Stab.stable (Go.Proofs.YtnehpbkjmmadkaaW.Stab.ltK (Go.Proofs.YtnehpbkjmmadkaaW.SortW.keyD d)) n (Go.Proofs.YtnehpbkjmmadkaaW.SortW.segA d s n)).toList.Perm (Go.Proofs.YtnehpbkjmmadkaaW.SortW.segA d s n).toList := by
    have := h1.2.2
    rw [ext_all _ hz2, ext_all _ hz] at this
    exact this
  have hv : (Go.Proofs.YtnehpbkjmmadkaaW.SortW.segA d s n).toList.map (fun x => (x.val : Int)) = (List.range n).map fun (t : Nat) => ((s + t : Nat) : Int) := by
    apply List.ext_getElem
    · simp [Go.Proofs.YtnehpbkjmmadkaaW.SortW.segA]
    · intro k h1 h2
      have hk : k < n := by simpa using h2
      have := Go.Proofs.YtnehpbkjmmadkaaW.SortW.segA_at d s n k hk hs
      rw [getElem!_pos _ k (by omega)] at this
      rw [List.getElem_map, List.getElem_map, List.getElem_range, Array.getElem_toList, this]
  refine ⟨?_, ?_⟩
  · unfold Go.Proofs.YtnehpbkjmmadkaaW.SortW.segS
    rw [← hv]
    exact hp.map _
  · have hmem : ∀ x ∈ (Go.Proofs.YtnehpbkjmmadkaaW.Stab.stable (Go.Proofs.YtnehpbkjmmadkaaW.Stab.ltK (Go.Proofs.YtnehpbkjmmadkaaW.SortW.keyD d)) n (Go.Proofs.YtnehpbkjmmadkaaW.SortW.segA d s n)).toList, s ≤ x.val := fun x hx => by
      have h3 := List.mem_map_of_mem (f := fun x : Fin (d.length - 1 + 1) => (x.val : Int)) (hp.mem_iff.1 hx)
      rw [hv] at h3
      obtain ⟨t, _, e⟩ := List.mem_map.1 h3
      have e : ((s + t : Nat) : Int) = (x.val : Int) := e
      omega
    unfold Go.Proofs.YtnehpbkjmmadkaaW.SortW.segS
    rw [List.pairwise_map, List.pairwise_iff_getElem]
    intro i j hi hj hij
    have hi' : i < (Go.Proofs.YtnehpbkjmmadkaaW.Stab.stable (Go.Proofs.YtnehpbkjmmadkaaW.Stab.ltK (Go.Proofs.YtnehpbkjmmadkaaW.SortW.keyD d)) n (Go.Proofs.YtnehpbkjmmadkaaW.SortW.segA d s n)).size := by simpa using hi
    have hj' : j < (Go.Proofs.YtnehpbkjmmadkaaW.Stab.stable (Go.Proofs.YtnehpbkjmmadkaaW.Stab.ltK (Go.Proofs.YtnehpbkjmmadkaaW.SortW.keyD d)) n (Go.Proofs.YtnehpbkjmmadkaaW.SortW.segA d s n)).size := by simpa using hj
    have h3 := h2 i j (Nat.zero_le _) hij (by omega)
    rw [getElem!_pos _ i hi', getElem!_pos _ j hj'] at h3
    have h4 := hmem _ (List.getElem_mem hi)
    have h5 := hmem _ (List.getElem_mem hj)
    rw [Array.getElem_toList] at h4 h5 ⊢
    rw [Array.getElem_toList]
    have key : ∀ x y : Fin (d.length - 1 + 1), Go.Proofs.YtnehpbkjmmadkaaW.Stab.leK (Go.Proofs.YtnehpbkjmmadkaaW.SortW.keyD d) (fun x => x.val - s) x y → s ≤ x.val → s ≤ y.val → leZ d (x.val : Int) (y.val : Int) := by
      intro x y h3 h4 h5
      unfold Go.Proofs.YtnehpbkjmmadkaaW.Stab.leK Go.Proofs.YtnehpbkjmmadkaaW.SortW.keyD at h3
      have h3 : d.getD x.val 0 < d.getD y.val 0 ∨ d.getD x.val 0 = d.getD y.val 0 ∧ x.val - s ≤ y.val - s := h3
      unfold leZ rd
      simp only [Int.toNat_natCast]
      omega
    exact key _ _ h3 h4 h5
def sortV (l d : List Int) : List Int × Bool := if segOk l d = true then (Go.Proofs.YtnehpbkjmmadkaaW.SortW.outS d (l.map Int.toNat) l.length, true) else ([], false)
theorem nats_toNat {l : List Int} (h : ∀ n ∈ l, 0 ≤ n) : nats (l.map Int.toNat) = l := by
  induction l with
  | nil => rfl
  | cons a t ih =>
    have h1 := ih (fun n hn => h n (List.mem_cons_of_mem _ hn))
    have h2 := h a List.mem_cons_self
    unfold nats at h1 ⊢
    rw [List.map_cons, List.map_cons, h1, Int.toNat_of_nonneg h2]
theorem sum_toNat {l : List Int} (h : ∀ n ∈ l, 0 ≤ n) : (((l.map Int.toNat).sum : Nat) : Int) = tot l := by
  induction l with
  | nil => rfl
  | cons a t ih =>
    have h1 := ih (fun n hn => h n (List.mem_cons_of_mem _ hn))
    have h2 := h a List.mem_cons_self
    rw [List.map_cons, List.sum_cons, tot, ← h1]; omega
theorem sortLs_of {l d : List Int} (h : segOk l d = true) : sortLs l d := by
  obtain ⟨h1, h2, h3⟩ := segOk_iff.1 h
  obtain ⟨h4, h5, h6⟩ := lenOk_iff.1 h1
  obtain ⟨h7, h8⟩ := datOk_iff.1 h2
  have h9 : ∀ n ∈ l, 0 ≤ n := fun n hn => (okb_iff.1 h5 n hn).1
  have := sum_toNat h9
  exact ⟨nats_toNat h9, h4, by omega, h7, fun z hz => by have := okb_iff.1 h8 z hz; omega⟩
theorem sortV_len (l d : List Int) : (sortV l d).1.length ≤ 1048576 := by
  unfold sortV; split
  · rename_i h
    have h1 := sortLs_of h
    show (Go.Proofs.YtnehpbkjmmadkaaW.SortW.outS _ _ _).length ≤ _
    rw [Go.Proofs.YtnehpbkjmmadkaaW.SortW.outS_len, List.take_of_length_le (by rw [List.length_map]; exact Nat.le_refl _)]; have := h1.2.2.1; have := h1.2.2.2.1; omega
  · simp
theorem impl_Sort_eq (k : Nat) (l d : List Int) (hk : 3000000 ≤ k) (hl : l.length ≤ 1048576) (hd : d.length ≤ 1048576) : impl_SortSegments.f k l d = some (sortV l d) := by
  unfold impl_SortSegments.f
  rw [impl_SegmentsValid_eq k l d hk hl hd]
  simp only [Option.bind_some]
  cases h : segOk l d with
  | false => simp [sortV, h]
  | true => rw [if_pos rfl, if_pos (sortLs_of h)]; simp [sortV, h]
theorem starts_at (l : List Int) : ∀ (i : Nat) (s : Int), i < l.length → (startsFrom s l).getD i 0 = s + tot (l.take i) := by
  induction l with
  | nil => intro i s h; simp at h
  | cons a t ih =>
    intro i s h
    cases i with
    | zero => simp [startsFrom, tot]
    | succ i =>
      rw [startsFrom, List.getD_cons_succ, ih i (s + a) (by simpa using h), List.take_succ_cons, tot]; omega
theorem spec_Sort_l2 (l d st O R : List Int) (N i m : Int) (s j : Nat) (V : List Int × Bool) (hO : O.length = s) (hS : SR d s j R) (hsj : s + j < d.length) (hd : d.length ≤ 400) (hwj : wrap64 ((j : Int) + 1) = ((j + 1 : Nat) : Int)) (c : Nat)
    (ih : ∀ k R', c < k → SR d s (j + 1) R' → spec_SortSegments.l1 k l d (O ++ R') s st N i m ((j + 1 : Nat) : Int) = some V) :
    ∀ (p k : Nat), p ≤ j → (∀ t, p ≤ t → t < j → rd d ((s + j : Nat) : Int) < rd d (R.getD t 0)) → p + 1 + c < k → spec_SortSegments.l2 k l d (O ++ R) s ((s + j : Nat) : Int) ((s + p : Nat) : Int) st N i m j = some V := by
  have hl := hS.len
  have htk : ∀ p, p ≤ j → (O ++ R).take (s + p) = O ++ R.take p := fun p hp => by rw [List.take_append, hO, List.take_of_length_le (by omega)]; congr 2; omega
  have hdr : ∀ p, p ≤ j → (O ++ R).drop (s + p) = R.drop p := fun p hp => by rw [List.drop_append, hO, List.drop_of_length_le (by omega)]; simp
  have fin : ∀ (p k : Nat), p ≤ j → c < k → (p = 0 ∨ rd d (R.getD (p - 1) 0) ≤ rd d ((s + j : Nat) : Int)) → (∀ t, p ≤ t → t < j → rd d ((s + j : Nat) : Int) < rd d (R.getD t 0)) →
      spec_SortSegments.l1 k l d (((([] : List Int) ++ (O ++ R).take (((s + p : Nat) : Int)).toNat) ++ [((s + j : Nat) : Int)]) ++ (O ++ R).drop (((s + p : Nat) : Int)).toNat) s st N i m ((j + 1 : Nat) : Int) = some V := by
    intro p k hp hk h1 h2
    have := ih k _ hk (hS.insert hp h1 h2)
    rw [Int.toNat_natCast, htk p hp, hdr p hp]
    simpa using this
  intro p
  induction p with
  | zero =>
    intro k hp h2 hk
    obtain ⟨k, rfl⟩ : ∃ q, k = q + 1 := ⟨k - 1, by omega⟩
    have := fin 0 k (by omega) (by omega) (.inl rfl) h2
    rw [spec_SortSegments.l2, if_neg (by omega)]
    simp only [Option.bind_some]
    rw [if_pos (by omega), if_pos (by rw [List.length_append]; omega), if_pos (by rw [List.length_take, List.length_append]; simp; omega), if_pos (by simp; omega), if_pos (by simp; omega), hwj]
    exact this
  | succ p ihp =>
    intro k hp h2 hk
    obtain ⟨k, rfl⟩ : ∃ q, k = q + 1 := ⟨k - 1, by omega⟩
    have e1 : wrap64 (((s + (p + 1) : Nat) : Int) - 1) = ((s + p : Nat) : Int) := by rw [w64 (by omega) (by omega)]; omega
    have e2 : rd (O ++ R) ((s + p : Nat) : Int) = R.getD p 0 := by
      rw [rd_nat, List.getD_eq_getElem?_getD, List.getElem?_append_right (by omega), hO, List.getD_eq_getElem?_getD, show s + p - s = p by omega]
    have e3 := hS.mem (x := R.getD p 0) (by rw [List.getD_eq_getElem?_getD, List.getElem?_eq_getElem (by omega)]; exact List.getElem_mem _)
    rw [spec_SortSegments.l2, if_pos (by omega), e1, if_pos (by omega), if_pos (by rw [List.length_append]; omega), e2, if_pos (by omega), if_pos (by omega), if_pos (by omega), if_pos (by omega)]
    by_cases hc : rd d (R.getD p 0) > rd d ((s + j : Nat) : Int)
    · rw [if_pos hc]
      exact ihp k (by omega) (fun t ht htj => by
        by_cases e : t = p
        · subst e; exact hc
        · exact h2 t (by omega) htj) (by omega)
    · rw [if_neg hc]
      have := fin (p + 1) k hp (by omega) (.inr (by rw [Nat.add_sub_cancel]; omega)) h2
      simp only [Option.bind_some]
      rw [if_pos (by omega), if_pos (by rw [List.length_append]; omega), if_pos (by rw [List.length_take, List.length_append]; simp; omega), if_pos (by simp; omega), if_pos (by simp; omega), hwj]
      exact this
theorem spec_Sort_l1 (l d st : List Int) (N : Int) (ls : List Nat) (V : List Int × Bool) (hn : ls.length ≤ 400) (hs : ls.sum = d.length) (hd : d.length ≤ 400) (i : Nat) (hi : i < ls.length) (S m : Nat) (hS : S = (ls.take i).sum) (hm : m = ls.getD i 0) (hSm : S + m ≤ d.length) (c : Nat)
    (ih : ∀ k, c < k → spec_SortSegments.l0 k l d (Go.Proofs.YtnehpbkjmmadkaaW.SortW.outS d ls (i + 1)) st N ((i + 1 : Nat) : Int) = some V) :
    ∀ (q j k : Nat) (R : List Int), q = m - j → j ≤ m → SR d S j R → q * 403 + 1 + c < k → spec_SortSegments.l1 k l d (Go.Proofs.YtnehpbkjmmadkaaW.SortW.outS d ls i ++ R) S st N i m j = some V := by
  have hol : (Go.Proofs.YtnehpbkjmmadkaaW.SortW.outS d ls i).length = S := by rw [Go.Proofs.YtnehpbkjmmadkaaW.SortW.outS_len, hS]
  intro q
  induction q with
  | zero =>
    intro j k R hq hj hR hk
    obtain ⟨k, rfl⟩ : ∃ m, k = m + 1 := ⟨k - 1, by omega⟩
    rw [spec_SortSegments.l1, if_neg (by omega), w64_i i (by omega)]
    have := ih k (by omega)
    have hmj : m = j := by omega
    subst hmj
    rw [Go.Proofs.YtnehpbkjmmadkaaW.SortW.outS, ← hS, ← hm, ← hR.uniq (segS_SR d S m hSm)] at this
    exact this
  | succ q ihq =>
    intro j k R hq hj hR hk
    obtain ⟨k, rfl⟩ : ∃ m, k = m + 1 := ⟨k - 1, by omega⟩
    rw [spec_SortSegments.l1, if_pos (by omega), w64 (x := (S : Int) + j) (by omega) (by omega)]
    have := spec_Sort_l2 l d st (Go.Proofs.YtnehpbkjmmadkaaW.SortW.outS d ls i) R N i m S j V hol hR (by omega) hd (w64_i j (by omega)) (q * 403 + 1 + c) (fun k R' hk hR' => ihq (j + 1) k R' (by omega) (by omega) hR' hk) j k (Nat.le_refl _) (fun t h1 h2 => by omega) (by omega)
    rw [List.length_append, hol, hR.len]
    exact this
theorem spec_Sort_l0 (l d : List Int) (ls : List Nat) (hl : l = nats ls) (hn : ls.length ≤ 400) (hs : ls.sum = d.length) (hd : d.length ≤ 400) (ht : ∀ i, i ≤ ls.length → tot (l.take i) = ((ls.take i).sum : Nat)) (C : Nat) (hC : 400 * 403 + 10 ≤ C) :
    ∀ (q i k : Nat), q = ls.length - i → i ≤ ls.length → q * C < k → spec_SortSegments.l0 k l d (Go.Proofs.YtnehpbkjmmadkaaW.SortW.outS d ls i) (startsFrom 0 l) ls.length i = some (Go.Proofs.YtnehpbkjmmadkaaW.SortW.outS d ls ls.length, true) := by
  have hll : l.length = ls.length := by rw [hl]; unfold nats; rw [List.length_map]
  have hsl : (startsFrom 0 l).length = ls.length := by rw [startsFrom_length, hll]
  intro q
  induction q with
  | zero =>
    intro i k hd hi hk
    obtain ⟨k, rfl⟩ : ∃ m, k = m + 1 := ⟨k - 1, by omega⟩
    obtain rfl : i = ls.length := by omega
    rw [spec_SortSegments.l0, if_neg (by omega)]
  | succ q ih =>
    intro i k hq hi hk
    obtain ⟨k, rfl⟩ : ∃ m, k = m + 1 := ⟨k - 1, by omega⟩
    rw [Nat.succ_mul] at hk
    have hi' : i < ls.length := by omega
    have h1 := take_sum ls i hi'
    have h2 := take_sum_le ls (i + 1)
    have hm : ls.getD i 0 = ls[i] := by simp [List.getD_eq_getElem?_getD, List.getElem?_eq_getElem hi']
    have hr : rd l (i : Int) = ((ls.getD i 0 : Nat) : Int) := by
      rw [rd_nat, hl]; unfold nats
      simp [List.getD_eq_getElem?_getD, List.getElem?_eq_getElem hi']
    have hst : rd (startsFrom 0 l) (i : Int) = (((ls.take i).sum : Nat) : Int) := by
      rw [rd_nat, starts_at l i 0 (by omega), ht i (by omega)]; omega
    rw [spec_SortSegments.l0, if_pos (by omega), if_pos (by omega), if_pos (by omega), if_pos (by omega), hr, hst]
    have := spec_Sort_l1 l d (startsFrom 0 l) ls.length ls _ hn hs hd i hi' _ _ rfl rfl (by omega) (q * C) (fun k hk => ih (i + 1) k (by omega) (by omega) hk) (ls.getD i 0) 0 k [] (by omega) (by omega) (SR.zero _ _) (by omega)
    simpa using this
theorem spec_Sort_eq (k : Nat) (l d : List Int) (hk : 100000000 ≤ k) (hl : l.length ≤ 1048576) (hd : d.length ≤ 1048576) : spec_SortSegments.f k l d = some (sortV l d) := by
  unfold spec_SortSegments.f
  simp only [Option.bind_some]
  rw [spec_SegmentsValid_eq k l d (by omega) hl hd]
  simp only [Option.bind_some]
  cases h : segOk l d with
  | false => simp [sortV, h]
  | true =>
    have hT := sortLs_of h
    have hlen := (segOk_iff.1 h).1
    have h4 : ∀ n ∈ l, 0 ≤ n := fun n hn => (okb_iff.1 (lenOk_iff.1 hlen).2.1 n hn).1
    rw [if_pos rfl, l3Starts_eq k l (by omega) hlen]
    simp only [Option.bind_some]
    have hsl : (startsFrom 0 l).length = (l.map Int.toNat).length := by rw [startsFrom_length, List.length_map]
    have := spec_Sort_l0 l d (l.map Int.toNat) hT.1.symm (by rw [List.length_map]; exact hT.2.1) hT.2.2.1 hT.2.2.2.1 (fun i _ => by
      rw [← List.map_take, sum_toNat (fun n hn => h4 n (List.mem_of_mem_take hn))]) 161300 (by decide) l.length 0 k (by rw [List.length_map]; omega) (by omega) (by have := hT.2.1; exact Nat.lt_of_le_of_lt (Nat.mul_le_mul_right 161300 this) (Nat.lt_of_lt_of_le (by decide) hk))
    rw [hsl]
    rw [show sortV l d = (Go.Proofs.YtnehpbkjmmadkaaW.SortW.outS d (l.map Int.toNat) (l.map Int.toNat).length, true) from by simp [sortV, h]]
    exact this
end Go.Proofs.Ytnehpbkjmmadkaa.So
