/-
  Cut to what this claim uses.
-/
import Derived.Test.YteijndaldkkpfaaQTs1
import Derived.Test.YteijndaldkkpfaaQTs2
import Derived.Test.YteijndaldkkpfaaQTs3
import Derived.Test.YteijndaldkkpfaaQTs4
import Derived.Test.YteijndaldkkpfaaQTs5
import Derived.Test.YteijndaldkkpfaaQTs6
import Derived.Test.YteijndaldkkpfaaQTs7
namespace Go.Proofs.Yteijndaldkkpfaa.Ts
open Go.RowKit Go.Proofs.YteijndaldkkpfaaW.PrintWords Go.Proofs.YteijndaldkkpfaaW.PrintLast Go.Proofs.YteijndaldkkpfaaW.PrintMore
set_option linter.unusedVariables false
set_option linter.unusedSimpArgs false
theorem w64 {x : Int} (h0 : -9223372036854775808 ≤ x) (h1 : x ≤ 9223372036854775807) : wrap64 x = x := by unfold wrap64; omega
theorem w64_i (i : Nat) (h : i ≤ 9223372036854775806) : wrap64 ((i : Int) + 1) = ((i + 1 : Nat) : Int) := by rw [w64 (by omega) (by omega)]; omega
theorem rd_nat (l : List Int) (i : Nat) : rd l (i : Int) = l.getD i 0 := by simp [rd]
theorem drop_cons_info {l : List Int} {i : Nat} {a : Int} {t : List Int} (h : l.drop i = a :: t) : i < l.length ∧ rd l (i : Int) = a ∧ l.drop (i + 1) = t := by
  have hi : i < l.length := by
    rcases Nat.lt_or_ge i l.length with h1 | h1
    · exact h1
    · rw [List.drop_eq_nil_of_le h1] at h; cases h
  rw [List.drop_eq_getElem_cons hi] at h
  injection h with h1 h2
  refine ⟨hi, ?_, h2⟩
  rw [rd_nat, List.getD_eq_getElem?_getD, List.getElem?_eq_getElem hi]
  exact h1
theorem drop_nil_info {α : Type} {l : List α} {i : Nat} (h : l.drop i = []) : ¬ ((i : Int) < (l.length : Int)) := by
  have := List.drop_eq_nil_iff.1 h
  omega
theorem mn_def (a b : Int) : mn a b = if a ≤ b then a else b := by unfold mn; split <;> split <;> omega
theorem getD_mem {l : List Int} {i : Nat} (h : i < l.length) : l.getD i 0 ∈ l := by
  rw [List.getD_eq_getElem?_getD, List.getElem?_eq_getElem h]; exact List.getElem_mem h
theorem rd_mem {l : List Int} {i : Int} (h0 : 0 ≤ i) (h : i < (l.length : Int)) : rd l i ∈ l := by
  obtain ⟨n, rfl⟩ := Int.eq_ofNat_of_zero_le h0
  rw [rd_nat]; exact getD_mem (by omega)
/-- The sum of numbers. -/
def tot : List Int → Int
  | [] => 0
  | a :: t => a + tot t
/-- All numbers lie from 0 to m. -/
def okb (m : Int) (l : List Int) : Bool := l.all fun n => decide (0 ≤ n) && decide (n ≤ m)
theorem okb_iff {m : Int} {l : List Int} : okb m l = true ↔ ∀ n ∈ l, 0 ≤ n ∧ n ≤ m := by
  simp [okb, List.all_eq_true]
theorem okb_nil (m : Int) : okb m [] = true := rfl
theorem okb_cons (m a : Int) (t : List Int) : okb m (a :: t) = (decide (0 ≤ a ∧ a ≤ m) && okb m t) := by
  simp [okb, Bool.decide_and]
theorem tot_nonneg {m : Int} {l : List Int} (h : okb m l = true) : 0 ≤ tot l := by
  rw [okb_iff] at h
  induction l with
  | nil => simp [tot]
  | cons a t ih =>
    have := h a (by simp)
    have := ih (fun n hn => h n (by simp [hn]))
    simp only [tot]; omega
theorem okb_drop {m : Int} {l : List Int} (h : okb m l = true) (i : Nat) : okb m (l.drop i) = true := by
  rw [okb_iff] at h ⊢; exact fun n hn => h n (List.mem_of_mem_drop hn)
theorem okb_take {m : Int} {l : List Int} (h : okb m l = true) (i : Nat) : okb m (l.take i) = true := by
  rw [okb_iff] at h ⊢; exact fun n hn => h n (List.mem_of_mem_take hn)
/-- n, n + 1, .. -/
def ramp (n : Int) : Nat → List Int
  | 0 => []
  | k + 1 => n :: ramp (n + 1) k
theorem idxOut_neg (m : Int) (l : List Int) (d : Nat) : ∀ i, l.length - i = d → (decide (idxOut m l i < 0) = okb m (l.drop i)) := by
  induction d with
  | zero =>
    intro i hi
    rw [idxOut_end m l i (by omega), List.drop_eq_nil_of_le (by omega)]; rfl
  | succ d ih =>
    intro i hi
    have hlt : i < l.length := by omega
    have hd : l.drop i = rd l i :: l.drop (i + 1) := by
      rw [List.drop_eq_getElem_cons hlt, rd_nat, List.getD_eq_getElem?_getD, List.getElem?_eq_getElem hlt]; rfl
    rw [hd, okb_cons]
    cases ho : outB m (rd l i) with
    | true =>
      rw [idxOut_hit m l i hlt ho]
      rw [outB_def] at ho
      have hne : ¬ (0 ≤ rd l i ∧ rd l i ≤ m) := by
        intro h
        simp [show ¬ rd l (i : Int) < 0 from by omega, show ¬ m < rd l (i : Int) from by omega] at ho
      rw [decide_eq_false hne, Bool.false_and]
      exact decide_eq_false (by omega)
    | false =>
      rw [idxOut_next m l i hlt ho, ih (i + 1) (by omega)]
      rw [outB_def] at ho
      have hy : (0 ≤ rd l i ∧ rd l i ≤ m) := by
        simp at ho; omega
      rw [decide_eq_true hy, Bool.true_and]
theorem within_eq (l : List Int) (m : Int) (hl : l.length ≤ 1048576) : impl_within.f l m = some (okb m l) := by
  unfold impl_within.f
  rw [if_pos (by omega), idxOut_neg m l l.length 0 (by omega), List.drop_zero]
theorem impl_total_l0 (l : List Int) (hl : l.length ≤ 1048576) (hok : okb 1048576 l = true) : ∀ (t : List Int) (i k : Nat) (s : Int), l.drop i = t → t.length < k → 0 ≤ s → s ≤ 1048576 * i →
    impl_total.l0 k s l l.length i = some (s + tot t) := by
  intro t
  induction t with
  | nil =>
    intro i k s hd hk hs hs2
    obtain ⟨k, rfl⟩ : ∃ m, k = m + 1 := ⟨k - 1, by simp at hk; omega⟩
    rw [impl_total.l0, if_neg (drop_nil_info hd)]; simp [tot]
  | cons a t ih =>
    intro i k s hd hk hs hs2
    obtain ⟨k, rfl⟩ : ∃ m, k = m + 1 := ⟨k - 1, by simp at hk; omega⟩
    obtain ⟨hi, hr, hd'⟩ := drop_cons_info hd
    have hb := okb_iff.1 hok a (by rw [← hr, rd_nat]; exact getD_mem hi)
    simp only [List.length_cons] at hk
    rw [impl_total.l0, if_pos (by omega), if_pos (by omega), if_pos (by omega), hr, w64 (by omega) (by omega), w64_i i (by omega), ih (i + 1) k (s + a) hd' (by omega) (by omega) (by omega)]
    simp only [tot]; congr 1; omega
theorem total_eq (k : Nat) (l : List Int) (hk : 3000000 ≤ k) (hl : l.length ≤ 1048576) (hok : okb 1048576 l = true) : impl_total.f k l = some (tot l) := by
  unfold impl_total.f
  have := impl_total_l0 l hl hok l 0 k 0 (by simp) (by omega) (by omega) (by omega)
  simpa using this
/-- Only what is bound is looked into, not what follows. -/
theorem obind_congr {α β : Type} {a b : Option α} {f : α → Option β} (h : a = b) : a.bind f = b.bind f := by rw [h]
theorem faSame_l0 (a b : List Int) (hl : a.length ≤ 1048576) (n : Int) (hn : n = if a.length ≤ b.length then (a.length : Int) else b.length) : ∀ (t u : List Int) (i k : Nat), a.drop i = t → b.drop i = u → t.length < k → i ≤ b.length → i ≤ a.length →
    laws_faSame.l0 k a b n i = some (decide (t = u)) := by
  intro t
  induction t with
  | nil =>
    intro u i k hd hu hk hib hia
    obtain ⟨k, rfl⟩ : ∃ m, k = m + 1 := ⟨k - 1, by simp at hk; omega⟩
    have ha := List.drop_eq_nil_iff.1 hd
    have hul : u.length = b.length - i := by rw [← hu]; simp
    rw [laws_faSame.l0, if_neg (by split at hn <;> omega)]
    congr 1
    cases u with
    | nil => simp at hul; simp; omega
    | cons y u => simp at hul; simp; omega
  | cons x t ih =>
    intro u i k hd hu hk hib hia
    obtain ⟨k, rfl⟩ : ∃ m, k = m + 1 := ⟨k - 1, by simp at hk; omega⟩
    obtain ⟨hi', hr, hd'⟩ := drop_cons_info hd
    simp only [List.length_cons] at hk
    cases u with
    | nil =>
      have hb := List.drop_eq_nil_iff.1 hu
      rw [laws_faSame.l0, if_neg (by split at hn <;> omega)]
      congr 1
      simp; omega
    | cons y u =>
      obtain ⟨hj', hr2, hu'⟩ := drop_cons_info hu
      rw [laws_faSame.l0, if_pos (by split at hn <;> omega), if_pos (by omega), if_pos (by omega), if_pos (by omega), hr, hr2, w64_i i (by omega)]
      by_cases hxy : x = y
      · rw [if_pos hxy, ih u (i + 1) k hd' hu' (by omega) (by omega) (by omega)]; simp [hxy]
      · rw [if_neg hxy]; simp [hxy]
theorem faSame_eq (k : Nat) (a b : List Int) (hk : 3000000 ≤ k) (hl : a.length ≤ 1048576) : laws_faSame.f k a b = some (decide (a = b)) := by
  unfold laws_faSame.f
  have := faSame_l0 a b hl (mn (a.length : Int) (b.length : Int)) (by rw [mn_def]; split <;> split <;> omega) a b 0 k (by simp) (by simp) (by omega) (by omega) (by omega)
  simpa using this
theorem l1In_eq (a b c : Int) : spec_l1In.f a b c = some (decide (b ≤ a ∧ a ≤ c)) := by
  unfold spec_l1In.f
  by_cases h : b ≤ a
  · rw [if_pos h]; simp [h]
  · rw [if_neg h]; simp [h]
/-- Numbers are lengths. -/
def lenOk (l : List Int) : Bool := decide (l.length ≤ 400) && okb 400 l && decide (tot l ≤ 400)
theorem lenOk_iff {l : List Int} : lenOk l = true ↔ l.length ≤ 400 ∧ okb 400 l = true ∧ tot l ≤ 400 := by simp [lenOk, and_assoc]
/-- Numbers are data. -/
def datOk (l : List Int) : Bool := decide (l.length ≤ 400) && okb 10006 l
theorem datOk_iff {l : List Int} : datOk l = true ↔ l.length ≤ 400 ∧ okb 10006 l = true := by simp [datOk]
theorem okb_le {m m' : Int} {l : List Int} (h : okb m l = true) (hm : m ≤ m') : okb m' l = true := by
  rw [okb_iff] at h ⊢; exact fun n hn => by have := h n hn; omega
def segOk (l d : List Int) : Bool := lenOk l && datOk d && decide (tot l = d.length)
theorem segOk_iff {l d : List Int} : segOk l d = true ↔ lenOk l = true ∧ datOk d = true ∧ tot l = d.length := by simp [segOk, and_assoc]
theorem l3Lengths_l0 (x0 l : List Int) (hl : l.length ≤ 1048576) : ∀ (t : List Int) (i k : Nat) (s : Int), l.drop i = t → t.length < k → 0 ≤ s → s ≤ 401 →
    spec_l3Lengths.l0 k x0 s l l.length i = some (okb 400 t && decide (x0.length ≤ 400) && decide (s + tot t ≤ 400)) := by
  intro t
  induction t with
  | nil =>
    intro i k s hd hk hs hs2
    obtain ⟨k, rfl⟩ : ∃ m, k = m + 1 := ⟨k - 1, by simp at hk; omega⟩
    rw [spec_l3Lengths.l0, if_neg (drop_nil_info hd)]
    by_cases h : x0.length ≤ 400
    · rw [if_pos (by omega)]; simp [tot, h, okb_nil]
    · rw [if_neg (by omega)]; simp [h]
  | cons a t ih =>
    intro i k s hd hk hs hs2
    obtain ⟨k, rfl⟩ : ∃ m, k = m + 1 := ⟨k - 1, by simp at hk; omega⟩
    obtain ⟨hi, hr, hd'⟩ := drop_cons_info hd
    simp only [List.length_cons] at hk
    rw [spec_l3Lengths.l0, if_pos (by omega), if_pos (by omega), if_pos (by omega), hr, l1In_eq, okb_cons]
    simp only [Option.bind_some]
    by_cases ha : 0 ≤ a ∧ a ≤ 400
    · rw [if_pos (by simp [ha]), w64_i i (by omega), w64 (by omega) (by omega), ih (i + 1) k _ hd' (by omega) (by rw [mn_def]; split <;> omega) (by rw [mn_def]; split <;> omega)]
      rw [decide_eq_true ha, Bool.true_and]
      cases hok : okb 400 t with
      | false => simp
      | true =>
        have := tot_nonneg hok
        congr 2
        rw [mn_def, decide_eq_decide]; simp only [tot]; split <;> constructor <;> intro _ <;> omega
    · rw [if_neg (by simp [ha])]; simp [ha]
theorem l3Lengths_eq (k : Nat) (l : List Int) (hk : 3000000 ≤ k) (hl : l.length ≤ 1048576) : spec_l3Lengths.f k l = some (lenOk l) := by
  unfold spec_l3Lengths.f
  have := l3Lengths_l0 l l hl l 0 k 0 (by simp) (by omega) (by omega) (by omega)
  rw [show ((0 : Nat) : Int) = 0 from rfl] at this
  rw [this]; unfold lenOk; congr 1
  cases okb 400 l <;> cases decide (l.length ≤ 400) <;> simp
theorem l3Numbers_l0 (l : List Int) (hl : l.length ≤ 1048576) : ∀ (t : List Int) (i k : Nat), l.drop i = t → t.length < k →
    spec_l3Numbers.l0 k l l.length i = some (okb 10006 t) := by
  intro t
  induction t with
  | nil =>
    intro i k hd hk
    obtain ⟨k, rfl⟩ : ∃ m, k = m + 1 := ⟨k - 1, by simp at hk; omega⟩
    rw [spec_l3Numbers.l0, if_neg (drop_nil_info hd)]; rfl
  | cons a t ih =>
    intro i k hd hk
    obtain ⟨k, rfl⟩ : ∃ m, k = m + 1 := ⟨k - 1, by simp at hk; omega⟩
    obtain ⟨hi, hr, hd'⟩ := drop_cons_info hd
    simp only [List.length_cons] at hk
    rw [spec_l3Numbers.l0, if_pos (by omega), if_pos (by omega), if_pos (by omega), hr, l1In_eq, okb_cons]
    simp only [Option.bind_some]
    by_cases ha : 0 ≤ a ∧ a ≤ 10006
    · rw [if_pos (by simp [ha]), w64_i i (by omega), ih (i + 1) k hd' (by omega)]; simp [ha]
    · rw [if_neg (by simp [ha])]; simp [ha]
theorem l3Numbers_eq (k : Nat) (l : List Int) (hk : 3000000 ≤ k) (hl : l.length ≤ 1048576) : spec_l3Numbers.f k l = some (okb 10006 l) := by
  unfold spec_l3Numbers.f
  exact l3Numbers_l0 l hl l 0 k (by simp) (by omega)
theorem l3Total_l0 (l : List Int) (hl : l.length ≤ 1048576) (hok : okb 1048576 l = true) : ∀ (t : List Int) (i k : Nat) (s : Int), l.drop i = t → t.length < k → 0 ≤ s → s ≤ 1048576 * i →
    spec_l3Total.l0 k s l l.length i = some (s + tot t) := by
  intro t
  induction t with
  | nil =>
    intro i k s hd hk hs hs2
    obtain ⟨k, rfl⟩ : ∃ m, k = m + 1 := ⟨k - 1, by simp at hk; omega⟩
    rw [spec_l3Total.l0, if_neg (drop_nil_info hd)]; simp [tot]
  | cons a t ih =>
    intro i k s hd hk hs hs2
    obtain ⟨k, rfl⟩ : ∃ m, k = m + 1 := ⟨k - 1, by simp at hk; omega⟩
    obtain ⟨hi, hr, hd'⟩ := drop_cons_info hd
    have hb := okb_iff.1 hok a (by rw [← hr, rd_nat]; exact getD_mem hi)
    simp only [List.length_cons] at hk
    rw [spec_l3Total.l0, if_pos (by omega), if_pos (by omega), if_pos (by omega), hr, w64 (by omega) (by omega), w64_i i (by omega), ih (i + 1) k (s + a) hd' (by omega) (by omega) (by omega)]
    simp only [tot]; congr 1; omega
theorem l3Total_eq (k : Nat) (l : List Int) (hk : 3000000 ≤ k) (hl : l.length ≤ 1048576) (hok : okb 1048576 l = true) : spec_l3Total.f k l = some (tot l) := by
  unfold spec_l3Total.f
  have := l3Total_l0 l hl hok l 0 k 0 (by simp) (by omega) (by omega) (by omega)
  simpa using this
theorem spec_SegmentsValid_eq (k : Nat) (l d : List Int) (hk : 3000000 ≤ k) (hl : l.length ≤ 1048576) (hd : d.length ≤ 1048576) : spec_SegmentsValid.f k l d = some (segOk l d) := by
  unfold spec_SegmentsValid.f
  rw [l3Lengths_eq k l hk hl]
  simp only [Option.bind_some]
  cases h : lenOk l with
  | false => simp [segOk, h]
  | true =>
    have h1 := lenOk_iff.1 h
    rw [l3Numbers_eq k d hk hd, l3Total_eq k l hk hl (okb_le h1.2.1 (by omega))]
    simp only [Option.bind_some, if_true]
    cases h2 : okb 10006 d with
    | false => simp [segOk, datOk, h2]
    | true =>
      simp only [if_true, segOk, datOk, h, h2, Bool.true_and, Bool.and_true]
      congr 1
      by_cases h3 : tot l = d.length
      · have : d.length ≤ 400 := by omega
        simp [h3, this]
      · have e1 : (tot l == (d.length : Int)) = false := by simp [h3]
        rw [e1]; simp [h3]
theorem lengthsOk_eq (k : Nat) (l : List Int) (hk : 3000000 ≤ k) (hl : l.length ≤ 1048576) : impl_lengthsOk.f k l = some (lenOk l) := by
  unfold impl_lengthsOk.f
  by_cases h : l.length ≤ 400
  · rw [if_pos (by omega), within_eq l 400 hl]
    simp only [Option.bind_some]
    cases h2 : okb 400 l with
    | false => simp [lenOk, h2]
    | true =>
      rw [if_pos rfl, total_eq k l hk hl (okb_le h2 (by omega))]
      simp [lenOk, h, h2]
  · rw [if_neg (by omega)]; simp [lenOk, h]
theorem dataOk_eq (l : List Int) (hl : l.length ≤ 1048576) : impl_dataOk.f l = some (datOk l) := by
  unfold impl_dataOk.f
  by_cases h : l.length ≤ 400
  · rw [if_pos (by omega), within_eq l 10006 hl]; simp [datOk, h]
  · rw [if_neg (by omega)]; simp [datOk, h]
theorem impl_SegmentsValid_eq (k : Nat) (l d : List Int) (hk : 3000000 ≤ k) (hl : l.length ≤ 1048576) (hd : d.length ≤ 1048576) : impl_SegmentsValid.f k l d = some (segOk l d) := by
  unfold impl_SegmentsValid.f
  rw [lengthsOk_eq k l hk hl, dataOk_eq d hd]
  simp only [Option.bind_some]
  cases h : lenOk l with
  | false => simp [segOk, h]
  | true =>
    have h1 := lenOk_iff.1 h
    rw [total_eq k l hk hl (okb_le h1.2.1 (by omega))]
    cases h2 : datOk d with
    | false => simp [segOk, h2]
    | true =>
      simp only [segOk, h, h2, Bool.true_and, if_true, Option.bind_some]
      congr 1
      by_cases h3 : tot l = d.length
      · simp [h3]
      · have e1 : ((d.length : Int) == tot l) = false := by simp; omega
        rw [e1]; simp [h3]
/-- Where segments begin, the first one at s. -/
def startsFrom (s : Int) : List Int → List Int
  | [] => []
  | a :: t => s :: startsFrom (s + a) t
def gatOk (d a : List Int) : Bool := datOk d && (okb (d.length - 1) a && decide (a.length ≤ 400))
def gatV (d a : List Int) : List Int × Bool := if gatOk d a = true then (a.map fun i => rd d i, true) else ([], false)
theorem impl_Gather_l0 (d l : List Int) (hl : l.length ≤ 400) (hok : okb ((d.length : Int) - 1) l = true) : ∀ (t : List Int) (i k : Nat) (s : List Int), l.drop i = t → t.length < k → s.length = i →
    impl_GatherData.l0 k d s l l.length i = some (s ++ t.map (fun i => rd d i), true) := by
  intro t
  induction t with
  | nil =>
    intro i k s hd hk hs
    obtain ⟨k, rfl⟩ : ∃ m, k = m + 1 := ⟨k - 1, by simp at hk; omega⟩
    rw [impl_GatherData.l0, if_neg (drop_nil_info hd)]; simp
  | cons a t ih =>
    intro i k s hd hk hs
    obtain ⟨k, rfl⟩ : ∃ m, k = m + 1 := ⟨k - 1, by simp at hk; omega⟩
    obtain ⟨hi, hr, hd'⟩ := drop_cons_info hd
    have hb := okb_iff.1 hok a (by rw [← hr, rd_nat]; exact getD_mem hi)
    simp only [List.length_cons] at hk
    rw [impl_GatherData.l0, if_pos (by omega), if_pos (by omega), if_pos (by omega), hr, if_pos (by omega), if_pos (by omega), if_pos (by omega), w64_i i (by omega),
      ih (i + 1) k _ hd' (by omega) (by simp [hs])]
    simp
theorem impl_Gather_eq (k : Nat) (d a : List Int) (hk : 3000010 ≤ k) (hd : d.length ≤ 1048576) (ha : a.length ≤ 1048576) : impl_GatherData.f k d a = some (gatV d a) := by
  unfold impl_GatherData.f
  rw [dataOk_eq d hd]
  simp only [Option.bind_some]
  obtain ⟨k, rfl⟩ : ∃ m, k = m + 1 := ⟨k - 1, by omega⟩
  cases h1 : datOk d with
  | false => simp [impl_GatherData.j0, gatV, gatOk, h1]
  | true =>
    simp only [if_true]
    by_cases h4 : a.length ≤ 400
    · rw [if_neg (by omega), w64 (by omega) (by omega), within_eq a _ ha]
      simp only [Option.bind_some]
      cases h2 : okb ((d.length : Int) - 1) a with
      | false => simp [impl_GatherData.j0, gatV, gatOk, h1, h2]
      | true =>
        have := impl_Gather_l0 d a h4 h2 a 0 k [] (by simp) (by omega) (by simp)
        simp only [impl_GatherData.j0, gatV, gatOk, h1, h2, h4, decide_true, Bool.not_true, if_neg (show ¬ (false = true) by decide), Bool.true_and, if_true]
        rw [show ((0 : Int)) = ((0 : Nat) : Int) from rfl, this]; simp
    · rw [if_pos (by omega)]
      simp [impl_GatherData.j0, gatV, gatOk, h1, h4]
def staV (l : List Int) : List Int × Bool := if lenOk l = true then (startsFrom 0 l, true) else ([], false)
theorem l3Starts_l0 (l : List Int) (hl : l.length ≤ 400) (hok : okb 400 l = true) : ∀ (t : List Int) (i k : Nat) (s : List Int) (c : Int), l.drop i = t → t.length < k → s.length = i → 0 ≤ c → c ≤ 400 * i →
    spec_l3Starts.l0 k s c l l.length i = some (s ++ startsFrom c t) := by
  intro t
  induction t with
  | nil =>
    intro i k s c hd hk hs h0 h1
    obtain ⟨k, rfl⟩ : ∃ m, k = m + 1 := ⟨k - 1, by simp at hk; omega⟩
    rw [spec_l3Starts.l0, if_neg (drop_nil_info hd)]; simp [startsFrom]
  | cons a t ih =>
    intro i k s c hd hk hs h0 h1
    obtain ⟨k, rfl⟩ : ∃ m, k = m + 1 := ⟨k - 1, by simp at hk; omega⟩
    obtain ⟨hi, hr, hd'⟩ := drop_cons_info hd
    have hb := okb_iff.1 hok a (by rw [← hr, rd_nat]; exact getD_mem hi)
    simp only [List.length_cons] at hk
    rw [spec_l3Starts.l0, if_pos (by omega), if_pos (by omega), if_pos (by omega), if_pos (by omega), hr, w64 (by omega) (by omega), w64_i i (by omega),
      ih (i + 1) k _ (c + a) hd' (by omega) (by simp [hs]) (by omega) (by omega)]
    simp [startsFrom]
theorem l3Starts_eq (k : Nat) (l : List Int) (hk : 3000000 ≤ k) (h : lenOk l = true) : spec_l3Starts.f k l = some (startsFrom 0 l) := by
  obtain ⟨h1, h2, h3⟩ := lenOk_iff.1 h
  unfold spec_l3Starts.f
  have := l3Starts_l0 l h1 h2 l 0 k [] 0 (by simp) (by omega) (by simp) (by omega) (by omega)
  simpa using this
theorem impl_Starts_l0 (l : List Int) (hl : l.length ≤ 400) (hok : okb 400 l = true) : ∀ (t : List Int) (i k : Nat) (s : List Int) (c : Int), l.drop i = t → t.length < k → s.length = i → 0 ≤ c → c ≤ 400 * i →
    impl_StartsOf.l0 k s c l l.length i = some (s ++ startsFrom c t, true) := by
  intro t
  induction t with
  | nil =>
    intro i k s c hd hk hs h0 h1
    obtain ⟨k, rfl⟩ : ∃ m, k = m + 1 := ⟨k - 1, by simp at hk; omega⟩
    rw [impl_StartsOf.l0, if_neg (drop_nil_info hd)]; simp [startsFrom]
  | cons a t ih =>
    intro i k s c hd hk hs h0 h1
    obtain ⟨k, rfl⟩ : ∃ m, k = m + 1 := ⟨k - 1, by simp at hk; omega⟩
    obtain ⟨hi, hr, hd'⟩ := drop_cons_info hd
    have hb := okb_iff.1 hok a (by rw [← hr, rd_nat]; exact getD_mem hi)
    simp only [List.length_cons] at hk
    rw [impl_StartsOf.l0, if_pos (by omega), if_pos (by omega), if_pos (by omega), if_pos (by omega), hr, w64 (by omega) (by omega), w64_i i (by omega),
      ih (i + 1) k _ (c + a) hd' (by omega) (by simp [hs]) (by omega) (by omega)]
    simp [startsFrom]
theorem impl_Starts_eq (k : Nat) (l : List Int) (hk : 3000000 ≤ k) (hl : l.length ≤ 1048576) : impl_StartsOf.f k l = some (staV l) := by
  unfold impl_StartsOf.f
  rw [lengthsOk_eq k l hk hl]
  simp only [Option.bind_some]
  cases h : lenOk l with
  | false => simp [staV, h]
  | true =>
    obtain ⟨h1, h2, h3⟩ := lenOk_iff.1 h
    have := impl_Starts_l0 l h1 h2 l 0 k [] 0 (by simp) (by omega) (by simp) (by omega) (by omega)
    rw [if_pos rfl]
    simp only [staV, h, if_true]
    simpa using this
theorem startsFrom_length (s : Int) (l : List Int) : (startsFrom s l).length = l.length := by
  induction l generalizing s with
  | nil => rfl
  | cons a t ih => simp [startsFrom, ih]
/-- The segments of data. -/
def segs : List Int → List Int → List (List Int)
  | [], _ => []
  | a :: t, d => d.take a.toNat :: segs t (d.drop a.toNat)
theorem segs_length (l d : List Int) : (segs l d).length = l.length := by
  induction l generalizing d with
  | nil => rfl
  | cons a t ih => simp [segs, ih]
theorem ddrop_cons_info {α : Type} {l : List α} {i : Nat} {a : α} {t : List α} (h : l.drop i = a :: t) : i < l.length ∧ l[i]? = some a ∧ l.drop (i + 1) = t := by
  have hi : i < l.length := by
    rcases Nat.lt_or_ge i l.length with h1 | h1
    · exact h1
    · rw [List.drop_eq_nil_of_le h1] at h; cases h
  rw [List.drop_eq_getElem_cons hi] at h
  injection h with h1 h2
  exact ⟨hi, by rw [List.getElem?_eq_getElem hi, h1], h2⟩
theorem okb_mem_segs {m : Int} {l d s : List Int} (h : okb m d = true) (hs : s ∈ segs l d) : okb m s = true := by
  induction l generalizing d with
  | nil => cases hs
  | cons a t ih =>
    simp only [segs, List.mem_cons] at hs
    rcases hs with rfl | hs
    · exact okb_take h _
    · exact ih (okb_drop h _) hs
theorem mem_segs_len {l d s : List Int} (hs : s ∈ segs l d) : s.length ≤ d.length := by
  induction l generalizing d with
  | nil => cases hs
  | cons a t ih =>
    simp only [segs, List.mem_cons] at hs
    rcases hs with rfl | hs
    · simp; omega
    · have := ih hs; simp at this; omega
theorem okb_tail {m a : Int} {t : List Int} (h : okb m (a :: t) = true) : 0 ≤ a ∧ a ≤ m ∧ okb m t = true := by
  rw [okb_cons] at h; simp at h; exact ⟨h.1.1, h.1.2, h.2⟩
theorem rdLL_of {l : List (List Int)} {i : Nat} {a : List Int} (h : l[i]? = some a) : rd_L2 l (i : Int) = a := by
  unfold rd_L2; rw [Int.toNat_natCast, List.getD_eq_getElem?_getD, h]; rfl
theorem impl_segments_l0 (l : List Int) (hl : l.length ≤ 400) : ∀ (t : List Int) (i k : Nat) (d : List Int) (s : List (List Int)), l.drop i = t → t.length < k → s.length = i → okb 400 t = true → tot t ≤ d.length →
    impl_segments.l0 k d s l l.length i = some (s ++ segs t d) := by
  intro t
  induction t with
  | nil =>
    intro i k d s hd hk hs hok ht
    obtain ⟨k, rfl⟩ : ∃ m, k = m + 1 := ⟨k - 1, by simp at hk; omega⟩
    rw [impl_segments.l0, if_neg (drop_nil_info hd)]; simp [segs]
  | cons a t ih =>
    intro i k d s hd hk hs hok ht
    obtain ⟨k, rfl⟩ : ∃ m, k = m + 1 := ⟨k - 1, by simp at hk; omega⟩
    obtain ⟨hi, hr, hd'⟩ := drop_cons_info hd
    obtain ⟨h0, h1, hok'⟩ := okb_tail hok
    have := tot_nonneg hok'
    simp only [List.length_cons] at hk
    simp only [tot] at ht
    rw [impl_segments.l0, if_pos (by omega), if_pos (by omega), if_pos (by omega), hr, if_pos h0, if_pos (by omega), if_pos (by omega), w64_i i (by omega), ih (i + 1) k _ _ hd' (by omega) (by simp [hs]) hok' (by simp; omega)]
    simp [segs]
theorem segments_eq (k : Nat) (l d : List Int) (hk : 3000000 ≤ k) (hl : l.length ≤ 400) (hok : okb 400 l = true) (ht : tot l ≤ d.length) : impl_segments.f k l d = some (segs l d) := by
  unfold impl_segments.f
  have := impl_segments_l0 l hl l 0 k d [] (by simp) (by omega) (by simp) hok ht
  simpa using this
/-- The sum of numbers, of which 10007 is taken away until it is less. -/
def sumM (l : List Int) : Int := tot l % 10007
def sumV (l d : List Int) : List Int × Bool := if segOk l d = true then ((segs l d).map sumM, true) else ([], false)
theorem tmod_nonneg (x : Int) (h : 0 ≤ x) : Int.tmod x 10007 = x % 10007 := by rw [Int.tmod_eq_emod_of_nonneg h]
theorem sum_eq (k : Nat) (l : List Int) (hk : 3000000 ≤ k) (hl : l.length ≤ 1048576) (hok : okb 10006 l = true) : impl_sum.f k l = some (sumM l) := by
  unfold impl_sum.f
  rw [total_eq k l hk hl (okb_le hok (by omega))]
  simp only [Option.bind_some]
  rw [tmod_nonneg _ (tot_nonneg hok)]; rfl
theorem each_Sum_l0 (x : List (List Int)) (hx : x.length ≤ 400) (hok : ∀ y ∈ x, okb 10006 y = true ∧ y.length ≤ 400) : ∀ (t : List (List Int)) (i k : Nat) (s : List Int), x.drop i = t → t.length + 3000001 < k → s.length = i →
    impl_each_at_SumSegments_1.l0 k s x x.length i = some (s ++ t.map sumM, true) := by
  intro t
  induction t with
  | nil =>
    intro i k s hd hk hs
    obtain ⟨k, rfl⟩ : ∃ m, k = m + 1 := ⟨k - 1, by simp at hk; omega⟩
    rw [impl_each_at_SumSegments_1.l0, if_neg (drop_nil_info hd)]; simp
  | cons y t ih =>
    intro i k s hd hk hs
    obtain ⟨k, rfl⟩ : ∃ m, k = m + 1 := ⟨k - 1, by simp at hk; omega⟩
    obtain ⟨hi, hr, hd'⟩ := ddrop_cons_info hd
    have hy := hok y (List.mem_of_getElem? hr)
    simp only [List.length_cons] at hk
    rw [impl_each_at_SumSegments_1.l0, if_pos (by omega), if_pos (by omega), if_pos (by omega), rdLL_of hr]
    unfold impl_SumSegments_1.f
    rw [sum_eq k y (by omega) (by omega) hy.1]
    simp only [Option.bind_some]
    rw [if_pos (by simp; omega), w64_i i (by omega), ih (i + 1) k _ hd' (by omega) (by simp [hs])]
    simp
theorem impl_Sum_eq (k : Nat) (l d : List Int) (hk : 3001000 ≤ k) (hl : l.length ≤ 1048576) (hd : d.length ≤ 1048576) : impl_SumSegments.f k l d = some (sumV l d) := by
  unfold impl_SumSegments.f impl_each_at_SumSegments_1.f
  rw [impl_SegmentsValid_eq k l d (by omega) hl hd]
  simp only [Option.bind_some]
  cases h : segOk l d with
  | false => simp [sumV, h]
  | true =>
    obtain ⟨h1, h2, h3⟩ := segOk_iff.1 h
    have hl1 := lenOk_iff.1 h1
    have hd1 := datOk_iff.1 h2
    rw [if_pos rfl, segments_eq k l d (by omega) hl1.1 hl1.2.1 (by omega)]
    simp only [Option.bind_some]
    have hm : ∀ y ∈ segs l d, okb 10006 y = true ∧ y.length ≤ 400 := fun y hy => ⟨okb_mem_segs hd1.2 hy, by have := mem_segs_len hy; omega⟩
    have := each_Sum_l0 (segs l d) (by rw [segs_length]; omega) hm (segs l d) 0 k [] (by simp) (by rw [segs_length]; omega) (by simp)
    rw [show ((0 : Nat) : Int) = 0 from rfl] at this
    rw [this]; simp [sumV, h]
def turnV (l : List Int) : List Int × Bool := if lenOk l = true then (outT (l.map Int.toNat) l.length, true) else ([], false)
theorem nats_toNat {l : List Int} (h : ∀ n ∈ l, 0 ≤ n) : nats (l.map Int.toNat) = l := by
  induction l with
  | nil => rfl
  | cons a t ih =>
    have h1 := ih (fun n hn => h n (List.mem_cons_of_mem _ hn))
    have h2 := h a List.mem_cons_self
    unfold nats at h1 ⊢
    rw [List.map_cons, List.map_cons, h1, Int.toNat_of_nonneg h2]
theorem sum_toNat {l : List Int} (h : ∀ n ∈ l, 0 ≤ n) : (((l.map Int.toNat).sum : Nat) : Int) = tot l := by
  induction l with
  | nil => rfl
  | cons a t ih =>
    have h1 := ih (fun n hn => h n (List.mem_cons_of_mem _ hn))
    have h2 := h a List.mem_cons_self
    rw [List.map_cons, List.sum_cons, tot, ← h1]; omega
theorem turnLs_of {l : List Int} (h : lenOk l = true) : turnLs l := by
  obtain ⟨h1, h2, h3⟩ := lenOk_iff.1 h
  have h4 : ∀ n ∈ l, 0 ≤ n := fun n hn => (okb_iff.1 h2 n hn).1
  have h5 := sum_toNat h4
  exact ⟨nats_toNat h4, h1, by omega⟩
theorem turnV_len (l : List Int) : (turnV l).1.length ≤ 1048576 := by
  unfold turnV; split
  · rename_i h
    have h1 := (turnLs_of h).2.2
    show (outT _ _).length ≤ _
    rw [outT_len, List.take_of_length_le (by rw [List.length_map]; exact Nat.le_refl _)]; omega
  · simp
theorem impl_Turn_eq (k : Nat) (l : List Int) (hk : 3000000 ≤ k) (hl : l.length ≤ 1048576) : impl_TurnSegments.f k l = some (turnV l) := by
  unfold impl_TurnSegments.f
  rw [lengthsOk_eq k l hk hl]
  simp only [Option.bind_some]
  cases h : lenOk l with
  | false => simp [turnV, h]
  | true => rw [if_pos rfl, if_pos (turnLs_of h)]; simp [turnV, h]
theorem starts_at (l : List Int) : ∀ (i : Nat) (s : Int), i < l.length → (startsFrom s l).getD i 0 = s + tot (l.take i) := by
  induction l with
  | nil => intro i s h; simp at h
  | cons a t ih =>
    intro i s h
    cases i with
    | zero => simp [startsFrom, tot]
    | succ i =>
      rw [startsFrom, List.getD_cons_succ, ih i (s + a) (by simpa using h), List.take_succ_cons, tot]; omega
theorem zsL_at (s n j : Nat) (hj : j < n) : (zsL s n).reverse[j]? = some (((s + (n - 1 - j) : Nat)) : Int) := by
  rw [List.getElem?_reverse (by rw [zsL_len]; exact hj), zsL_len]
  unfold zsL
  rw [List.getElem?_map, List.getElem?_range (by omega)]; rfl
theorem spec_Turn_l1 (l st : List Int) (N : Int) (ls : List Nat) (R : List Int × Bool) (hl : l = nats ls) (hn : ls.length ≤ 400) (hs : ls.sum ≤ 400) (i : Nat) (hi : i < ls.length) (S m : Nat) (hS : S = (ls.take i).sum) (hm : m = ls.getD i 0) (hSm : S + m ≤ 400) (c : Nat)
    (ih : ∀ k, c < k → spec_TurnSegments.l0 k l (outT ls (i + 1)) st N ((i + 1 : Nat) : Int) = some R) :
    ∀ (d j k : Nat), d = m - j → j ≤ m → d + 1 + c < k → spec_TurnSegments.l1 k l (outT ls i ++ (zsL S m).reverse.take j) i S st N i m j = some R := by
  have hr : rd l (i : Int) = m := by
    rw [rd_nat, hl, hm]; unfold nats
    simp [List.getD_eq_getElem?_getD, List.getElem?_eq_getElem hi]
  have hll : l.length = ls.length := by rw [hl]; unfold nats; rw [List.length_map]
  have hol : (outT ls i).length = S := by rw [outT_len, hS]
  intro d
  induction d with
  | zero =>
    intro j k hd hj hk
    obtain ⟨k, rfl⟩ : ∃ m, k = m + 1 := ⟨k - 1, by omega⟩
    rw [spec_TurnSegments.l1, if_neg (by omega), w64_i i (by omega), List.take_of_length_le (by rw [List.length_reverse, zsL_len]; omega)]
    have := ih k (by omega)
    rw [outT, ← hS, ← hm] at this
    exact this
  | succ d ih2 =>
    intro j k hd hj hk
    obtain ⟨k, rfl⟩ : ∃ m, k = m + 1 := ⟨k - 1, by omega⟩
    have hle : (outT ls i ++ (zsL S m).reverse.take j).length ≤ 800 := by
      rw [List.length_append, List.length_take, List.length_reverse, zsL_len, hol]; omega
    rw [spec_TurnSegments.l1, if_pos (by omega), if_pos (by omega), if_pos (by omega), if_pos (by omega), hr, w64 (x := (S : Int) + m) (by omega) (by omega), w64 (x := (S : Int) + m - 1) (by omega) (by omega), w64 (by omega) (by omega), w64_i j (by omega)]
    have := ih2 (j + 1) k (by omega) (by omega) (by omega)
    rw [List.take_add_one, zsL_at S m j (by omega), ← List.append_assoc] at this
    rw [show (S : Int) + m - 1 - j = ((S + (m - 1 - j) : Nat) : Int) from by omega]
    exact this
theorem spec_Turn_l0 (l : List Int) (ls : List Nat) (hl : l = nats ls) (hn : ls.length ≤ 400) (hs : ls.sum ≤ 400) (ht : ∀ i, i ≤ ls.length → tot (l.take i) = ((ls.take i).sum : Nat)) :
    ∀ (d i k : Nat), d = ls.length - i → i ≤ ls.length → d * 402 < k → spec_TurnSegments.l0 k l (outT ls i) (startsFrom 0 l) ls.length i = some (outT ls ls.length, true) := by
  have hll : l.length = ls.length := by rw [hl]; unfold nats; rw [List.length_map]
  have hsl : (startsFrom 0 l).length = ls.length := by rw [startsFrom_length, hll]
  intro d
  induction d with
  | zero =>
    intro i k hd hi hk
    obtain ⟨k, rfl⟩ : ∃ m, k = m + 1 := ⟨k - 1, by omega⟩
    obtain rfl : i = ls.length := by omega
    rw [spec_TurnSegments.l0, if_neg (by omega)]
  | succ d ih =>
    intro i k hd hi hk
    obtain ⟨k, rfl⟩ : ∃ m, k = m + 1 := ⟨k - 1, by omega⟩
    have hi' : i < ls.length := by omega
    have h1 := take_sum ls i hi'
    have h2 := take_sum_le ls (i + 1)
    have hm : ls.getD i 0 = ls[i] := by simp [List.getD_eq_getElem?_getD, List.getElem?_eq_getElem hi']
    have hr : rd l (i : Int) = ((ls.getD i 0 : Nat) : Int) := by
      rw [rd_nat, hl]; unfold nats
      simp [List.getD_eq_getElem?_getD, List.getElem?_eq_getElem hi']
    have hst : rd (startsFrom 0 l) (i : Int) = (((ls.take i).sum : Nat) : Int) := by
      rw [rd_nat, starts_at l i 0 (by omega), ht i (by omega)]; omega
    rw [spec_TurnSegments.l0, if_pos (by omega), if_pos (by omega), if_pos (by omega), if_pos (by omega), hr, hst]
    have := spec_Turn_l1 l (startsFrom 0 l) ls.length ls _ hl hn hs i hi' _ _ rfl rfl (by omega) (d * 402) (fun k hk => ih (i + 1) k (by omega) (by omega) hk) (ls.getD i 0) 0 k (by omega) (by omega) (by omega)
    simpa using this
theorem spec_Turn_eq (k : Nat) (l : List Int) (hk : 3000000 ≤ k) (hl : l.length ≤ 1048576) : spec_TurnSegments.f k l = some (turnV l) := by
  unfold spec_TurnSegments.f
  simp only [Option.bind_some]
  rw [l3Lengths_eq k l hk hl]
  simp only [Option.bind_some]
  cases h : lenOk l with
  | false => simp [turnV, h]
  | true =>
    have hT := turnLs_of h
    have h4 : ∀ n ∈ l, 0 ≤ n := fun n hn => (okb_iff.1 (lenOk_iff.1 h).2.1 n hn).1
    rw [if_pos rfl, l3Starts_eq k l hk h]
    simp only [Option.bind_some]
    have hsl : (startsFrom 0 l).length = (l.map Int.toNat).length := by rw [startsFrom_length, List.length_map]
    have := spec_Turn_l0 l (l.map Int.toNat) hT.1.symm (by rw [List.length_map]; exact hT.2.1) hT.2.2 (fun i _ => by
      rw [← List.map_take, sum_toNat (fun n hn => h4 n (List.mem_of_mem_take hn))]) l.length 0 k (by rw [List.length_map]; omega) (by omega) (by have := hT.2.1; omega)
    rw [hsl]
    rw [show turnV l = (outT (l.map Int.toNat) (l.map Int.toNat).length, true) from by simp [turnV, h]]
    exact this
/-- The order of places: by what stands there, then by the place. -/
def leZ (d : List Int) (x y : Int) : Prop := rd d x < rd d y ∨ rd d x = rd d y ∧ x ≤ y
/-- A row of the first j places from s on, in order. -/
def SR (d : List Int) (s j : Nat) (R : List Int) : Prop := R.Perm ((List.range j).map fun (t : Nat) => ((s + t : Nat) : Int)) ∧ R.Pairwise (leZ d)
theorem SR.len {d : List Int} {s j : Nat} {R : List Int} (h : SR d s j R) : R.length = j := by have := h.1.length_eq; simpa using this
theorem SR.mem {d : List Int} {s j : Nat} {R : List Int} (h : SR d s j R) {x : Int} (hx : x ∈ R) : (s : Int) ≤ x ∧ x < (s + j : Nat) := by
  have := h.1.mem_iff.1 hx
  obtain ⟨t, ht, e⟩ := List.mem_map.1 this
  have := List.mem_range.1 ht
  omega
theorem SR.uniq {d : List Int} {s j : Nat} {R R' : List Int} (h : SR d s j R) (h' : SR d s j R') : R = R' :=
  List.Perm.eq_of_pairwise (le := leZ d) (fun a b _ _ h1 h2 => by unfold leZ at h1 h2; omega) h.2 h'.2 (h.1.trans h'.1.symm)
theorem SR.zero (d : List Int) (s : Nat) : SR d s 0 [] := ⟨by simp, List.Pairwise.nil⟩
theorem SR.insert {d : List Int} {s j p : Nat} {R : List Int} (h : SR d s j R) (hp : p ≤ j) (h1 : p = 0 ∨ rd d (R.getD (p - 1) 0) ≤ rd d ((s + j : Nat) : Int)) (h2 : ∀ t, p ≤ t → t < j → rd d ((s + j : Nat) : Int) < rd d (R.getD t 0)) :
    SR d s (j + 1) (R.take p ++ ((s + j : Nat) : Int) :: R.drop p) := by
  have hl := h.len
  have hg : ∀ t, t < j → ∃ ht : t < R.length, R.getD t 0 = R[t] := fun t ht => ⟨by omega, by rw [List.getD_eq_getElem?_getD, List.getElem?_eq_getElem (by omega)]; rfl⟩
  have hpw := List.pairwise_iff_getElem.1 h.2
  refine ⟨?_, ?_⟩
  · rw [List.range_succ, List.map_append]
    refine (List.perm_middle.trans ?_)
    rw [List.take_append_drop]
    exact (List.Perm.cons _ h.1).trans (List.perm_append_singleton _ _).symm
  · rw [List.pairwise_append]
    refine ⟨h.2.sublist (List.take_sublist _ _), ?_, ?_⟩
    · refine List.Pairwise.cons (fun b hb => ?_) (h.2.sublist (List.drop_sublist _ _))
      obtain ⟨t, ht, rfl⟩ := List.getElem_of_mem hb
      rw [List.length_drop] at ht
      rw [List.getElem_drop]
      have := h2 (p + t) (by omega) (by omega)
      obtain ⟨h3, h4⟩ := hg (p + t) (by omega)
      rw [h4] at this
      exact Or.inl this
    · intro a ha b hb
      obtain ⟨t, ht, rfl⟩ := List.getElem_of_mem ha
      rw [List.length_take] at ht
      rw [List.getElem_take]
      rcases List.mem_cons.1 hb with rfl | hb
      · have hm := h.mem (List.getElem_mem (show t < R.length by omega))
        rcases h1 with h1 | h1
        · omega
        · obtain ⟨h3, h4⟩ := hg (p - 1) (by omega)
          rw [h4] at h1
          by_cases e : t = p - 1
          · subst e; unfold leZ; omega
          · have := hpw t (p - 1) (by omega) h3 (by omega)
            unfold leZ at this ⊢; omega
      · obtain ⟨u, hu, rfl⟩ := List.getElem_of_mem hb
        rw [List.length_drop] at hu
        rw [List.getElem_drop]
        exact hpw t (p + u) (by omega) (by omega) (by omega)
theorem ext_all {α : Type} (d : Array α) {n : Nat} (h : d.size = n) : d.extract 0 n = d := by subst h; exact Array.extract_size
theorem segS_SR (d : List Int) (s n : Nat) (hs : s + n ≤ d.length) : SR d s n (Go.Proofs.YteijndaldkkpfaaW.SortW.segS d s n) := by
  by_cases hn : n = 0
  · subst hn
    have := Go.Proofs.YteijndaldkkpfaaW.SortW.segS_len d s 0
    rw [List.length_eq_zero_iff.1 this]; exact SR.zero d s
  have hz : (Go.Proofs.YteijndaldkkpfaaW.SortW.segA d s n).size = n := Go.Proofs.YteijndaldkkpfaaW.SortW.segA_size d s n
  obtain ⟨h1, h2⟩ := Go.Proofs.YteijndaldkkpfaaW.Stab.stable_holds (key := Go.Proofs.YteijndaldkkpfaaW.SortW.keyD d) (idx := fun x => x.val - s) n (Go.Proofs.YteijndaldkkpfaaW.SortW.segA d s n) (by omega) (fun k hk => by
    show ((Go.Proofs.YteijndaldkkpfaaW.SortW.segA d s n)[k]!).val - s = k
    rw [Go.Proofs.YteijndaldkkpfaaW.SortW.segA_at d s n k hk hs]; omega)
  have hz2 : (Go.Proofs.YteijndaldkkpfaaW.Stab.stable (Go.Proofs.YteijndaldkkpfaaW.Stab.ltK (Go.Proofs.YteijndaldkkpfaaW.SortW.keyD d)) n (Go.Proofs.YteijndaldkkpfaaW.SortW.segA d s n)).size = n := by rw [Go.Proofs.YteijndaldkkpfaaW.SortW.stable_size, hz]
  have hp : (Go.Proofs.YteijndaldkkpfaaW.Stab.stable (Go.Proofs.YteijndaldkkpfaaW.Stab.ltK (Go.Proofs.YteijndaldkkpfaaW.SortW.keyD d)) n (Go.Proofs.YteijndaldkkpfaaW.SortW.segA d s n)).toList.Perm (Go.Proofs.YteijndaldkkpfaaW.SortW.segA d s n).toList := by
    have := h1.2.2
    rw [ext_all _ hz2, ext_all _ hz] at this
    exact this
  have hv : (Go.Proofs.YteijndaldkkpfaaW.SortW.segA d s n).toList.map (fun x => (x.val : Int)) = (List.range n).map fun (t : Nat) => ((s + t : Nat) : Int) := by
    apply List.ext_getElem
    · simp [Go.Proofs.YteijndaldkkpfaaW.SortW.segA]
    · intro k h1 h2
      have hk : k < n := by simpa using h2
      have := Go.Proofs.YteijndaldkkpfaaW.SortW.segA_at d s n k hk hs
      rw [getElem!_pos _ k (by omega)] at this
      rw [List.getElem_map, List.getElem_map, List.getElem_range, Array.getElem_toList, this]
  refine ⟨?_, ?_⟩
  · unfold Go.Proofs.YteijndaldkkpfaaW.SortW.segS
    rw [← hv]
    exact hp.map _
  · have hmem : ∀ x ∈ (Go.Proofs.YteijndaldkkpfaaW.Stab.stable (Go.Proofs.YteijndaldkkpfaaW.Stab.ltK (Go.Proofs.YteijndaldkkpfaaW.SortW.keyD d)) n (Go.Proofs.YteijndaldkkpfaaW.SortW.segA d s n)).toList, s ≤ x.val := fun x hx => by
      have h3 := List.mem_map_of_mem (f := fun x : Fin (d.length - 1 + 1) => (x.val : Int)) (hp.mem_iff.1 hx)
      rw [hv] at h3
      obtain ⟨t, _, e⟩ := List.mem_map.1 h3
      have e : ((s + t : Nat) : Int) = (x.val : Int) := e
      omega
    unfold Go.Proofs.YteijndaldkkpfaaW.SortW.segS
    rw [List.pairwise_map, List.pairwise_iff_getElem]
    intro i j hi hj hij
    have hi' : i < (Go.Proofs.YteijndaldkkpfaaW.Stab.stable (Go.Proofs.YteijndaldkkpfaaW.Stab.ltK (Go.Proofs.YteijndaldkkpfaaW.SortW.keyD d)) n (Go.Proofs.YteijndaldkkpfaaW.SortW.segA d s n)).size := by simpa using hi
    have hj' : j < (Go.Proofs.YteijndaldkkpfaaW.Stab.stable (Go.Proofs.YteijndaldkkpfaaW.Stab.ltK (Go.Proofs.YteijndaldkkpfaaW.SortW.keyD d)) n (Go.Proofs.YteijndaldkkpfaaW.SortW.segA d s n)).size := by simpa using hj
    have h3 := h2 i j (Nat.zero_le _) hij (by omega)
    rw [getElem!_pos _ i hi', getElem!_pos _ j hj'] at h3
    have h4 := hmem _ (List.getElem_mem hi)
    have h5 := hmem _ (List.getElem_mem hj)
    rw [Array.getElem_toList] at h4 h5 ⊢
    rw [Array.getElem_toList]
    have key : ∀ x y : Fin (d.length - 1 + 1), Go.Proofs.YteijndaldkkpfaaW.Stab.leK (Go.Proofs.YteijndaldkkpfaaW.SortW.keyD d) (fun x => x.val - s) x y → s ≤ x.val → s ≤ y.val → leZ d (x.val : Int) (y.val : Int) := by
      intro x y h3 h4 h5
      unfold Go.Proofs.YteijndaldkkpfaaW.Stab.leK Go.Proofs.YteijndaldkkpfaaW.SortW.keyD at h3
      have h3 : d.getD x.val 0 < d.getD y.val 0 ∨ d.getD x.val 0 = d.getD y.val 0 ∧ x.val - s ≤ y.val - s := h3
      unfold leZ rd
      simp only [Int.toNat_natCast]
      omega
    exact key _ _ h3 h4 h5
def sortV (l d : List Int) : List Int × Bool := if segOk l d = true then (Go.Proofs.YteijndaldkkpfaaW.SortW.outS d (l.map Int.toNat) l.length, true) else ([], false)
theorem nats_toNatS {l : List Int} (h : ∀ n ∈ l, 0 ≤ n) : nats (l.map Int.toNat) = l := by
  induction l with
  | nil => rfl
  | cons a t ih =>
    have h1 := ih (fun n hn => h n (List.mem_cons_of_mem _ hn))
    have h2 := h a List.mem_cons_self
    unfold nats at h1 ⊢
    rw [List.map_cons, List.map_cons, h1, Int.toNat_of_nonneg h2]
theorem sum_toNatS {l : List Int} (h : ∀ n ∈ l, 0 ≤ n) : (((l.map Int.toNat).sum : Nat) : Int) = tot l := by
  induction l with
  | nil => rfl
  | cons a t ih =>
    have h1 := ih (fun n hn => h n (List.mem_cons_of_mem _ hn))
    have h2 := h a List.mem_cons_self
    rw [List.map_cons, List.sum_cons, tot, ← h1]; omega
theorem sortLs_of {l d : List Int} (h : segOk l d = true) : sortLs l d := by
  obtain ⟨h1, h2, h3⟩ := segOk_iff.1 h
  obtain ⟨h4, h5, h6⟩ := lenOk_iff.1 h1
  obtain ⟨h7, h8⟩ := datOk_iff.1 h2
  have h9 : ∀ n ∈ l, 0 ≤ n := fun n hn => (okb_iff.1 h5 n hn).1
  have := sum_toNatS h9
  exact ⟨nats_toNatS h9, h4, by omega, h7, fun z hz => by have := okb_iff.1 h8 z hz; omega⟩
theorem sortV_len (l d : List Int) : (sortV l d).1.length ≤ 1048576 := by
  unfold sortV; split
  · rename_i h
    have h1 := sortLs_of h
    show (Go.Proofs.YteijndaldkkpfaaW.SortW.outS _ _ _).length ≤ _
    rw [Go.Proofs.YteijndaldkkpfaaW.SortW.outS_len, List.take_of_length_le (by rw [List.length_map]; exact Nat.le_refl _)]; have := h1.2.2.1; have := h1.2.2.2.1; omega
  · simp
theorem impl_Sort_eq (k : Nat) (l d : List Int) (hk : 3000000 ≤ k) (hl : l.length ≤ 1048576) (hd : d.length ≤ 1048576) : impl_SortSegments.f k l d = some (sortV l d) := by
  unfold impl_SortSegments.f
  rw [impl_SegmentsValid_eq k l d hk hl hd]
  simp only [Option.bind_some]
  cases h : segOk l d with
  | false => simp [sortV, h]
  | true => rw [if_pos rfl, if_pos (sortLs_of h)]; simp [sortV, h]
theorem starts_atS (l : List Int) : ∀ (i : Nat) (s : Int), i < l.length → (startsFrom s l).getD i 0 = s + tot (l.take i) := by
  induction l with
  | nil => intro i s h; simp at h
  | cons a t ih =>
    intro i s h
    cases i with
    | zero => simp [startsFrom, tot]
    | succ i =>
      rw [startsFrom, List.getD_cons_succ, ih i (s + a) (by simpa using h), List.take_succ_cons, tot]; omega
theorem spec_Sort_l2 (l d st O R : List Int) (N i m : Int) (s j : Nat) (V : List Int × Bool) (hO : O.length = s) (hS : SR d s j R) (hsj : s + j < d.length) (hd : d.length ≤ 400) (hwj : wrap64 ((j : Int) + 1) = ((j + 1 : Nat) : Int)) (c : Nat)
    (ih : ∀ k R', c < k → SR d s (j + 1) R' → spec_SortSegments.l1 k l d (O ++ R') s st N i m ((j + 1 : Nat) : Int) = some V) :
    ∀ (p k : Nat), p ≤ j → (∀ t, p ≤ t → t < j → rd d ((s + j : Nat) : Int) < rd d (R.getD t 0)) → p + 1 + c < k → spec_SortSegments.l2 k l d (O ++ R) s ((s + j : Nat) : Int) ((s + p : Nat) : Int) st N i m j = some V := by
  have hl := hS.len
  have htk : ∀ p, p ≤ j → (O ++ R).take (s + p) = O ++ R.take p := fun p hp => by rw [List.take_append, hO, List.take_of_length_le (by omega)]; congr 2; omega
  have hdr : ∀ p, p ≤ j → (O ++ R).drop (s + p) = R.drop p := fun p hp => by rw [List.drop_append, hO, List.drop_of_length_le (by omega)]; simp
  have fin : ∀ (p k : Nat), p ≤ j → c < k → (p = 0 ∨ rd d (R.getD (p - 1) 0) ≤ rd d ((s + j : Nat) : Int)) → (∀ t, p ≤ t → t < j → rd d ((s + j : Nat) : Int) < rd d (R.getD t 0)) →
      spec_SortSegments.l1 k l d (((([] : List Int) ++ (O ++ R).take (((s + p : Nat) : Int)).toNat) ++ [((s + j : Nat) : Int)]) ++ (O ++ R).drop (((s + p : Nat) : Int)).toNat) s st N i m ((j + 1 : Nat) : Int) = some V := by
    intro p k hp hk h1 h2
    have := ih k _ hk (hS.insert hp h1 h2)
    rw [Int.toNat_natCast, htk p hp, hdr p hp]
    simpa using this
  intro p
  induction p with
  | zero =>
    intro k hp h2 hk
    obtain ⟨k, rfl⟩ : ∃ q, k = q + 1 := ⟨k - 1, by omega⟩
    have := fin 0 k (by omega) (by omega) (.inl rfl) h2
    rw [spec_SortSegments.l2, if_neg (by omega)]
    simp only [Option.bind_some]
    rw [if_pos (by omega), if_pos (by rw [List.length_append]; omega), if_pos (by rw [List.length_take, List.length_append]; simp; omega), if_pos (by simp; omega), if_pos (by simp; omega), hwj]
    exact this
  | succ p ihp =>
    intro k hp h2 hk
    obtain ⟨k, rfl⟩ : ∃ q, k = q + 1 := ⟨k - 1, by omega⟩
    have e1 : wrap64 (((s + (p + 1) : Nat) : Int) - 1) = ((s + p : Nat) : Int) := by rw [w64 (by omega) (by omega)]; omega
    have e2 : rd (O ++ R) ((s + p : Nat) : Int) = R.getD p 0 := by
      rw [rd_nat, List.getD_eq_getElem?_getD, List.getElem?_append_right (by omega), hO, List.getD_eq_getElem?_getD, show s + p - s = p by omega]
    have e3 := hS.mem (x := R.getD p 0) (by rw [List.getD_eq_getElem?_getD, List.getElem?_eq_getElem (by omega)]; exact List.getElem_mem _)
    rw [spec_SortSegments.l2, if_pos (by omega), e1, if_pos (by omega), if_pos (by rw [List.length_append]; omega), e2, if_pos (by omega), if_pos (by omega), if_pos (by omega), if_pos (by omega)]
    by_cases hc : rd d (R.getD p 0) > rd d ((s + j : Nat) : Int)
    · rw [if_pos hc]
      exact ihp k (by omega) (fun t ht htj => by
        by_cases e : t = p
        · subst e; exact hc
        · exact h2 t (by omega) htj) (by omega)
    · rw [if_neg hc]
      have := fin (p + 1) k hp (by omega) (.inr (by rw [Nat.add_sub_cancel]; omega)) h2
      simp only [Option.bind_some]
      rw [if_pos (by omega), if_pos (by rw [List.length_append]; omega), if_pos (by rw [List.length_take, List.length_append]; simp; omega), if_pos (by simp; omega), if_pos (by simp; omega), hwj]
      exact this
theorem spec_Sort_l1 (l d st : List Int) (N : Int) (ls : List Nat) (V : List Int × Bool) (hn : ls.length ≤ 400) (hs : ls.sum = d.length) (hd : d.length ≤ 400) (i : Nat) (hi : i < ls.length) (S m : Nat) (hS : S = (ls.take i).sum) (hm : m = ls.getD i 0) (hSm : S + m ≤ d.length) (c : Nat)
    (ih : ∀ k, c < k → spec_SortSegments.l0 k l d (Go.Proofs.YteijndaldkkpfaaW.SortW.outS d ls (i + 1)) st N ((i + 1 : Nat) : Int) = some V) :
    ∀ (q j k : Nat) (R : List Int), q = m - j → j ≤ m → SR d S j R → q * 403 + 1 + c < k → spec_SortSegments.l1 k l d (Go.Proofs.YteijndaldkkpfaaW.SortW.outS d ls i ++ R) S st N i m j = some V := by
  have hol : (Go.Proofs.YteijndaldkkpfaaW.SortW.outS d ls i).length = S := by rw [Go.Proofs.YteijndaldkkpfaaW.SortW.outS_len, hS]
  intro q
  induction q with
  | zero =>
    intro j k R hq hj hR hk
    obtain ⟨k, rfl⟩ : ∃ m, k = m + 1 := ⟨k - 1, by omega⟩
    rw [spec_SortSegments.l1, if_neg (by omega), w64_i i (by omega)]
    have := ih k (by omega)
    have hmj : m = j := by omega
    subst hmj
    rw [Go.Proofs.YteijndaldkkpfaaW.SortW.outS, ← hS, ← hm, ← hR.uniq (segS_SR d S m hSm)] at this
    exact this
  | succ q ihq =>
    intro j k R hq hj hR hk
    obtain ⟨k, rfl⟩ : ∃ m, k = m + 1 := ⟨k - 1, by omega⟩
    rw [spec_SortSegments.l1, if_pos (by omega), w64 (x := (S : Int) + j) (by omega) (by omega)]
    have := spec_Sort_l2 l d st (Go.Proofs.YteijndaldkkpfaaW.SortW.outS d ls i) R N i m S j V hol hR (by omega) hd (w64_i j (by omega)) (q * 403 + 1 + c) (fun k R' hk hR' => ihq (j + 1) k R' (by omega) (by omega) hR' hk) j k (Nat.le_refl _) (fun t h1 h2 => by omega) (by omega)
    rw [List.length_append, hol, hR.len]
    exact this
theorem spec_Sort_l0 (l d : List Int) (ls : List Nat) (hl : l = nats ls) (hn : ls.length ≤ 400) (hs : ls.sum = d.length) (hd : d.length ≤ 400) (ht : ∀ i, i ≤ ls.length → tot (l.take i) = ((ls.take i).sum : Nat)) (C : Nat) (hC : 400 * 403 + 10 ≤ C) :
    ∀ (q i k : Nat), q = ls.length - i → i ≤ ls.length → q * C < k → spec_SortSegments.l0 k l d (Go.Proofs.YteijndaldkkpfaaW.SortW.outS d ls i) (startsFrom 0 l) ls.length i = some (Go.Proofs.YteijndaldkkpfaaW.SortW.outS d ls ls.length, true) := by
  have hll : l.length = ls.length := by rw [hl]; unfold nats; rw [List.length_map]
  have hsl : (startsFrom 0 l).length = ls.length := by rw [startsFrom_length, hll]
  intro q
  induction q with
  | zero =>
    intro i k hd hi hk
    obtain ⟨k, rfl⟩ : ∃ m, k = m + 1 := ⟨k - 1, by omega⟩
    obtain rfl : i = ls.length := by omega
    rw [spec_SortSegments.l0, if_neg (by omega)]
  | succ q ih =>
    intro i k hq hi hk
    obtain ⟨k, rfl⟩ : ∃ m, k = m + 1 := ⟨k - 1, by omega⟩
    rw [Nat.succ_mul] at hk
    have hi' : i < ls.length := by omega
    have h1 := take_sum ls i hi'
    have h2 := take_sum_le ls (i + 1)
    have hm : ls.getD i 0 = ls[i] := by simp [List.getD_eq_getElem?_getD, List.getElem?_eq_getElem hi']
    have hr : rd l (i : Int) = ((ls.getD i 0 : Nat) : Int) := by
      rw [rd_nat, hl]; unfold nats
      simp [List.getD_eq_getElem?_getD, List.getElem?_eq_getElem hi']
    have hst : rd (startsFrom 0 l) (i : Int) = (((ls.take i).sum : Nat) : Int) := by
      rw [rd_nat, starts_atS l i 0 (by omega), ht i (by omega)]; omega
    rw [spec_SortSegments.l0, if_pos (by omega), if_pos (by omega), if_pos (by omega), if_pos (by omega), hr, hst]
    have := spec_Sort_l1 l d (startsFrom 0 l) ls.length ls _ hn hs hd i hi' _ _ rfl rfl (by omega) (q * C) (fun k hk => ih (i + 1) k (by omega) (by omega) hk) (ls.getD i 0) 0 k [] (by omega) (by omega) (SR.zero _ _) (by omega)
    simpa using this
theorem spec_Sort_eq (k : Nat) (l d : List Int) (hk : 100000000 ≤ k) (hl : l.length ≤ 1048576) (hd : d.length ≤ 1048576) : spec_SortSegments.f k l d = some (sortV l d) := by
  unfold spec_SortSegments.f
  simp only [Option.bind_some]
  rw [spec_SegmentsValid_eq k l d (by omega) hl hd]
  simp only [Option.bind_some]
  cases h : segOk l d with
  | false => simp [sortV, h]
  | true =>
    have hT := sortLs_of h
    have hlen := (segOk_iff.1 h).1
    have h4 : ∀ n ∈ l, 0 ≤ n := fun n hn => (okb_iff.1 (lenOk_iff.1 hlen).2.1 n hn).1
    rw [if_pos rfl, l3Starts_eq k l (by omega) hlen]
    simp only [Option.bind_some]
    have hsl : (startsFrom 0 l).length = (l.map Int.toNat).length := by rw [startsFrom_length, List.length_map]
    have := spec_Sort_l0 l d (l.map Int.toNat) hT.1.symm (by rw [List.length_map]; exact hT.2.1) hT.2.2.1 hT.2.2.2.1 (fun i _ => by
      rw [← List.map_take, sum_toNatS (fun n hn => h4 n (List.mem_of_mem_take hn))]) 161300 (by decide) l.length 0 k (by rw [List.length_map]; omega) (by omega) (by have := hT.2.1; exact Nat.lt_of_le_of_lt (Nat.mul_le_mul_right 161300 this) (Nat.lt_of_lt_of_le (by decide) hk))
    rw [hsl]
    rw [show sortV l d = (Go.Proofs.YteijndaldkkpfaaW.SortW.outS d (l.map Int.toNat) (l.map Int.toNat).length, true) from by simp [sortV, h]]
    exact this
theorem isRamp_iff (s : List Int) : ∀ i : Int, isRamp i s = true ↔ s = ramp i s.length := by
  induction s with
  | nil => intro i; simp [isRamp, ramp]
  | cons a t ih =>
    intro i
    by_cases h : a = i
    · subst h; simp [isRamp, ih, ramp]
    · simp [isRamp, h, ramp]
theorem ramp_mem (n : Nat) : ∀ (i x : Int), x ∈ ramp i n ↔ i ≤ x ∧ x < i + n := by
  induction n with
  | zero => intro i x; simp only [ramp, List.not_mem_nil, false_iff]; omega
  | succ n ih => intro i x; simp only [ramp, List.mem_cons, ih]; omega
theorem ramp_nodup (n : Nat) : ∀ i : Int, (ramp i n).Nodup := by
  induction n with
  | zero => intro i; simp [ramp]
  | succ n ih =>
    intro i
    rw [ramp, List.nodup_cons]
    exact ⟨by rw [ramp_mem]; omega, ih _⟩
theorem up_last (t : List Int) : ∀ b : Int, t.Pairwise (· < ·) → (∀ x ∈ t, b ≤ x) → t ≠ [] → ∃ x ∈ t, b + t.length - 1 ≤ x := by
  induction t with
  | nil => intro b _ _ h; exact absurd rfl h
  | cons a t ih =>
    intro b hp hb _
    rw [List.pairwise_cons] at hp
    have ha := hb a (by simp)
    cases t with
    | nil => exact ⟨a, by simp, by simp; omega⟩
    | cons c u =>
      obtain ⟨x, hx, hle⟩ := ih (a + 1) hp.2 (fun x hx => by have := hp.1 x hx; omega) (by simp)
      exact ⟨x, by simp [hx], by simp only [List.length_cons] at hle ⊢; omega⟩
theorem up_ramp (s : List Int) : ∀ i : Int, s.Pairwise (· < ·) → (∀ x ∈ s, i ≤ x ∧ x < i + s.length) → isRamp i s = true := by
  induction s with
  | nil => intro i _ _; rfl
  | cons a t ih =>
    intro i hp hb
    rw [List.pairwise_cons] at hp
    have ha := hb a (by simp)
    have e : a = i := by
      cases t with
      | nil => simp at ha; omega
      | cons c u =>
        obtain ⟨x, hx, hle⟩ := up_last (c :: u) (a + 1) hp.2 (fun x hx => by have := hp.1 x hx; omega) (by simp)
        have := hb x (by simp [hx])
        simp only [List.length_cons] at *
        omega
    rw [isRamp, if_pos e]
    refine ih (i + 1) hp.2 (fun x hx => ?_)
    have h1 := hp.1 x hx
    have h2 := hb x (by simp [hx])
    simp only [List.length_cons] at h2
    omega
theorem sortedL_perm (l : List Int) : (sortedL l).Perm l := List.mergeSort_perm l _
theorem sortedL_le (l : List Int) : (sortedL l).Pairwise (fun x y => decide (x ≤ y) = true) := List.pairwise_mergeSort (fun a b c h1 h2 => by simp at *; omega) (fun a b => by simp; omega) l
theorem sorted_ramp_iff (l : List Int) : isRamp 0 (sortedL l) = true ↔ okb ((l.length : Int) - 1) l = true ∧ l.Nodup := by
  have hl : (sortedL l).length = l.length := sortedL_length l
  constructor
  · intro h
    rw [isRamp_iff, hl] at h
    have hp := (sortedL_perm l).symm
    rw [h] at hp
    refine ⟨okb_iff.2 fun n hn => ?_, hp.nodup_iff.2 (ramp_nodup _ _)⟩
    have := (ramp_mem _ _ _).1 (hp.mem_iff.1 hn)
    omega
  · rintro ⟨h1, h2⟩
    have hn : (sortedL l).Nodup := (sortedL_perm l).nodup_iff.2 h2
    refine up_ramp _ 0 ?_ (fun x hx => ?_)
    · have h3 := sortedL_le l
      exact (h3.and hn).imp (fun {a b} h => by
        have ha := h.1; have hb := h.2
        simp at ha
        omega)
    · have := okb_iff.1 h1 x ((sortedL_perm l).mem_iff.1 hx)
      rw [hl]; omega
def permV (l : List Int) : Bool := (okb ((l.length : Int) - 1) l && decide (l.length ≤ 400)) && decide l.Nodup
theorem impl_Perm_eq (l : List Int) (hl : l.length ≤ 1048576) : impl_IsPermutation.f l = some (permV l) := by
  unfold impl_IsPermutation.f
  rw [if_pos (by omega)]
  congr 1
  have := sorted_ramp_iff l
  unfold permV
  by_cases h : isRamp 0 (sortedL l) = true
  · obtain ⟨h1, h2⟩ := this.1 h
    rw [if_pos h]; simp [h1, h2]
  · rw [if_neg h]
    by_cases h1 : okb ((l.length : Int) - 1) l = true
    · have h2 : ¬ l.Nodup := fun h2 => h (this.2 ⟨h1, h2⟩)
      simp [h2]
    · simp [h1]
theorem permV_iff {l : List Int} : permV l = true ↔ okb ((l.length : Int) - 1) l = true ∧ l.length ≤ 400 ∧ l.Nodup := by simp [permV, and_assoc]
theorem ofInt_toNat64 (a : Nat) (ha : a < 18446744073709551616) : (BitVec.ofInt 64 (a : Int)).toNat = a := by
  rw [BitVec.ofInt_natCast, BitVec.toNat_ofNat]; exact Nat.mod_eq_of_lt (by omega)
theorem xor_i64 (a b : Nat) (ha : a < 4611686018427387904) (hb : b < 4611686018427387904) : Go.bits .xor .i64 (a : Int) (b : Int) = ((a ^^^ b : Nat) : Int) := by
  have hx : a ^^^ b < 2 ^ 62 := Nat.xor_lt_two_pow (by omega) (by omega)
  show IntKind.i64.wrap ((BitVec.ofInt 64 (a : Int) ^^^ BitVec.ofInt 64 (b : Int)).toNat : Int) = _
  rw [BitVec.toNat_xor, ofInt_toNat64 a (by omega), ofInt_toNat64 b (by omega)]
  simp [IntKind.wrap, IntKind.bits, IntKind.signed]
  omega
theorem xor_nonneg (a b : Int) (h0 : 0 ≤ a) (h1 : a < 4611686018427387904) (h2 : 0 ≤ b) (h3 : b < 4611686018427387904) : 0 ≤ Go.bits .xor .i64 a b := by
  obtain ⟨n, rfl⟩ := Int.eq_ofNat_of_zero_le h0
  obtain ⟨m, rfl⟩ := Int.eq_ofNat_of_zero_le h2
  rw [xor_i64 n m (by omega) (by omega)]; omega
theorem tmod_pos (a b : Int) (h : 0 ≤ a) : Int.tmod a b = a % b := Int.tmod_eq_emod_of_nonneg h
theorem tdiv_pos (a b : Int) (h : 0 ≤ a) : Int.tdiv a b = a / b := Int.tdiv_eq_ediv_of_nonneg h
theorem rd_range {m : Int} {l : List Int} (h : okb m l = true) (i : Int) (h0 : 0 ≤ i) (h1 : i < (l.length : Int)) : 0 ≤ rd l i ∧ rd l i ≤ m := okb_iff.1 h _ (rd_mem h0 h1)
/-- A source of drawn numbers: bytes, and how many have been drawn. -/
def Src (b : List Int) (p : Int) (m : Int) : Prop := okb 255 b = true ∧ b.length ≤ 2000 ∧ 0 ≤ p ∧ p ≤ m ∧ m ≤ 1000000000
theorem Src.mono {b : List Int} {p m m' : Int} (h : Src b p m) (h1 : m ≤ m') (h2 : m' ≤ 1000000000) : Src b p m' := ⟨h.1, h.2.1, h.2.2.1, by have := h.2.2.2.1; omega, h2⟩
theorem pick_any (k : Nat) (b : List Int) (p m n : Int) (hk : 1 ≤ k) (h : Src b p m) (hm : m + 1 ≤ 1000000000) :
    ∃ v, spec_l13Rd_pick.f k b p n = some (v, p + 1) ∧ 0 ≤ v ∧ (1 ≤ n → v < n) ∧ Src b (p + 1) (m + 1) := by
  obtain ⟨h1, h2, h3, h4, h5⟩ := h
  obtain ⟨k, rfl⟩ : ∃ j, k = j + 1 := ⟨k - 1, by omega⟩
  have hS : Src b (p + 1) (m + 1) := ⟨h1, h2, by omega, by omega, hm⟩
  unfold spec_l13Rd_pick.f
  have e0 : wrap64 (p + 1) = p + 1 := w64 (by omega) (by omega)
  have e1 : wrap64 (p + 1 - 1) = p := by rw [w64 (by omega) (by omega)]; omega
  by_cases hn : n < 1
  · rw [if_pos hn, e0, spec_l13Rd_pick.j0, if_pos rfl]
    exact ⟨0, rfl, by omega, fun h => by omega, hS⟩
  rw [if_neg hn, e0, spec_l13Rd_pick.j0]
  by_cases hb : b = []
  · rw [if_pos (by rw [hb]; rfl)]
    exact ⟨0, rfl, by omega, fun h => by omega, hS⟩
  have hbl : 0 < b.length := List.length_pos_iff.2 hb
  rw [if_neg (by simp [hb]), e1]
  have fin : ∀ x : Int, 0 ≤ x → ∃ v, (some (Int.tmod x n, p + 1) : Option (Int × Int)) = some (v, p + 1) ∧ 0 ≤ v ∧ (1 ≤ n → v < n) ∧ Src b (p + 1) (m + 1) := fun x hx =>
    ⟨Int.tmod x n, rfl, by rw [tmod_pos _ _ hx]; exact Int.emod_nonneg _ (by omega), fun _ => by rw [tmod_pos _ _ hx]; exact Int.emod_lt_of_pos _ (by omega), hS⟩
  by_cases hp : p < (b.length : Int)
  · have hr := rd_range h1 p h3 hp
    rw [if_pos hp, if_pos h3, if_neg (by omega), w64 (x := rd b p) (by omega) (by omega)]
    exact fin _ hr.1
  rw [if_neg hp, if_neg (by omega)]
  have q1 : Int.tmod p (b.length : Int) = p % (b.length : Int) := tmod_pos _ _ h3
  have a1 := Int.emod_nonneg p (b := (b.length : Int)) (by omega)
  have a2 := Int.emod_lt_of_pos p (b := (b.length : Int)) (by omega)
  have w7 : wrap64 (wrap64 (p * 7) + 3) = p * 7 + 3 := by rw [w64 (x := p * 7) (by omega) (by omega), w64 (by omega) (by omega)]
  rw [q1, w7]
  have q2 : Int.tmod (p * 7 + 3) (b.length : Int) = (p * 7 + 3) % (b.length : Int) := tmod_pos _ _ (by omega)
  have b1 := Int.emod_nonneg (p * 7 + 3) (b := (b.length : Int)) (by omega)
  have b2 := Int.emod_lt_of_pos (p * 7 + 3) (b := (b.length : Int)) (by omega)
  rw [q2, if_pos a1, if_pos a2, if_pos b1, if_pos b2, if_neg (by omega)]
  have r1 := rd_range h1 _ a1 a2
  have r2 := rd_range h1 _ b1 b2
  have q3 : Int.tdiv p (b.length : Int) = p / (b.length : Int) := tdiv_pos _ _ h3
  have d1 : 0 ≤ p / (b.length : Int) := Int.ediv_nonneg h3 (by omega)
  have d2 : p / (b.length : Int) ≤ p := Int.ediv_le_self _ h3
  generalize rd b (p % (b.length : Int)) = x1 at r1 ⊢
  generalize rd b ((p * 7 + 3) % (b.length : Int)) = x2 at r2 ⊢
  rw [q3]
  generalize p / (b.length : Int) = x3 at d1 d2 ⊢
  rw [w64 (x := x1) (by omega) (by omega), w64 (x := x2) (by omega) (by omega), w64 (x := x3) (by omega) (by omega), w64 (x := x1 * 131) (by omega) (by omega), w64 (x := x2 * 1117) (by omega) (by omega), w64 (x := p * 29) (by omega) (by omega), w64 (x := x3 * 53) (by omega) (by omega),
    w64 (x := x1 * 131 + x2 * 1117) (by omega) (by omega), w64 (x := x1 * 131 + x2 * 1117 + p * 29) (by omega) (by omega), w64 (x := x1 * 131 + x2 * 1117 + p * 29 + x3 * 53) (by omega) (by omega)]
  have z0 : 0 ≤ x1 * 131 + x2 * 1117 + p * 29 + x3 * 53 := by omega
  have z1 : x1 * 131 + x2 * 1117 + p * 29 + x3 * 53 < 4611686018427387904 := by omega
  generalize x1 * 131 + x2 * 1117 + p * 29 + x3 * 53 = z at z0 z1 ⊢
  rw [tdiv_pos _ _ z0, w64 (x := z / 64) (by omega) (by omega)]
  exact fin _ (xor_nonneg _ _ z0 z1 (by omega) (by omega))
theorem num_any (k : Nat) (b : List Int) (p m : Int) (l : List Int) (hk : 1 ≤ k) (h : Src b p m) (hm : m + 1 ≤ 1000000000) (hl : l ≠ []) :
    ∃ v, spec_l13Rd_num.f k b p l = some (v, p + 1) ∧ v ∈ l ∧ Src b (p + 1) (m + 1) := by
  obtain ⟨v, hv, h0, h1, hS⟩ := pick_any k b p m (l.length : Int) hk h hm
  have hll : 0 < l.length := List.length_pos_iff.2 hl
  have h1 := h1 (by omega)
  unfold spec_l13Rd_num.f
  rw [hv]
  simp only [Option.bind_some]
  rw [if_pos h0, if_pos h1]
  exact ⟨rd l v, rfl, rd_mem h0 h1, hS⟩
theorem open_any (c : List Int) (h : okb 255 c = true) (hl : c.length ≤ 1048576) : ∃ b, spec_l13Open.f c = some (b, 0) ∧ Src b 0 0 := by
  unfold spec_l13Open.f
  by_cases h1 : (c.length : Int) > 2000
  · rw [if_pos h1, if_pos (by omega)]
    exact ⟨_, rfl, okb_take h _, by simp; omega, by omega, by omega, by omega⟩
  · rw [if_neg h1]
    exact ⟨_, rfl, h, by omega, by omega, by omega, by omega⟩
theorem wf_u8 {l : List Int} (h : ∀ x ∈ l, (Lit.int .u8 x).wf = true) : okb 255 l = true := by
  rw [okb_iff]; intro n hn
  have := h n hn
  simp [Lit.wf, IntKind.min, IntKind.max, IntKind.signed, IntKind.bits] at this
  omega
theorem l3Draw_l1 (b : List Int) (n i : Nat) (hn : n ≤ 1000) (hi : i < n) (s5 : List Int) (hs5 : s5.length ≤ i + 1)
    (ih : ∀ (k : Nat) (p m : Int) (s6 : List Int), 7 * (n - (i + 1)) + 3 < k → s6.length ≤ 4 * (i + 1) → Src b p m → m + 20 * ((n - (i + 1) : Nat) : Int) ≤ 100000000 → ∃ x u p', spec_l3Draw.l0 k s5 s6 n ((i + 1 : Nat) : Int) b p = some (x, u, p') ∧ x.length ≤ n ∧ u.length ≤ 4 * n ∧ Src b p' (m + 20 * ((n - (i + 1) : Nat) : Int))) :
    ∀ (d j v k : Nat) (p m : Int) (s6 : List Int), d = v - j → v ≤ 4 → j ≤ v → d + (7 * (n - (i + 1)) + 3) + 1 < k → s6.length ≤ 4 * i + j → Src b p m → m + 2 * d + 20 * ((n - (i + 1) : Nat) : Int) ≤ 100000000 →
      ∃ x u p', spec_l3Draw.l1 k s5 s6 n i v j b p = some (x, u, p') ∧ x.length ≤ n ∧ u.length ≤ 4 * n ∧ Src b p' (m + 2 * d + 20 * ((n - (i + 1) : Nat) : Int)) := by
  intro d
  induction d with
  | zero =>
    intro j v k p m s6 hd hv hj hk hs hS hm
    obtain ⟨k, rfl⟩ : ∃ j, k = j + 1 := ⟨k - 1, by omega⟩
    rw [spec_l3Draw.l1, if_neg (by omega), w64_i i (by omega)]
    obtain ⟨x, u, p', e, h1, h2, h3⟩ := ih k p m s6 (by omega) (by omega) hS (by omega)
    exact ⟨x, u, p', e, h1, h2, h3.mono (by omega) (by omega)⟩
  | succ d ihd =>
    intro j v k p m s6 hd hv hj hk hs hS hm
    obtain ⟨k, rfl⟩ : ∃ j, k = j + 1 := ⟨k - 1, by omega⟩
    rw [spec_l3Draw.l1, if_pos (by omega)]
    obtain ⟨q, e0, _, _, hS0⟩ := pick_any k b p m 100 (by omega) hS (by omega)
    rw [e0]; simp only [Option.bind_some]
    obtain ⟨u, e1, _, hS1⟩ := num_any k b (p + 1) (m + 1) [1, 0, 2, 3, 10006, q, 5000] (by omega) hS0 (by omega) (by simp)
    rw [e1]; simp only [Option.bind_some]
    rw [if_pos (by omega), w64_i j (by omega)]
    obtain ⟨x, u', p', e, h1, h2, h3⟩ := ihd (j + 1) v k (p + 1 + 1) (m + 1 + 1) (s6 ++ [u]) (by omega) hv (by omega) (by omega) (by simp; omega) hS1 (by omega)
    exact ⟨x, u', p', e, h1, h2, h3.mono (by omega) (by omega)⟩
theorem l3Draw_l0 (b : List Int) (n : Nat) (hn : n ≤ 1000) : ∀ (d i k : Nat) (p m : Int) (s5 s6 : List Int), d = n - i → i ≤ n → 7 * d + 3 < k → s5.length ≤ i → s6.length ≤ 4 * i → Src b p m → m + 20 * d ≤ 100000000 →
    ∃ x u p', spec_l3Draw.l0 k s5 s6 n i b p = some (x, u, p') ∧ x.length ≤ n ∧ u.length ≤ 4 * n ∧ Src b p' (m + 20 * d) := by
  intro d
  induction d with
  | zero =>
    intro i k p m s5 s6 hd hi hk h5 h6 hS hm
    obtain ⟨k, rfl⟩ : ∃ j, k = j + 1 := ⟨k - 1, by omega⟩
    rw [spec_l3Draw.l0, if_neg (by omega)]
    exact ⟨_, _, _, rfl, by omega, by omega, hS.mono (by omega) (by omega)⟩
  | succ d ih =>
    intro i k p m s5 s6 hd hi hk h5 h6 hS hm
    obtain ⟨k, rfl⟩ : ∃ j, k = j + 1 := ⟨k - 1, by omega⟩
    rw [spec_l3Draw.l0, if_pos (by omega)]
    obtain ⟨v, e1, hv, hS1⟩ := num_any k b p m [2, 0, 1, 3, 0, 4] (by omega) hS (by omega) (by simp)
    rw [e1]; simp only [Option.bind_some]
    rw [if_pos (by omega)]
    obtain ⟨v, rfl, hv3⟩ : ∃ v' : Nat, v = v' ∧ v' ≤ 4 := ⟨v.toNat, by simp at hv; omega, by simp at hv; omega⟩
    obtain ⟨x, u, p', e, h1, h2, h3⟩ := l3Draw_l1 b n i hn (by omega) (s5 ++ [(v : Int)]) (by simp; omega) (fun k p m s6 h1 h2 h3 h4 => by
      obtain ⟨x, u, p', e, g1, g2, g3⟩ := ih (i + 1) k p m (s5 ++ [(v : Int)]) s6 (by omega) (by omega) (by omega) (by simp; omega) (by omega) h3 (by omega)
      exact ⟨x, u, p', e, g1, g2, g3.mono (by omega) (by omega)⟩) v 0 v k (p + 1) (m + 1) s6 (by omega) hv3 (by omega) (by omega) (by omega) hS1 (by omega)
    exact ⟨x, u, p', e, h1, h2, h3.mono (by omega) (by omega)⟩
theorem l3Draw_any (k : Nat) (b : List Int) (p m : Int) (hk : 100 ≤ k) (hS : Src b p m) (hm : m ≤ 1000000) :
    ∃ x u p', spec_l3Draw.f k b p = some (x, u, p') ∧ x.length ≤ 5 ∧ u.length ≤ 20 ∧ Src b p' (m + 200) := by
  unfold spec_l3Draw.f
  obtain ⟨v, e1, h0, h1, hS1⟩ := pick_any k b p m 6 (by omega) hS (by omega)
  have h1 := h1 (by omega)
  rw [e1]; simp only [Option.bind_some]
  obtain ⟨n, rfl⟩ := Int.eq_ofNat_of_zero_le h0
  obtain ⟨x, u, p', e2, h2, h3, h4⟩ := l3Draw_l0 b n (by omega) n 0 k (p + 1) (m + 1) [] [] (by omega) (by omega) (by omega) (by simp) (by simp) hS1 (by omega)
  exact ⟨x, u, p', e2, by omega, by omega, h4.mono (by omega) (by omega)⟩
theorem l3Some_any (k : Nat) (b : List Int) (p m : Int) (hk : 100 ≤ k) (hS : Src b p m) (hm : m ≤ 100000) :
    ∃ x u p', spec_l3Some.f k b p = some (x, u, p') ∧ x.length ≤ 6 ∧ u.length ≤ 400 ∧ Src b p' (m + 300) := by
  unfold spec_l3Some.f
  obtain ⟨x, u, p1, e1, h1, h2, hS1⟩ := l3Draw_any k b p m hk hS (by omega)
  rw [e1]; simp only [Option.bind_some]
  obtain ⟨v, e2, _, _, hS2⟩ := pick_any k b p1 (m + 200) 24 (by omega) hS1 (by omega)
  rw [e2]; simp only [Option.bind_some]
  split
  · obtain ⟨w, e3, _, hS3⟩ := num_any k b (p1 + 1) (m + 200 + 1) [1, -1, 401, 9223372036854775807] (by omega) hS2 (by omega) (by simp)
    rw [e3]; simp only [Option.bind_some]
    rw [if_pos (by omega)]
    exact ⟨_, _, _, rfl, by simp; omega, by omega, hS3.mono (by omega) (by omega)⟩
  split
  · obtain ⟨w, e3, _, hS3⟩ := num_any k b (p1 + 1) (m + 200 + 1) [0, -1, 10007] (by omega) hS2 (by omega) (by simp)
    rw [e3]; simp only [Option.bind_some]
    rw [if_pos (by omega)]
    exact ⟨_, _, _, rfl, by omega, by simp; omega, hS3.mono (by omega) (by omega)⟩
  split
  · rw [if_pos (by omega)]
    exact ⟨_, _, _, rfl, by simp, by rw [List.length_replicate]; omega, hS2.mono (by omega) (by omega)⟩
  · exact ⟨_, _, _, rfl, by omega, by omega, hS2.mono (by omega) (by omega)⟩
def catF (F : Nat → List Int) : Nat → List Int
  | 0 => []
  | i + 1 => catF F i ++ F i
def idsN (s n : Nat) : List Int := (List.range n).map fun (t : Nat) => ((s + t : Nat) : Int)
theorem idsN_len (s n : Nat) : (idsN s n).length = n := by simp [idsN]
theorem idsN_at (s n j : Nat) (h : j < n) : (idsN s n).getD j 0 = ((s + j : Nat) : Int) := by
  unfold idsN
  rw [List.getD_eq_getElem?_getD, List.getElem?_map, List.getElem?_range h]; rfl
theorem idsN_mem (s n : Nat) (x : Int) (h : x ∈ idsN s n) : ((s : Nat) : Int) ≤ x ∧ x < ((s + n : Nat) : Int) := by
  obtain ⟨t, ht, e⟩ := List.mem_map.1 h
  have := List.mem_range.1 ht
  omega
theorem idsN_add (s a b : Nat) : idsN s (a + b) = idsN s a ++ idsN (s + a) b := by
  unfold idsN
  rw [List.range_add, List.map_append, List.map_map]
  congr 1
  apply List.map_congr_left
  intro t _
  show ((s + (a + t) : Nat) : Int) = ((s + a + t : Nat) : Int)
  omega
theorem idsN_nodup (s n : Nat) : (idsN s n).Nodup := by
  unfold idsN
  refine List.Pairwise.map _ (R := fun a b => a ≠ b) (fun a b h => ?_) List.nodup_range
  intro e; apply h; omega
section
variable {ls : List Nat} {F : Nat → List Int}
theorem take_succ_sum (ls : List Nat) (i : Nat) (h : i < ls.length) : (ls.take (i + 1)).sum = (ls.take i).sum + ls.getD i 0 := by
  rw [take_sum ls i h, List.getD_eq_getElem?_getD, List.getElem?_eq_getElem h]; rfl
theorem catF_perm (hF : ∀ i, i < ls.length → (F i).Perm (idsN (ls.take i).sum (ls.getD i 0))) : ∀ i, i ≤ ls.length → (catF F i).Perm (idsN 0 (ls.take i).sum) := by
  intro i
  induction i with
  | zero => intro _; simp [catF, idsN]
  | succ i ih =>
    intro h
    rw [catF, take_succ_sum ls i (by omega), idsN_add, Nat.zero_add]
    exact (ih (by omega)).append (hF i (by omega))
theorem catF_len (hF : ∀ i, i < ls.length → (F i).Perm (idsN (ls.take i).sum (ls.getD i 0))) (i : Nat) (h : i ≤ ls.length) : (catF F i).length = (ls.take i).sum := by
  rw [(catF_perm hF i h).length_eq, idsN_len]
theorem catF_at (hF : ∀ i, i < ls.length → (F i).Perm (idsN (ls.take i).sum (ls.getD i 0))) : ∀ n, n ≤ ls.length → ∀ i, i < n → ∀ j, j < ls.getD i 0 → (catF F n).getD ((ls.take i).sum + j) 0 = (F i).getD j 0 := by
  intro n
  induction n with
  | zero => intro _ i h; omega
  | succ n ih =>
    intro hn i hi j hj
    have hl := catF_len hF n (by omega)
    have hFl : (F i).length = ls.getD i 0 := by rw [(hF i (by omega)).length_eq, idsN_len]
    rw [catF]
    by_cases e : i = n
    · subst e
      rw [List.getD_eq_getElem?_getD, List.getElem?_append_right (by omega), hl, Nat.add_sub_cancel_left, List.getD_eq_getElem?_getD]
    · have h1 := take_succ_sum ls i (by omega)
      have h2 : (ls.take (i + 1)).sum ≤ (ls.take n).sum := by
        have := take_sum_le (ls.take n) (i + 1)
        rw [List.take_take, Nat.min_eq_left (by omega)] at this
        exact this
      have := ih (by omega) i (by omega) j hj
      rw [List.getD_eq_getElem?_getD, List.getElem?_append_left (by omega), ← List.getD_eq_getElem?_getD]
      exact this
theorem find_seg (ls : List Nat) : ∀ n, n ≤ ls.length → ∀ p, p < (ls.take n).sum → ∃ i j, i < n ∧ j < ls.getD i 0 ∧ p = (ls.take i).sum + j := by
  intro n
  induction n with
  | zero => intro _ p h; simp at h
  | succ n ih =>
    intro hn p hp
    rw [take_succ_sum ls n (by omega)] at hp
    by_cases c : p < (ls.take n).sum
    · obtain ⟨i, j, h1, h2, h3⟩ := ih (by omega) p c
      exact ⟨i, j, by omega, h2, h3⟩
    · exact ⟨n, p - (ls.take n).sum, by omega, by omega, by omega⟩
end
theorem okb_of_perm {s : List Int} {N : Nat} (h : s.Perm (idsN 0 N)) : okb ((N : Int) - 1) s = true := by
  rw [okb_iff]
  intro x hx
  have := idsN_mem 0 N x (h.mem_iff.1 hx)
  omega
theorem ext_getD {a b : List Int} (h : a.length = b.length) (hh : ∀ j, j < a.length → a.getD j 0 = b.getD j 0) : a = b := by
  apply List.ext_getElem h
  intro j h1 h2
  have := hh j h1
  simpa [List.getD_eq_getElem?_getD, List.getElem?_eq_getElem h1, List.getElem?_eq_getElem h2] using this
theorem tot_perm {a b : List Int} (h : a.Perm b) : tot a = tot b := by
  induction h with
  | nil => rfl
  | cons x _ ih => simp [tot, ih]
  | swap x y l => simp only [tot]; omega
  | trans _ _ h1 h2 => exact h1.trans h2
/-- A slice of a list, by its places. -/
theorem slice_ids (d : List Int) (s n : Nat) (h : s + n ≤ d.length) : (idsN s n).map (fun i => rd d i) = (d.drop s).take n := by
  apply ext_getD
  · rw [List.length_map, idsN_len, List.length_take, List.length_drop]; omega
  · intro j hj
    rw [List.length_map, idsN_len] at hj
    rw [List.getD_eq_getElem?_getD, List.getElem?_map, List.getD_eq_getElem?_getD, List.getElem?_take_of_lt hj, List.getElem?_drop]
    have e : (idsN s n)[j]? = some ((s + j : Nat) : Int) := by
      unfold idsN; rw [List.getElem?_map, List.getElem?_range hj]; rfl
    rw [e]
    show rd d ((s + j : Nat) : Int) = _
    rw [rd_nat, List.getD_eq_getElem?_getD]
theorem segs_sum_eq : ∀ (l x y : List Int), (∀ i, i < l.length → tot ((x.drop (((l.map Int.toNat).take i).sum)).take ((l.map Int.toNat).getD i 0)) = tot ((y.drop (((l.map Int.toNat).take i).sum)).take ((l.map Int.toNat).getD i 0))) → (segs l x).map sumM = (segs l y).map sumM := by
  intro l
  induction l with
  | nil => intro x y _; rfl
  | cons a t ih =>
    intro x y h
    have h0 := h 0 (by simp)
    simp only [List.map_cons, List.take_zero, List.sum_nil, List.drop_zero, List.getD_cons_zero] at h0
    simp only [segs, List.map_cons]
    rw [ih (x.drop a.toNat) (y.drop a.toNat) (fun i hi => by
      have := h (i + 1) (by simpa using hi)
      simp only [List.map_cons, List.take_succ_cons, List.sum_cons, List.getD_cons_succ] at this
      rw [List.drop_drop, List.drop_drop]
      exact this)]
    unfold sumM
    rw [h0]
theorem catF_slice {ls : List Nat} {F : Nat → List Int} (hF : ∀ i, i < ls.length → (F i).Perm (idsN (ls.take i).sum (ls.getD i 0))) (n : Nat) (hn : n ≤ ls.length) (i : Nat) (hi : i < n) : ((catF F n).drop (ls.take i).sum).take (ls.getD i 0) = F i := by
  have hFl : (F i).length = ls.getD i 0 := by rw [(hF i (by omega)).length_eq, idsN_len]
  have h1 := take_succ_sum ls i (by omega)
  have h2 : (ls.take (i + 1)).sum ≤ (ls.take n).sum := by
    have := take_sum_le (ls.take n) (i + 1)
    rw [List.take_take, Nat.min_eq_left (by omega)] at this
    exact this
  have hl := catF_len hF n hn
  apply ext_getD
  · rw [List.length_take, List.length_drop]; omega
  · intro j hj
    rw [List.length_take, List.length_drop] at hj
    rw [List.getD_eq_getElem?_getD, List.getElem?_take_of_lt (by omega), List.getElem?_drop, ← List.getD_eq_getElem?_getD]
    exact catF_at hF n hn i hi j (by omega)
theorem ts_l2 (S T bk a b : List Int) (N : Nat) (hN : N ≤ 400) (R : Bool) (hl : S.length ≤ 1048576) (hlT : T.length ≤ 1048576) (hb : bk.length ≤ 1048576) (ha : a.length ≤ 1048576) (h1 : permV S = true) (h2 : permV T = true) (h3 : bk = idsN 0 N) (h4 : a = b) (C : Nat) (hC : 3000000 ≤ C) :
    ∀ (q i k : Nat), q = N - i → i ≤ N → q + C < k → laws_FnTurnSort.l2 k S T bk a b (idsN 0 i) N i = some true := by
  intro q
  induction q with
  | zero =>
    intro i k hq hi hk
    obtain ⟨k, rfl⟩ : ∃ m, k = m + 1 := ⟨k - 1, by omega⟩
    obtain rfl : i = N := by omega
    rw [laws_FnTurnSort.l2, if_neg (by omega), impl_Perm_eq S hl, impl_Perm_eq T hlT, h1, h2]
    simp only [Option.bind_some, if_true]
    rw [faSame_eq k bk _ (by omega) hb, h3]
    simp only [Option.bind_some, decide_true, if_true]
    rw [faSame_eq k a b (by omega) ha, h4]
    simp
  | succ q ih =>
    intro i k hq hi hk
    obtain ⟨k, rfl⟩ : ∃ m, k = m + 1 := ⟨k - 1, by omega⟩
    rw [laws_FnTurnSort.l2, if_pos (by omega), if_pos (by rw [idsN_len]; omega), w64_i i (by omega)]
    have := ih (i + 1) k (by omega) (by omega) (by omega)
    rw [idsN_add, Nat.zero_add] at this
    have e : idsN i 1 = [(i : Int)] := by simp [idsN]
    rw [e] at this
    exact this
theorem w64_ad (a b : Nat) (h : a + b ≤ 100000) : wrap64 ((a : Int) + (b : Int)) = ((a + b : Nat) : Int) := by rw [w64 (by omega) (by omega)]; omega
theorem w64_pr (n : Nat) (h : 1 ≤ n) (h2 : n ≤ 100000) : wrap64 ((n : Int) - 1) = ((n - 1 : Nat) : Int) := by rw [w64 (by omega) (by omega)]; omega
theorem ts_l1 (d S T lst bk a b st l : List Int) (i s m : Nat) (n : Int) (hi : i < st.length) (hst : rd st (i : Int) = s) (hsm : s + m ≤ 400) (hS : s + m ≤ S.length) (hL : s + m ≤ lst.length) (c : Nat)
    (hadj : ∀ j, 1 ≤ j → j < m → rd lst ((s + j - 1 : Nat) : Int) < rd lst ((s + j : Nat) : Int) ∨ rd lst ((s + j - 1 : Nat) : Int) = rd lst ((s + j : Nat) : Int) ∧ rd S ((s + j - 1 : Nat) : Int) ≤ rd S ((s + j : Nat) : Int))
    (ih : ∀ k, c < k → laws_FnTurnSort.l0 k d S T lst bk a b st l n ((i + 1 : Nat) : Int) = some true) (hi4 : i ≤ 400) :
    ∀ (q j k : Nat), q = m - j → 1 ≤ j → q + 1 + c < k → laws_FnTurnSort.l1 k d S T lst bk a b st i m j l n i = some true := by
  intro q
  induction q with
  | zero =>
    intro j k hq hj hk
    obtain ⟨k, rfl⟩ : ∃ m, k = m + 1 := ⟨k - 1, by omega⟩
    rw [laws_FnTurnSort.l1, if_neg (by omega), w64_i i (by omega)]
    exact ih k (by omega)
  | succ q ihq =>
    intro j k hq hj hk
    obtain ⟨k, rfl⟩ : ∃ m, k = m + 1 := ⟨k - 1, by omega⟩
    have hn := ihq (j + 1) k (by omega) (by omega) (by omega)
    rw [laws_FnTurnSort.l1, if_pos (by omega), if_pos (by omega), if_pos (by omega), hst, w64_ad s j (by omega), w64_pr (s + j) (by omega) (by omega), if_pos (by omega), if_pos (by omega), if_pos (by omega), if_pos (by omega), w64_i j (by omega)]
    rcases hadj j hj (by omega) with h | ⟨h, h'⟩
    · rw [if_neg (by omega), if_neg (by omega)]; exact hn
    · rw [if_neg (by omega), if_pos h, if_pos (by omega), if_pos (by omega), if_neg (by omega)]; exact hn
theorem ts_l0 (d S T lst bk a b st l : List Int) (ls : List Nat) (hls : l = nats ls) (hn : ls.length ≤ 400) (hN : ls.sum ≤ 400) (hd : d.length = ls.sum) (hst : ∀ i, i < ls.length → rd st (i : Int) = ((ls.take i).sum : Nat)) (hstl : st.length = ls.length) (hS : S.length = ls.sum) (hL : lst.length = ls.sum)
    (hadj : ∀ i, i < ls.length → ∀ j, 1 ≤ j → j < ls.getD i 0 → rd lst (((ls.take i).sum + j - 1 : Nat) : Int) < rd lst (((ls.take i).sum + j : Nat) : Int) ∨ rd lst (((ls.take i).sum + j - 1 : Nat) : Int) = rd lst (((ls.take i).sum + j : Nat) : Int) ∧ rd S (((ls.take i).sum + j - 1 : Nat) : Int) ≤ rd S (((ls.take i).sum + j : Nat) : Int))
    (C : Nat) (hl2 : ∀ k, C < k → laws_FnTurnSort.l2 k S T bk a b [] (d.length : Int) 0 = some true) :
    ∀ (q i k : Nat), q = ls.length - i → i ≤ ls.length → q * 403 + 1 + C < k → laws_FnTurnSort.l0 k d S T lst bk a b st l (ls.length : Int) i = some true := by
  have hll : l.length = ls.length := by rw [hls]; unfold nats; rw [List.length_map]
  intro q
  induction q with
  | zero =>
    intro i k hq hi hk
    obtain ⟨k, rfl⟩ : ∃ m, k = m + 1 := ⟨k - 1, by omega⟩
    rw [laws_FnTurnSort.l0, if_neg (by omega)]
    exact hl2 k (by omega)
  | succ q ih =>
    intro i k hq hi hk
    obtain ⟨k, rfl⟩ : ∃ m, k = m + 1 := ⟨k - 1, by omega⟩
    have hi' : i < ls.length := by omega
    have h1 := take_succ_sum ls i hi'
    have h2 := take_sum_le ls (i + 1)
    have hr : rd l (i : Int) = ((ls.getD i 0 : Nat) : Int) := by
      rw [rd_nat, hls]; unfold nats
      simp [List.getD_eq_getElem?_getD, List.getElem?_eq_getElem hi']
    rw [laws_FnTurnSort.l0, if_pos (by omega), if_pos (by omega), if_pos (by omega), hr]
    exact ts_l1 d S T lst bk a b st l i (ls.take i).sum (ls.getD i 0) ls.length (by omega) (hst i hi') (by omega) (by omega) (by omega) (q * 403 + 1 + C) (hadj i hi') (fun k hk => ih (i + 1) k (by omega) (by omega) hk) (by omega) (ls.getD i 0 - 1) 1 k rfl (by omega) (by omega)
end Go.Proofs.Yteijndaldkkpfaa.Ts
