/-
  What the functions of the exact laws compute (copies, comparisons, marks), and which numbers are lengths and data.
-/
import Derived.Test.YtifnnehjpgodfaaPrint1
import Derived.Test.YtifnnehjpgodfaaPrint2
import Derived.Test.YtifnnehjpgodfaaPrint3
import Derived.Test.YtifnnehjpgodfaaPrint5
import Derived.Test.YtifnnehjpgodfaaLibA
namespace Go.Proofs.Ytifnnehjpgodfaa.Print
open Go.RowKit Go.Proofs.YtifnnehjpgodfaaW.PrintWords Go.Proofs.YtifnnehjpgodfaaW.PrintLast
set_option linter.unusedVariables false
set_option linter.unusedSimpArgs false
theorem toIntS_l0 (l : List Int) (hl : l.length ≤ 1048576) : ∀ (t : List Int) (i k : Nat) (s : List Int), l.drop i = t → t.length < k → i ≤ l.length → s = l.take i ++ List.replicate (l.length - i) 0 →
    laws_toIntS.l0 k l s i = some l := by
  intro t
  induction t with
  | nil =>
    intro i k s hd hk hi hs
    obtain ⟨k, rfl⟩ : ∃ m, k = m + 1 := ⟨k - 1, by simp at hk; omega⟩
    have h := drop_nil_info hd
    have hil : i = l.length := by omega
    rw [laws_toIntS.l0, if_neg h, hs, hil]; simp
  | cons a t ih =>
    intro i k s hd hk hi hs
    obtain ⟨k, rfl⟩ : ∃ m, k = m + 1 := ⟨k - 1, by simp at hk; omega⟩
    obtain ⟨hi', hr, hd'⟩ := drop_cons_info hd
    simp only [List.length_cons] at hk
    have hsl : s.length = l.length := by rw [hs]; simp; omega
    rw [laws_toIntS.l0, if_pos (by omega), if_pos (by omega), if_pos (by omega), w64_i i (by omega), hr]
    refine ih (i + 1) k _ hd' (by omega) (by omega) ?_
    rw [hs, Int.toNat_natCast]
    have ht : l.take (i + 1) = l.take i ++ [a] := by
      rw [List.take_succ_eq_append_getElem hi', ← hr, rd_nat, List.getD_eq_getElem?_getD, List.getElem?_eq_getElem hi']; rfl
    have hlt : (l.take i).length = i := by simp; omega
    rw [ht, List.set_append, if_neg (by omega), hlt, Nat.sub_self, show l.length - i = (l.length - (i + 1)) + 1 from by omega, List.replicate_succ, List.set_cons_zero, List.append_assoc]
    rfl
theorem toIntS_eq (k : Nat) (l : List Int) (hk : 3000000 ≤ k) (hl : l.length ≤ 1048576) : laws_toIntS.f k l = some l := by
  unfold laws_toIntS.f
  rw [if_pos (by omega), if_pos (by omega)]
  exact toIntS_l0 l hl l 0 k _ (by simp) (by omega) (by omega) (by simp)
theorem eqIntS_l0 (a b : List Int) (hl : a.length ≤ 1048576) (hab : a.length = b.length) : ∀ (t u : List Int) (i k : Nat), a.drop i = t → b.drop i = u → t.length < k →
    laws_eqIntS.l0 k a b i = some (decide (t = u)) := by
  intro t
  induction t with
  | nil =>
    intro u i k hd hu hk
    obtain ⟨k, rfl⟩ : ∃ m, k = m + 1 := ⟨k - 1, by simp at hk; omega⟩
    have : u = [] := by rw [← hu]; exact List.drop_eq_nil_of_le (by have := List.drop_eq_nil_iff.1 hd; omega)
    rw [laws_eqIntS.l0, if_neg (drop_nil_info hd), this]; simp
  | cons x t ih =>
    intro u i k hd hu hk
    obtain ⟨k, rfl⟩ : ∃ m, k = m + 1 := ⟨k - 1, by simp at hk; omega⟩
    obtain ⟨hi', hr, hd'⟩ := drop_cons_info hd
    simp only [List.length_cons] at hk
    cases u with
    | nil => have := List.drop_eq_nil_iff.1 hu; omega
    | cons y u =>
      obtain ⟨hj', hr2, hu'⟩ := drop_cons_info hu
      rw [laws_eqIntS.l0, if_pos (by omega), if_pos (by omega), if_pos (by omega), hr, hr2, w64_i i (by omega)]
      by_cases hxy : x = y
      · rw [if_pos hxy, ih u (i + 1) k hd' hu' (by omega)]; simp [hxy]
      · rw [if_neg hxy]; simp [hxy]
theorem eqIntS_eq (k : Nat) (a b : List Int) (hk : 3000000 ≤ k) (hl : a.length ≤ 1048576) : laws_eqIntS.f k a b = some (decide (a = b)) := by
  unfold laws_eqIntS.f
  by_cases h : a.length = b.length
  · rw [if_pos (by omega)]
    have := eqIntS_l0 a b hl h a b 0 k (by simp) (by simp) (by omega)
    simpa using this
  · rw [if_neg (by omega)]
    have : a ≠ b := fun e => h (by rw [e])
    simp [this]
theorem faSame_l0 (a b : List Int) (hl : a.length ≤ 1048576) (n : Int) (hn : n = if a.length ≤ b.length then (a.length : Int) else b.length) : ∀ (t u : List Int) (i k : Nat), a.drop i = t → b.drop i = u → t.length < k → i ≤ b.length → i ≤ a.length →
    laws_faSame.l0 k a b n i = some (decide (t = u)) := by
  intro t
  induction t with
  | nil =>
    intro u i k hd hu hk hib hia
    obtain ⟨k, rfl⟩ : ∃ m, k = m + 1 := ⟨k - 1, by simp at hk; omega⟩
    have ha := List.drop_eq_nil_iff.1 hd
    have hul : u.length = b.length - i := by rw [← hu]; simp
    rw [laws_faSame.l0, if_neg (by split at hn <;> omega)]
    congr 1
    cases u with
    | nil => simp at hul; simp; omega
    | cons y u => simp at hul; simp; omega
  | cons x t ih =>
    intro u i k hd hu hk hib hia
    obtain ⟨k, rfl⟩ : ∃ m, k = m + 1 := ⟨k - 1, by simp at hk; omega⟩
    obtain ⟨hi', hr, hd'⟩ := drop_cons_info hd
    simp only [List.length_cons] at hk
    cases u with
    | nil =>
      have hb := List.drop_eq_nil_iff.1 hu
      rw [laws_faSame.l0, if_neg (by split at hn <;> omega)]
      congr 1
      simp; omega
    | cons y u =>
      obtain ⟨hj', hr2, hu'⟩ := drop_cons_info hu
      rw [laws_faSame.l0, if_pos (by split at hn <;> omega), if_pos (by omega), if_pos (by omega), if_pos (by omega), hr, hr2, w64_i i (by omega)]
      by_cases hxy : x = y
      · rw [if_pos hxy, ih u (i + 1) k hd' hu' (by omega) (by omega) (by omega)]; simp [hxy]
      · rw [if_neg hxy]; simp [hxy]
theorem faSame_eq (k : Nat) (a b : List Int) (hk : 3000000 ≤ k) (hl : a.length ≤ 1048576) : laws_faSame.f k a b = some (decide (a = b)) := by
  unfold laws_faSame.f
  have := faSame_l0 a b hl (mn (a.length : Int) (b.length : Int)) (by rw [mn_def]; split <;> split <;> omega) a b 0 k (by simp) (by simp) (by omega) (by omega) (by omega)
  simpa using this
theorem markIntS_l0 (n0 : Nat) (hn : n0 ≤ 1048576) : ∀ (d i k : Nat) (s : List Int) (m : Int), s.length = n0 → d = n0 - i → i ≤ n0 → d < k → 0 ≤ m → m + d ≤ 1152921504606846976 →
    laws_markIntS.l0 k s m i = some (m + d, s.take i ++ ramp m d) := by
  intro d
  induction d with
  | zero =>
    intro i k s m hs hd hi hk h0 h1
    obtain ⟨k, rfl⟩ : ∃ m, k = m + 1 := ⟨k - 1, by omega⟩
    rw [laws_markIntS.l0, if_neg (by omega)]
    simp only [ramp, List.append_nil]
    rw [List.take_of_length_le (by omega)]; simp
  | succ d ih =>
    intro i k s m hs hd hi hk h0 h1
    obtain ⟨k, rfl⟩ : ∃ m, k = m + 1 := ⟨k - 1, by omega⟩
    rw [laws_markIntS.l0, if_pos (by omega), if_pos (by omega), w64_i i (by omega), w64 (by omega) (by omega), Int.toNat_natCast]
    rw [ih (i + 1) k (s.set i m) (m + 1) (by simp [hs]) (by omega) (by omega) (by omega) (by omega) (by omega)]
    have ht : (s.set i m).take (i + 1) = s.take i ++ [m] := by
      rw [List.take_succ_eq_append_getElem (by simp; omega), List.getElem_set_self, List.take_set_of_le (Nat.le_refl _)]
    rw [ht, ramp, List.append_assoc]
    congr 2; omega
theorem markIntS_eq (k : Nat) (l : List Int) (m : Int) (hk : 3000000 ≤ k) (hl : l.length ≤ 1048576) (h0 : 0 ≤ m) (h1 : m ≤ 4611686018427387) : laws_markIntS.f k l m = some (m + l.length, ramp m l.length) := by
  unfold laws_markIntS.f
  have := markIntS_l0 l.length hl l.length 0 k l m rfl (by omega) (by omega) (by omega) h0 (by omega)
  simpa using this
theorem heldIntS_l0 (l : List Int) (hl : l.length ≤ 1048576) : ∀ (d i k : Nat) (m : Int), l.drop i = ramp m d → d < k → 0 ≤ m → m + d ≤ 1152921504606846976 →
    laws_heldIntS.l0 k l m i = some (m + d) := by
  intro d
  induction d with
  | zero =>
    intro i k m hd hk h0 h1
    obtain ⟨k, rfl⟩ : ∃ m, k = m + 1 := ⟨k - 1, by omega⟩
    rw [laws_heldIntS.l0, if_neg (drop_nil_info hd)]; simp
  | succ d ih =>
    intro i k m hd hk h0 h1
    obtain ⟨k, rfl⟩ : ∃ m, k = m + 1 := ⟨k - 1, by omega⟩
    obtain ⟨hi', hr, hd'⟩ := drop_cons_info hd
    rw [laws_heldIntS.l0, if_pos (by omega), if_pos (by omega), if_pos hr, w64_i i (by omega), w64 (by omega) (by omega), ih (i + 1) k (m + 1) hd' (by omega) (by omega) (by omega)]
    congr 1; omega
theorem heldIntS_eq (k : Nat) (n : Nat) (m : Int) (hk : 3000000 ≤ k) (hn : n ≤ 1048576) (h0 : 0 ≤ m) (h1 : m ≤ 4611686018427387) : laws_heldIntS.f k (ramp m n) m = some (m + n) := by
  unfold laws_heldIntS.f
  exact heldIntS_l0 (ramp m n) (by rw [ramp_length]; exact hn) n 0 k m (by simp) (by omega) h0 (by omega)
theorem l1In_eq (a b c : Int) : spec_l1In.f a b c = some (decide (b ≤ a ∧ a ≤ c)) := by
  unfold spec_l1In.f
  by_cases h : b ≤ a
  · rw [if_pos h]; simp [h]
  · rw [if_neg h]; simp [h]
/-- Numbers are lengths. -/
def lenOk (l : List Int) : Bool := decide (l.length ≤ 400) && okb 400 l && decide (tot l ≤ 400)
theorem lenOk_iff {l : List Int} : lenOk l = true ↔ l.length ≤ 400 ∧ okb 400 l = true ∧ tot l ≤ 400 := by simp [lenOk, and_assoc]
/-- Numbers are data. -/
def datOk (l : List Int) : Bool := decide (l.length ≤ 400) && okb 10006 l
theorem datOk_iff {l : List Int} : datOk l = true ↔ l.length ≤ 400 ∧ okb 10006 l = true := by simp [datOk]
theorem okb_le {m m' : Int} {l : List Int} (h : okb m l = true) (hm : m ≤ m') : okb m' l = true := by
  rw [okb_iff] at h ⊢; exact fun n hn => by have := h n hn; omega
def segOk (l d : List Int) : Bool := lenOk l && datOk d && decide (tot l = d.length)
theorem segOk_iff {l d : List Int} : segOk l d = true ↔ lenOk l = true ∧ datOk d = true ∧ tot l = d.length := by simp [segOk, and_assoc]
theorem l3Lengths_l0 (x0 l : List Int) (hl : l.length ≤ 1048576) : ∀ (t : List Int) (i k : Nat) (s : Int), l.drop i = t → t.length < k → 0 ≤ s → s ≤ 401 →
    spec_l3Lengths.l0 k x0 s l l.length i = some (okb 400 t && decide (x0.length ≤ 400) && decide (s + tot t ≤ 400)) := by
  intro t
  induction t with
  | nil =>
    intro i k s hd hk hs hs2
    obtain ⟨k, rfl⟩ : ∃ m, k = m + 1 := ⟨k - 1, by simp at hk; omega⟩
    rw [spec_l3Lengths.l0, if_neg (drop_nil_info hd)]
    by_cases h : x0.length ≤ 400
    · rw [if_pos (by omega)]; simp [tot, h, okb_nil]
    · rw [if_neg (by omega)]; simp [h]
  | cons a t ih =>
    intro i k s hd hk hs hs2
    obtain ⟨k, rfl⟩ : ∃ m, k = m + 1 := ⟨k - 1, by simp at hk; omega⟩
    obtain ⟨hi, hr, hd'⟩ := drop_cons_info hd
    simp only [List.length_cons] at hk
    rw [spec_l3Lengths.l0, if_pos (by omega), if_pos (by omega), if_pos (by omega), hr, l1In_eq, okb_cons]
    simp only [Option.bind_some]
    by_cases ha : 0 ≤ a ∧ a ≤ 400
    · rw [if_pos (by simp [ha]), w64_i i (by omega), w64 (by omega) (by omega), ih (i + 1) k _ hd' (by omega) (by rw [mn_def]; split <;> omega) (by rw [mn_def]; split <;> omega)]
      rw [decide_eq_true ha, Bool.true_and]
      cases hok : okb 400 t with
      | false => simp
      | true =>
        have := tot_nonneg hok
        congr 2
        rw [mn_def, decide_eq_decide]; simp only [tot]; split <;> constructor <;> intro _ <;> omega
    · rw [if_neg (by simp [ha])]; simp [ha]
theorem l3Lengths_eq (k : Nat) (l : List Int) (hk : 3000000 ≤ k) (hl : l.length ≤ 1048576) : spec_l3Lengths.f k l = some (lenOk l) := by
  unfold spec_l3Lengths.f
  have := l3Lengths_l0 l l hl l 0 k 0 (by simp) (by omega) (by omega) (by omega)
  rw [show ((0 : Nat) : Int) = 0 from rfl] at this
  rw [this]; unfold lenOk; congr 1
  cases okb 400 l <;> cases decide (l.length ≤ 400) <;> simp
theorem l3Numbers_l0 (l : List Int) (hl : l.length ≤ 1048576) : ∀ (t : List Int) (i k : Nat), l.drop i = t → t.length < k →
    spec_l3Numbers.l0 k l l.length i = some (okb 10006 t) := by
  intro t
  induction t with
  | nil =>
    intro i k hd hk
    obtain ⟨k, rfl⟩ : ∃ m, k = m + 1 := ⟨k - 1, by simp at hk; omega⟩
    rw [spec_l3Numbers.l0, if_neg (drop_nil_info hd)]; rfl
  | cons a t ih =>
    intro i k hd hk
    obtain ⟨k, rfl⟩ : ∃ m, k = m + 1 := ⟨k - 1, by simp at hk; omega⟩
    obtain ⟨hi, hr, hd'⟩ := drop_cons_info hd
    simp only [List.length_cons] at hk
    rw [spec_l3Numbers.l0, if_pos (by omega), if_pos (by omega), if_pos (by omega), hr, l1In_eq, okb_cons]
    simp only [Option.bind_some]
    by_cases ha : 0 ≤ a ∧ a ≤ 10006
    · rw [if_pos (by simp [ha]), w64_i i (by omega), ih (i + 1) k hd' (by omega)]; simp [ha]
    · rw [if_neg (by simp [ha])]; simp [ha]
theorem l3Numbers_eq (k : Nat) (l : List Int) (hk : 3000000 ≤ k) (hl : l.length ≤ 1048576) : spec_l3Numbers.f k l = some (okb 10006 l) := by
  unfold spec_l3Numbers.f
  exact l3Numbers_l0 l hl l 0 k (by simp) (by omega)
theorem l3Total_l0 (l : List Int) (hl : l.length ≤ 1048576) (hok : okb 1048576 l = true) : ∀ (t : List Int) (i k : Nat) (s : Int), l.drop i = t → t.length < k → 0 ≤ s → s ≤ 1048576 * i →
    spec_l3Total.l0 k s l l.length i = some (s + tot t) := by
  intro t
  induction t with
  | nil =>
    intro i k s hd hk hs hs2
    obtain ⟨k, rfl⟩ : ∃ m, k = m + 1 := ⟨k - 1, by simp at hk; omega⟩
    rw [spec_l3Total.l0, if_neg (drop_nil_info hd)]; simp [tot]
  | cons a t ih =>
    intro i k s hd hk hs hs2
    obtain ⟨k, rfl⟩ : ∃ m, k = m + 1 := ⟨k - 1, by simp at hk; omega⟩
    obtain ⟨hi, hr, hd'⟩ := drop_cons_info hd
    have hb := okb_iff.1 hok a (by rw [← hr, rd_nat]; exact getD_mem hi)
    simp only [List.length_cons] at hk
    rw [spec_l3Total.l0, if_pos (by omega), if_pos (by omega), if_pos (by omega), hr, w64 (by omega) (by omega), w64_i i (by omega), ih (i + 1) k (s + a) hd' (by omega) (by omega) (by omega)]
    simp only [tot]; congr 1; omega
theorem l3Total_eq (k : Nat) (l : List Int) (hk : 3000000 ≤ k) (hl : l.length ≤ 1048576) (hok : okb 1048576 l = true) : spec_l3Total.f k l = some (tot l) := by
  unfold spec_l3Total.f
  have := l3Total_l0 l hl hok l 0 k 0 (by simp) (by omega) (by omega) (by omega)
  simpa using this
theorem spec_SegmentsValid_eq (k : Nat) (l d : List Int) (hk : 3000000 ≤ k) (hl : l.length ≤ 1048576) (hd : d.length ≤ 1048576) : spec_SegmentsValid.f k l d = some (segOk l d) := by
  unfold spec_SegmentsValid.f
  rw [l3Lengths_eq k l hk hl]
  simp only [Option.bind_some]
  cases h : lenOk l with
  | false => simp [segOk, h]
  | true =>
    have h1 := lenOk_iff.1 h
    rw [l3Numbers_eq k d hk hd, l3Total_eq k l hk hl (okb_le h1.2.1 (by omega))]
    simp only [Option.bind_some, if_true]
    cases h2 : okb 10006 d with
    | false => simp [segOk, datOk, h2]
    | true =>
      simp only [if_true, segOk, datOk, h, h2, Bool.true_and, Bool.and_true]
      congr 1
      by_cases h3 : tot l = d.length
      · have : d.length ≤ 400 := by omega
        simp [h3, this]
      · have e1 : (tot l == (d.length : Int)) = false := by simp [h3]
        rw [e1]; simp [h3]
theorem lengthsOk_eq (k : Nat) (l : List Int) (hk : 3000000 ≤ k) (hl : l.length ≤ 1048576) : impl_lengthsOk.f k l = some (lenOk l) := by
  unfold impl_lengthsOk.f
  by_cases h : l.length ≤ 400
  · rw [if_pos (by omega), within_eq l 400 hl]
    simp only [Option.bind_some]
    cases h2 : okb 400 l with
    | false => simp [lenOk, h2]
    | true =>
      rw [if_pos rfl, total_eq k l hk hl (okb_le h2 (by omega))]
      simp [lenOk, h, h2]
  · rw [if_neg (by omega)]; simp [lenOk, h]
theorem dataOk_eq (l : List Int) (hl : l.length ≤ 1048576) : impl_dataOk.f l = some (datOk l) := by
  unfold impl_dataOk.f
  by_cases h : l.length ≤ 400
  · rw [if_pos (by omega), within_eq l 10006 hl]; simp [datOk, h]
  · rw [if_neg (by omega)]; simp [datOk, h]
theorem impl_SegmentsValid_eq (k : Nat) (l d : List Int) (hk : 3000000 ≤ k) (hl : l.length ≤ 1048576) (hd : d.length ≤ 1048576) : impl_SegmentsValid.f k l d = some (segOk l d) := by
  unfold impl_SegmentsValid.f
  rw [lengthsOk_eq k l hk hl, dataOk_eq d hd]
  simp only [Option.bind_some]
  cases h : lenOk l with
  | false => simp [segOk, h]
  | true =>
    have h1 := lenOk_iff.1 h
    rw [total_eq k l hk hl (okb_le h1.2.1 (by omega))]
    cases h2 : datOk d with
    | false => simp [segOk, h2]
    | true =>
      simp only [segOk, h, h2, Bool.true_and, if_true, Option.bind_some]
      congr 1
      by_cases h3 : tot l = d.length
      · simp [h3]
      · have e1 : ((d.length : Int) == tot l) = false := by simp; omega
        rw [e1]; simp [h3]
end Go.Proofs.Ytifnnehjpgodfaa.Print
