/-
  Plain lemmas on what the functions compute: lists and numbers alone.
-/
import Derived.Test.YteijndaldkkpfaaSc1
import Derived.Test.YteijndaldkkpfaaSc2
import Derived.Test.YteijndaldkkpfaaSc3
import Derived.Test.YteijndaldkkpfaaSc4
import Derived.Test.YteijndaldkkpfaaSc5
namespace Go.Proofs.Yteijndaldkkpfaa.Sc
open Go.RowKit Go.Proofs.YteijndaldkkpfaaW.PrintWords Go.Proofs.YteijndaldkkpfaaW.PrintLast Go.Proofs.YteijndaldkkpfaaW.PrintMore
set_option linter.unusedVariables false
set_option linter.unusedSimpArgs false
theorem w64 {x : Int} (h0 : -9223372036854775808 ≤ x) (h1 : x ≤ 9223372036854775807) : wrap64 x = x := by unfold wrap64; omega
theorem w64_nat {x : Int} (h0 : 0 ≤ x) (h1 : x ≤ 9223372036854775807) : wrap64 x = x := w64 (by omega) h1
theorem w64_i (i : Nat) (h : i ≤ 9223372036854775806) : wrap64 ((i : Int) + 1) = ((i + 1 : Nat) : Int) := by rw [w64 (by omega) (by omega)]; omega
theorem rd_nat (l : List Int) (i : Nat) : rd l (i : Int) = l.getD i 0 := by simp [rd]
theorem drop_cons_info {l : List Int} {i : Nat} {a : Int} {t : List Int} (h : l.drop i = a :: t) : i < l.length ∧ rd l (i : Int) = a ∧ l.drop (i + 1) = t := by
  have hi : i < l.length := by
    rcases Nat.lt_or_ge i l.length with h1 | h1
    · exact h1
    · rw [List.drop_eq_nil_of_le h1] at h; cases h
  rw [List.drop_eq_getElem_cons hi] at h
  injection h with h1 h2
  refine ⟨hi, ?_, h2⟩
  rw [rd_nat, List.getD_eq_getElem?_getD, List.getElem?_eq_getElem hi]
  exact h1
theorem drop_nil_info {α : Type} {l : List α} {i : Nat} (h : l.drop i = []) : ¬ ((i : Int) < (l.length : Int)) := by
  have := List.drop_eq_nil_iff.1 h
  omega
theorem mn_def (a b : Int) : mn a b = if a ≤ b then a else b := by unfold mn; split <;> split <;> omega
theorem getD_mem {l : List Int} {i : Nat} (h : i < l.length) : l.getD i 0 ∈ l := by
  rw [List.getD_eq_getElem?_getD, List.getElem?_eq_getElem h]; exact List.getElem_mem h
theorem rd_mem {l : List Int} {i : Int} (h0 : 0 ≤ i) (h : i < (l.length : Int)) : rd l i ∈ l := by
  obtain ⟨n, rfl⟩ := Int.eq_ofNat_of_zero_le h0
  rw [rd_nat]; exact getD_mem (by omega)
/-- The sum of numbers. -/
def tot : List Int → Int
  | [] => 0
  | a :: t => a + tot t
theorem tot_append (a b : List Int) : tot (a ++ b) = tot a + tot b := by
  induction a with
  | nil => simp [tot]
  | cons x t ih => simp only [List.cons_append, tot, ih]; omega
/-- All numbers lie from 0 to m. -/
def okb (m : Int) (l : List Int) : Bool := l.all fun n => decide (0 ≤ n) && decide (n ≤ m)
theorem okb_iff {m : Int} {l : List Int} : okb m l = true ↔ ∀ n ∈ l, 0 ≤ n ∧ n ≤ m := by
  simp [okb, List.all_eq_true]
theorem okb_nil (m : Int) : okb m [] = true := rfl
theorem okb_cons (m a : Int) (t : List Int) : okb m (a :: t) = (decide (0 ≤ a ∧ a ≤ m) && okb m t) := by
  simp [okb, Bool.decide_and]
theorem tot_nonneg {m : Int} {l : List Int} (h : okb m l = true) : 0 ≤ tot l := by
  rw [okb_iff] at h
  induction l with
  | nil => simp [tot]
  | cons a t ih =>
    have := h a (by simp)
    have := ih (fun n hn => h n (by simp [hn]))
    simp only [tot]; omega
theorem tot_le {m : Int} {l : List Int} (h : okb m l = true) : tot l ≤ m * l.length := by
  rw [okb_iff] at h
  induction l with
  | nil => simp [tot]
  | cons a t ih =>
    have h1 := h a (by simp)
    have h2 := ih (fun n hn => h n (by simp [hn]))
    simp only [tot, List.length_cons]
    have : m * ((t.length + 1 : Nat) : Int) = m * t.length + m := by rw [Int.natCast_add, Int.mul_add]; simp
    omega
theorem okb_drop {m : Int} {l : List Int} (h : okb m l = true) (i : Nat) : okb m (l.drop i) = true := by
  rw [okb_iff] at h ⊢; exact fun n hn => h n (List.mem_of_mem_drop hn)
theorem okb_take {m : Int} {l : List Int} (h : okb m l = true) (i : Nat) : okb m (l.take i) = true := by
  rw [okb_iff] at h ⊢; exact fun n hn => h n (List.mem_of_mem_take hn)
/-- n, n + 1, .. -/
def ramp (n : Int) : Nat → List Int
  | 0 => []
  | k + 1 => n :: ramp (n + 1) k
theorem ramp_length (n : Int) (k : Nat) : (ramp n k).length = k := by
  induction k generalizing n with
  | zero => rfl
  | succ k ih => simp [ramp, ih]
theorem idxOut_neg (m : Int) (l : List Int) (d : Nat) : ∀ i, l.length - i = d → (decide (idxOut m l i < 0) = okb m (l.drop i)) := by
  induction d with
  | zero =>
    intro i hi
    rw [idxOut_end m l i (by omega), List.drop_eq_nil_of_le (by omega)]; rfl
  | succ d ih =>
    intro i hi
    have hlt : i < l.length := by omega
    have hd : l.drop i = rd l i :: l.drop (i + 1) := by
      rw [List.drop_eq_getElem_cons hlt, rd_nat, List.getD_eq_getElem?_getD, List.getElem?_eq_getElem hlt]; rfl
    rw [hd, okb_cons]
    cases ho : outB m (rd l i) with
    | true =>
      rw [idxOut_hit m l i hlt ho]
      rw [outB_def] at ho
      have hne : ¬ (0 ≤ rd l i ∧ rd l i ≤ m) := by
        intro h
        simp [show ¬ rd l (i : Int) < 0 from by omega, show ¬ m < rd l (i : Int) from by omega] at ho
      rw [decide_eq_false hne, Bool.false_and]
      exact decide_eq_false (by omega)
    | false =>
      rw [idxOut_next m l i hlt ho, ih (i + 1) (by omega)]
      rw [outB_def] at ho
      have hy : (0 ≤ rd l i ∧ rd l i ≤ m) := by
        simp at ho; omega
      rw [decide_eq_true hy, Bool.true_and]
theorem within_eq (l : List Int) (m : Int) (hl : l.length ≤ 1048576) : impl_within.f l m = some (okb m l) := by
  unfold impl_within.f
  rw [if_pos (by omega), idxOut_neg m l l.length 0 (by omega), List.drop_zero]
/-- Only what is bound is looked into, not what follows. -/
theorem obind_congr {α β : Type} {a b : Option α} {f : α → Option β} (h : a = b) : a.bind f = b.bind f := by rw [h]
theorem faSame_l0 (a b : List Int) (hl : a.length ≤ 1048576) (n : Int) (hn : n = if a.length ≤ b.length then (a.length : Int) else b.length) : ∀ (t u : List Int) (i k : Nat), a.drop i = t → b.drop i = u → t.length < k → i ≤ b.length → i ≤ a.length →
    laws_faSame.l0 k a b n i = some (decide (t = u)) := by
  intro t
  induction t with
  | nil =>
    intro u i k hd hu hk hib hia
    obtain ⟨k, rfl⟩ : ∃ m, k = m + 1 := ⟨k - 1, by simp at hk; omega⟩
    have ha := List.drop_eq_nil_iff.1 hd
    have hul : u.length = b.length - i := by rw [← hu]; simp
    rw [laws_faSame.l0, if_neg (by split at hn <;> omega)]
    congr 1
    cases u with
    | nil => simp at hul; simp; omega
    | cons y u => simp at hul; simp; omega
  | cons x t ih =>
    intro u i k hd hu hk hib hia
    obtain ⟨k, rfl⟩ : ∃ m, k = m + 1 := ⟨k - 1, by simp at hk; omega⟩
    obtain ⟨hi', hr, hd'⟩ := drop_cons_info hd
    simp only [List.length_cons] at hk
    cases u with
    | nil =>
      have hb := List.drop_eq_nil_iff.1 hu
      rw [laws_faSame.l0, if_neg (by split at hn <;> omega)]
      congr 1
      simp; omega
    | cons y u =>
      obtain ⟨hj', hr2, hu'⟩ := drop_cons_info hu
      rw [laws_faSame.l0, if_pos (by split at hn <;> omega), if_pos (by omega), if_pos (by omega), if_pos (by omega), hr, hr2, w64_i i (by omega)]
      by_cases hxy : x = y
      · rw [if_pos hxy, ih u (i + 1) k hd' hu' (by omega) (by omega) (by omega)]; simp [hxy]
      · rw [if_neg hxy]; simp [hxy]
theorem faSame_eq (k : Nat) (a b : List Int) (hk : 3000000 ≤ k) (hl : a.length ≤ 1048576) : laws_faSame.f k a b = some (decide (a = b)) := by
  unfold laws_faSame.f
  have := faSame_l0 a b hl (mn (a.length : Int) (b.length : Int)) (by rw [mn_def]; split <;> split <;> omega) a b 0 k (by simp) (by simp) (by omega) (by omega) (by omega)
  simpa using this
theorem l1In_eq (a b c : Int) : spec_l1In.f a b c = some (decide (b ≤ a ∧ a ≤ c)) := by
  unfold spec_l1In.f
  by_cases h : b ≤ a
  · rw [if_pos h]; simp [h]
  · rw [if_neg h]; simp [h]
/-- Numbers are lengths. -/
def lenOk (l : List Int) : Bool := decide (l.length ≤ 400) && okb 400 l && decide (tot l ≤ 400)
theorem lenOk_iff {l : List Int} : lenOk l = true ↔ l.length ≤ 400 ∧ okb 400 l = true ∧ tot l ≤ 400 := by simp [lenOk, and_assoc]
/-- Numbers are data. -/
def datOk (l : List Int) : Bool := decide (l.length ≤ 400) && okb 10006 l
theorem datOk_iff {l : List Int} : datOk l = true ↔ l.length ≤ 400 ∧ okb 10006 l = true := by simp [datOk]
theorem okb_le {m m' : Int} {l : List Int} (h : okb m l = true) (hm : m ≤ m') : okb m' l = true := by
  rw [okb_iff] at h ⊢; exact fun n hn => by have := h n hn; omega
def segOk (l d : List Int) : Bool := lenOk l && datOk d && decide (tot l = d.length)
theorem segOk_iff {l d : List Int} : segOk l d = true ↔ lenOk l = true ∧ datOk d = true ∧ tot l = d.length := by simp [segOk, and_assoc]
theorem l3Numbers_l0 (l : List Int) (hl : l.length ≤ 1048576) : ∀ (t : List Int) (i k : Nat), l.drop i = t → t.length < k →
    spec_l3Numbers.l0 k l l.length i = some (okb 10006 t) := by
  intro t
  induction t with
  | nil =>
    intro i k hd hk
    obtain ⟨k, rfl⟩ : ∃ m, k = m + 1 := ⟨k - 1, by simp at hk; omega⟩
    rw [spec_l3Numbers.l0, if_neg (drop_nil_info hd)]; rfl
  | cons a t ih =>
    intro i k hd hk
    obtain ⟨k, rfl⟩ : ∃ m, k = m + 1 := ⟨k - 1, by simp at hk; omega⟩
    obtain ⟨hi, hr, hd'⟩ := drop_cons_info hd
    simp only [List.length_cons] at hk
    rw [spec_l3Numbers.l0, if_pos (by omega), if_pos (by omega), if_pos (by omega), hr, l1In_eq, okb_cons]
    simp only [Option.bind_some]
    by_cases ha : 0 ≤ a ∧ a ≤ 10006
    · rw [if_pos (by simp [ha]), w64_i i (by omega), ih (i + 1) k hd' (by omega)]; simp [ha]
    · rw [if_neg (by simp [ha])]; simp [ha]
theorem l3Numbers_eq (k : Nat) (l : List Int) (hk : 3000000 ≤ k) (hl : l.length ≤ 1048576) : spec_l3Numbers.f k l = some (okb 10006 l) := by
  unfold spec_l3Numbers.f
  exact l3Numbers_l0 l hl l 0 k (by simp) (by omega)
theorem dataOk_eq (l : List Int) (hl : l.length ≤ 1048576) : impl_dataOk.f l = some (datOk l) := by
  unfold impl_dataOk.f
  by_cases h : l.length ≤ 400
  · rw [if_pos (by omega), within_eq l 10006 hl]; simp [datOk, h]
  · rw [if_neg (by omega)]; simp [datOk, h]
theorem l4Data_eq (k : Nat) (l : List Int) (hk : 3000000 ≤ k) (hl : l.length ≤ 1048576) : spec_l4Data.f k l = some (datOk l) := by
  unfold spec_l4Data.f
  rw [l3Numbers_eq k l hk hl]
  simp only [Option.bind_some, datOk]
  cases okb 10006 l
  · simp
  · simp; omega
theorem l4Indices_l0 (x0 l : List Int) (n : Int) (hn : 0 ≤ n) (hn2 : n ≤ 1048576) (hl : l.length ≤ 1048576) : ∀ (t : List Int) (i k : Nat), l.drop i = t → t.length < k →
    spec_l4Indices.l0 k x0 n l l.length i = some (okb (n - 1) t && decide (x0.length ≤ 400)) := by
  intro t
  induction t with
  | nil =>
    intro i k hd hk
    obtain ⟨k, rfl⟩ : ∃ m, k = m + 1 := ⟨k - 1, by simp at hk; omega⟩
    rw [spec_l4Indices.l0, if_neg (drop_nil_info hd)]; simp [okb_nil]; omega
  | cons a t ih =>
    intro i k hd hk
    obtain ⟨k, rfl⟩ : ∃ m, k = m + 1 := ⟨k - 1, by simp at hk; omega⟩
    obtain ⟨hi, hr, hd'⟩ := drop_cons_info hd
    simp only [List.length_cons] at hk
    rw [spec_l4Indices.l0, if_pos (by omega), if_pos (by omega), if_pos (by omega), hr, w64 (x := n - 1) (by omega) (by omega), l1In_eq, okb_cons]
    simp only [Option.bind_some]
    by_cases ha : 0 ≤ a ∧ a ≤ n - 1
    · rw [if_pos (by simp [ha]), w64_i i (by omega), ih (i + 1) k hd' (by omega)]; simp [ha]
    · rw [if_neg (by simp [ha])]; simp [ha]
theorem l4Indices_eq (k : Nat) (l : List Int) (n : Int) (hk : 3000000 ≤ k) (hl : l.length ≤ 1048576) (hn : 0 ≤ n) (hn2 : n ≤ 1048576) : spec_l4Indices.f k l n = some (okb (n - 1) l && decide (l.length ≤ 400)) := by
  unfold spec_l4Indices.f
  exact l4Indices_l0 l l n hn hn2 hl l 0 k (by simp) (by omega)
def gatOk (d a : List Int) : Bool := datOk d && (okb (d.length - 1) a && decide (a.length ≤ 400))
def gatV (d a : List Int) : List Int × Bool := if gatOk d a = true then (a.map fun i => rd d i, true) else ([], false)
theorem impl_Gather_l0 (d l : List Int) (hl : l.length ≤ 400) (hok : okb ((d.length : Int) - 1) l = true) : ∀ (t : List Int) (i k : Nat) (s : List Int), l.drop i = t → t.length < k → s.length = i →
    impl_GatherData.l0 k d s l l.length i = some (s ++ t.map (fun i => rd d i), true) := by
  intro t
  induction t with
  | nil =>
    intro i k s hd hk hs
    obtain ⟨k, rfl⟩ : ∃ m, k = m + 1 := ⟨k - 1, by simp at hk; omega⟩
    rw [impl_GatherData.l0, if_neg (drop_nil_info hd)]; simp
  | cons a t ih =>
    intro i k s hd hk hs
    obtain ⟨k, rfl⟩ : ∃ m, k = m + 1 := ⟨k - 1, by simp at hk; omega⟩
    obtain ⟨hi, hr, hd'⟩ := drop_cons_info hd
    have hb := okb_iff.1 hok a (by rw [← hr, rd_nat]; exact getD_mem hi)
    simp only [List.length_cons] at hk
    rw [impl_GatherData.l0, if_pos (by omega), if_pos (by omega), if_pos (by omega), hr, if_pos (by omega), if_pos (by omega), if_pos (by omega), w64_i i (by omega),
      ih (i + 1) k _ hd' (by omega) (by simp [hs])]
    simp
theorem impl_Gather_eq (k : Nat) (d a : List Int) (hk : 3000010 ≤ k) (hd : d.length ≤ 1048576) (ha : a.length ≤ 1048576) : impl_GatherData.f k d a = some (gatV d a) := by
  unfold impl_GatherData.f
  rw [dataOk_eq d hd]
  simp only [Option.bind_some]
  obtain ⟨k, rfl⟩ : ∃ m, k = m + 1 := ⟨k - 1, by omega⟩
  cases h1 : datOk d with
  | false => simp [impl_GatherData.j0, gatV, gatOk, h1]
  | true =>
    simp only [if_true]
    by_cases h4 : a.length ≤ 400
    · rw [if_neg (by omega), w64 (by omega) (by omega), within_eq a _ ha]
      simp only [Option.bind_some]
      cases h2 : okb ((d.length : Int) - 1) a with
      | false => simp [impl_GatherData.j0, gatV, gatOk, h1, h2]
      | true =>
        have := impl_Gather_l0 d a h4 h2 a 0 k [] (by simp) (by omega) (by simp)
        simp only [impl_GatherData.j0, gatV, gatOk, h1, h2, h4, decide_true, Bool.not_true, if_neg (show ¬ (false = true) by decide), Bool.true_and, if_true]
        rw [show ((0 : Int)) = ((0 : Nat) : Int) from rfl, this]; simp
    · rw [if_pos (by omega)]
      simp [impl_GatherData.j0, gatV, gatOk, h1, h4]
theorem isRamp_iff (s : List Int) : ∀ i : Int, isRamp i s = true ↔ s = ramp i s.length := by
  induction s with
  | nil => intro i; simp [isRamp, ramp]
  | cons a t ih =>
    intro i
    by_cases h : a = i
    · subst h; simp [isRamp, ih, ramp]
    · simp [isRamp, h, ramp]
theorem ramp_mem (n : Nat) : ∀ (i x : Int), x ∈ ramp i n ↔ i ≤ x ∧ x < i + n := by
  induction n with
  | zero => intro i x; simp only [ramp, List.not_mem_nil, false_iff]; omega
  | succ n ih => intro i x; simp only [ramp, List.mem_cons, ih]; omega
theorem ramp_nodup (n : Nat) : ∀ i : Int, (ramp i n).Nodup := by
  induction n with
  | zero => intro i; simp [ramp]
  | succ n ih =>
    intro i
    rw [ramp, List.nodup_cons]
    exact ⟨by rw [ramp_mem]; omega, ih _⟩
theorem up_last (t : List Int) : ∀ b : Int, t.Pairwise (· < ·) → (∀ x ∈ t, b ≤ x) → t ≠ [] → ∃ x ∈ t, b + t.length - 1 ≤ x := by
  induction t with
  | nil => intro b _ _ h; exact absurd rfl h
  | cons a t ih =>
    intro b hp hb _
    rw [List.pairwise_cons] at hp
    have ha := hb a (by simp)
    cases t with
    | nil => exact ⟨a, by simp, by simp; omega⟩
    | cons c u =>
      obtain ⟨x, hx, hle⟩ := ih (a + 1) hp.2 (fun x hx => by have := hp.1 x hx; omega) (by simp)
      exact ⟨x, by simp [hx], by simp only [List.length_cons] at hle ⊢; omega⟩
theorem up_ramp (s : List Int) : ∀ i : Int, s.Pairwise (· < ·) → (∀ x ∈ s, i ≤ x ∧ x < i + s.length) → isRamp i s = true := by
  induction s with
  | nil => intro i _ _; rfl
  | cons a t ih =>
    intro i hp hb
    rw [List.pairwise_cons] at hp
    have ha := hb a (by simp)
    have e : a = i := by
      cases t with
      | nil => simp at ha; omega
      | cons c u =>
        obtain ⟨x, hx, hle⟩ := up_last (c :: u) (a + 1) hp.2 (fun x hx => by have := hp.1 x hx; omega) (by simp)
        have := hb x (by simp [hx])
        simp only [List.length_cons] at *
        omega
    rw [isRamp, if_pos e]
    refine ih (i + 1) hp.2 (fun x hx => ?_)
    have h1 := hp.1 x hx
    have h2 := hb x (by simp [hx])
    simp only [List.length_cons] at h2
    omega
theorem sortedL_perm (l : List Int) : (sortedL l).Perm l := List.mergeSort_perm l _
theorem sortedL_le (l : List Int) : (sortedL l).Pairwise (fun x y => decide (x ≤ y) = true) := List.pairwise_mergeSort (fun a b c h1 h2 => by simp at *; omega) (fun a b => by simp; omega) l
theorem sorted_ramp_iff (l : List Int) : isRamp 0 (sortedL l) = true ↔ okb ((l.length : Int) - 1) l = true ∧ l.Nodup := by
  have hl : (sortedL l).length = l.length := sortedL_length l
  constructor
  · intro h
    rw [isRamp_iff, hl] at h
    have hp := (sortedL_perm l).symm
    rw [h] at hp
    refine ⟨okb_iff.2 fun n hn => ?_, hp.nodup_iff.2 (ramp_nodup _ _)⟩
    have := (ramp_mem _ _ _).1 (hp.mem_iff.1 hn)
    omega
  · rintro ⟨h1, h2⟩
    have hn : (sortedL l).Nodup := (sortedL_perm l).nodup_iff.2 h2
    refine up_ramp _ 0 ?_ (fun x hx => ?_)
    · have h3 := sortedL_le l
      exact (h3.and hn).imp (fun {a b} h => by
        have ha := h.1; have hb := h.2
        simp at ha
        omega)
    · have := okb_iff.1 h1 x ((sortedL_perm l).mem_iff.1 hx)
      rw [hl]; omega
def permV (l : List Int) : Bool := (okb ((l.length : Int) - 1) l && decide (l.length ≤ 400)) && decide l.Nodup
theorem impl_Perm_eq (l : List Int) (hl : l.length ≤ 1048576) : impl_IsPermutation.f l = some (permV l) := by
  unfold impl_IsPermutation.f
  rw [if_pos (by omega)]
  congr 1
  have := sorted_ramp_iff l
  unfold permV
  by_cases h : isRamp 0 (sortedL l) = true
  · obtain ⟨h1, h2⟩ := this.1 h
    rw [if_pos h]; simp [h1, h2]
  · rw [if_neg h]
    by_cases h1 : okb ((l.length : Int) - 1) l = true
    · have h2 : ¬ l.Nodup := fun h2 => h (this.2 ⟨h1, h2⟩)
      simp [h2]
    · simp [h1]
theorem rdOf_nat (l : List Bool) (j : Nat) : rdOf false l (j : Int) = l.getD j false := by simp [rdOf]
theorem spec_Perm_l0 (l : List Int) (hl : l.length ≤ 1048576) (hok : okb ((l.length : Int) - 1) l = true) : ∀ (t : List Int) (i k : Nat) (s : List Bool), l.drop i = t → t.length < k → s.length = l.length → (∀ j : Nat, s.getD j false = true ↔ ((j : Int) ∈ l.take i)) → (l.take i).Nodup →
    spec_IsPermutation.l0 k s l l.length i = some (decide l.Nodup) := by
  intro t
  induction t with
  | nil =>
    intro i k s hd hk hs hf hn
    obtain ⟨k, rfl⟩ : ∃ m, k = m + 1 := ⟨k - 1, by omega⟩
    have hi := List.drop_eq_nil_iff.1 hd
    rw [List.take_of_length_le hi] at hn
    rw [spec_IsPermutation.l0, if_neg (drop_nil_info hd)]; simp [hn]
  | cons a t ih =>
    intro i k s hd hk hs hf hn
    obtain ⟨k, rfl⟩ : ∃ m, k = m + 1 := ⟨k - 1, by omega⟩
    obtain ⟨hi, hr, hd'⟩ := drop_cons_info hd
    have hb := okb_iff.1 hok a (by rw [← hr, rd_nat]; exact getD_mem hi)
    simp only [List.length_cons] at hk
    obtain ⟨q, rfl⟩ := Int.eq_ofNat_of_zero_le hb.1
    have hq : q < l.length := by omega
    have htk : l.take (i + 1) = l.take i ++ [(q : Int)] := by
      rw [List.take_succ_eq_append_getElem hi, ← hr, rd_nat, List.getD_eq_getElem?_getD, List.getElem?_eq_getElem hi]; rfl
    rw [spec_IsPermutation.l0, if_pos (by omega), if_pos (by omega), if_pos (by omega), hr, if_pos (by omega), if_pos (by omega), rdOf_nat]
    by_cases h : s.getD q false = true
    · rw [if_pos h]
      have hm := (hf q).1 h
      have : ¬ l.Nodup := fun hnd => by
        have h2 : l = l.take i ++ ((q : Int) :: t) := by rw [← hd, List.take_append_drop]
        rw [h2, List.nodup_append] at hnd
        exact hnd.2.2 _ hm _ (by simp) rfl
      simp [this]
    · rw [if_neg h, w64_i i (by omega), Int.toNat_natCast]
      have hnm : (q : Int) ∉ l.take i := fun hm => h ((hf q).2 hm)
      refine ih (i + 1) k _ hd' (by omega) (by simp [hs]) (fun j => ?_) ?_
      · rw [htk, List.mem_append, List.getD_eq_getElem?_getD, List.getElem?_set]
        have := hf j
        rw [List.getD_eq_getElem?_getD] at this
        by_cases hj : q = j
        · subst hj; simp [hs, hq]
        · rw [if_neg hj, this]; simp; omega
      · rw [htk, List.nodup_append]
        exact ⟨hn, by simp, fun x hx y hy => by simp at hy; subst hy; exact fun e => hnm (e ▸ hx)⟩
theorem spec_Perm_eq (k : Nat) (l : List Int) (hk : 3000010 ≤ k) (hl : l.length ≤ 1048576) : spec_IsPermutation.f k l = some (decide (okb ((l.length : Int) - 1) l = true ∧ l.length ≤ 400 ∧ l.Nodup)) := by
  unfold spec_IsPermutation.f
  rw [l4Indices_eq k l _ (by omega) hl (by omega) (by omega), Option.bind_some]
  by_cases h : okb ((l.length : Int) - 1) l = true ∧ l.length ≤ 400
  · rw [if_pos (by simp [h.1, h.2]), if_pos (by omega), if_pos (by omega), Int.toNat_natCast]
    have := spec_Perm_l0 l hl h.1 l 0 k (List.replicate l.length false) (by simp) (by omega) (by simp) (fun j => by simp only [List.getD_eq_getElem?_getD, List.getElem?_replicate, List.take_zero, List.not_mem_nil, iff_false]; split <;> simp) (by simp)
    rw [show ((0 : Nat) : Int) = 0 from rfl] at this
    rw [this]; simp [h.1, h.2]
  · rw [if_neg (by simpa using h)]
    have : ¬ (okb ((l.length : Int) - 1) l = true ∧ l.length ≤ 400 ∧ l.Nodup) := fun hh => h ⟨hh.1, hh.2.1⟩
    simp only [this, decide_false]
theorem spec_Perm_eq' (k : Nat) (l : List Int) (hk : 3000010 ≤ k) (hl : l.length ≤ 1048576) : spec_IsPermutation.f k l = some (permV l) := by
  rw [spec_Perm_eq k l hk hl]
  congr 1
  unfold permV
  by_cases h1 : okb ((l.length : Int) - 1) l = true <;> by_cases h2 : l.length ≤ 400 <;> by_cases h3 : l.Nodup <;> simp [h1, h2, h3]
theorem permV_iff {l : List Int} : permV l = true ↔ okb ((l.length : Int) - 1) l = true ∧ l.length ≤ 400 ∧ l.Nodup := by simp [permV, and_assoc]
/-- Numbers laid at their indices. -/
def scat (x : List Int) : Nat → List Int → List Int → List Int
  | _, s, [] => s
  | i, s, a :: t => scat x (i + 1) (s.set a.toNat (rd x (i : Int))) t
theorem scat_len (x : List Int) (t : List Int) : ∀ (i : Nat) (s : List Int), (scat x i s t).length = s.length := by
  induction t with
  | nil => intro i s; rfl
  | cons a t ih => intro i s; rw [scat, ih]; simp
def scOk (x u : List Int) : Bool := datOk x && (permV u && decide (u.length = x.length))
def scV (x u : List Int) : List Int × Bool := if scOk x u = true then (scat x 0 (List.replicate x.length 0) u, true) else ([], false)
theorem scOk_iff {x u : List Int} : scOk x u = true ↔ datOk x = true ∧ permV u = true ∧ u.length = x.length := by simp [scOk]
theorem scV_len (x u : List Int) : (scV x u).1.length ≤ 1048576 := by
  unfold scV; split
  · rename_i h; obtain ⟨h1, _, _⟩ := scOk_iff.1 h; have := datOk_iff.1 h1; rw [scat_len]; simp; omega
  · simp
theorem spec_Sc_l0 (x u : List Int) (hx : x.length ≤ 400) (hu : u.length = x.length) (hok : okb ((u.length : Int) - 1) u = true) : ∀ (t : List Int) (i k : Nat) (s : List Int), u.drop i = t → t.length < k → s.length = x.length →
    spec_ScatterData.l0 k x s u u.length i = some (scat x i s t, true) := by
  intro t
  induction t with
  | nil =>
    intro i k s hd hk hs
    obtain ⟨k, rfl⟩ : ∃ m, k = m + 1 := ⟨k - 1, by omega⟩
    rw [spec_ScatterData.l0, if_neg (drop_nil_info hd)]; rfl
  | cons a t ih =>
    intro i k s hd hk hs
    obtain ⟨k, rfl⟩ : ∃ m, k = m + 1 := ⟨k - 1, by omega⟩
    obtain ⟨hi, hr, hd'⟩ := drop_cons_info hd
    have hb := okb_iff.1 hok a (by rw [← hr, rd_nat]; exact getD_mem hi)
    simp only [List.length_cons] at hk
    rw [spec_ScatterData.l0, if_pos (by omega), if_pos (by omega), if_pos (by omega), if_pos (by omega), hr, if_pos (by omega), if_pos (by omega), w64_i i (by omega), ih (i + 1) k _ hd' (by omega) (by simp [hs])]
    rfl
theorem spec_Sc_eq (k : Nat) (x u : List Int) (hk : 3001000 ≤ k) (hx : x.length ≤ 1048576) (hu : u.length ≤ 1048576) : spec_ScatterData.f k x u = some (scV x u) := by
  obtain ⟨k, rfl⟩ : ∃ m, k = m + 1 := ⟨k - 1, by omega⟩
  unfold spec_ScatterData.f
  rw [l4Data_eq (k + 1) x (by omega) hx, Option.bind_some]
  cases h1 : datOk x with
  | false => simp [spec_ScatterData.j0, scV, scOk, h1]
  | true =>
    rw [if_pos rfl]
    by_cases h2 : u.length = x.length
    case neg => rw [if_neg (by omega)]; simp [spec_ScatterData.j0, scV, scOk, h2]
    rw [if_pos (by omega), spec_Perm_eq' (k + 1) u (by omega) hu, Option.bind_some]
    cases h3 : permV u with
    | false => simp [spec_ScatterData.j0, scV, scOk, h3]
    | true =>
      have hd := datOk_iff.1 h1
      have hp := permV_iff.1 h3
      rw [spec_ScatterData.j0, if_neg (by simp), if_pos (by omega), if_pos (by omega), Int.toNat_natCast]
      have := spec_Sc_l0 x u hd.1 h2 hp.1 u 0 k (List.replicate x.length 0) (by simp) (by omega) (by simp)
      rw [show ((0 : Nat) : Int) = 0 from rfl] at this
      rw [this]; simp [scV, scOk, h1, h2, h3]
theorem impl_Sc_l0 (x u : List Int) (hx : x.length ≤ 400) (hu : u.length = x.length) (hok : okb ((u.length : Int) - 1) u = true) : ∀ (t : List Int) (i k : Nat) (s : List Int), u.drop i = t → t.length < k → s.length = x.length →
    impl_ScatterData.l0 k x s u u.length i = some (scat x i s t, true) := by
  intro t
  induction t with
  | nil =>
    intro i k s hd hk hs
    obtain ⟨k, rfl⟩ : ∃ m, k = m + 1 := ⟨k - 1, by omega⟩
    rw [impl_ScatterData.l0, if_neg (drop_nil_info hd)]; rfl
  | cons a t ih =>
    intro i k s hd hk hs
    obtain ⟨k, rfl⟩ : ∃ m, k = m + 1 := ⟨k - 1, by omega⟩
    obtain ⟨hi, hr, hd'⟩ := drop_cons_info hd
    have hb := okb_iff.1 hok a (by rw [← hr, rd_nat]; exact getD_mem hi)
    simp only [List.length_cons] at hk
    rw [impl_ScatterData.l0, if_pos (by omega), if_pos (by omega), if_pos (by omega), if_pos (by omega), hr, if_pos (by omega), if_pos (by omega), w64_i i (by omega), ih (i + 1) k _ hd' (by omega) (by simp [hs])]
    rfl
theorem impl_Sc_eq (k : Nat) (x u : List Int) (hk : 3001000 ≤ k) (hx : x.length ≤ 1048576) (hu : u.length ≤ 1048576) : impl_ScatterData.f k x u = some (scV x u) := by
  obtain ⟨k, rfl⟩ : ∃ m, k = m + 1 := ⟨k - 1, by omega⟩
  unfold impl_ScatterData.f
  rw [dataOk_eq x hx, Option.bind_some]
  cases h1 : datOk x with
  | false => simp [impl_ScatterData.j0, scV, scOk, h1]
  | true =>
    rw [if_pos rfl, impl_Perm_eq u hu, Option.bind_some]
    cases h3 : permV u with
    | false => simp [impl_ScatterData.j0, scV, scOk, h3]
    | true =>
      rw [if_pos rfl, impl_ScatterData.j0]
      by_cases h2 : u.length = x.length
      case neg => rw [if_pos (by simp; omega)]; simp [scV, scOk, h2]
      have hd := datOk_iff.1 h1
      have hp := permV_iff.1 h3
      rw [if_neg (by simp; omega), if_pos (by omega), if_pos (by omega), Int.toNat_natCast]
      have := impl_Sc_l0 x u hd.1 h2 hp.1 u 0 k (List.replicate x.length 0) (by simp) (by omega) (by simp)
      rw [show ((0 : Nat) : Int) = 0 from rfl] at this
      rw [this]; simp [scV, scOk, h1, h2, h3]
/-- Each index laid where it points. -/
def invt : Nat → List Int → List Int → List Int
  | _, s, [] => s
  | i, s, a :: t => invt (i + 1) (s.set a.toNat (i : Int)) t
theorem invt_len (t : List Int) : ∀ (i : Nat) (s : List Int), (invt i s t).length = s.length := by
  induction t with
  | nil => intro i s; rfl
  | cons a t ih => intro i s; rw [invt, ih]; simp
def inV (u : List Int) : List Int × Bool := if permV u = true then (invt 0 (List.replicate u.length 0) u, true) else ([], false)
theorem inV_len (u : List Int) : (inV u).1.length ≤ 1048576 := by
  unfold inV; split
  · rename_i h; have := permV_iff.1 h; rw [invt_len]; simp; omega
  · simp
theorem spec_In_l0 (u : List Int) (hu : u.length ≤ 400) (hok : okb ((u.length : Int) - 1) u = true) : ∀ (t : List Int) (i k : Nat) (s : List Int), u.drop i = t → t.length < k → s.length = u.length →
    spec_InvertIndices.l0 k s u u.length i = some (invt i s t, true) := by
  intro t
  induction t with
  | nil =>
    intro i k s hd hk hs
    obtain ⟨k, rfl⟩ : ∃ m, k = m + 1 := ⟨k - 1, by omega⟩
    rw [spec_InvertIndices.l0, if_neg (drop_nil_info hd)]; rfl
  | cons a t ih =>
    intro i k s hd hk hs
    obtain ⟨k, rfl⟩ : ∃ m, k = m + 1 := ⟨k - 1, by omega⟩
    obtain ⟨hi, hr, hd'⟩ := drop_cons_info hd
    have hb := okb_iff.1 hok a (by rw [← hr, rd_nat]; exact getD_mem hi)
    simp only [List.length_cons] at hk
    rw [spec_InvertIndices.l0, if_pos (by omega), if_pos (by omega), if_pos (by omega), hr, if_pos (by omega), if_pos (by omega), w64_i i (by omega), ih (i + 1) k _ hd' (by omega) (by simp [hs])]
    rfl
theorem spec_In_eq (k : Nat) (u : List Int) (hk : 3001000 ≤ k) (hu : u.length ≤ 1048576) : spec_InvertIndices.f k u = some (inV u) := by
  unfold spec_InvertIndices.f
  rw [spec_Perm_eq' k u (by omega) hu, Option.bind_some]
  cases h3 : permV u with
  | false => simp [inV, h3]
  | true =>
    have hp := permV_iff.1 h3
    rw [if_pos rfl, if_pos (by omega), if_pos (by omega), Int.toNat_natCast]
    have := spec_In_l0 u hp.2.1 hp.1 u 0 k (List.replicate u.length 0) (by simp) (by omega) (by simp)
    rw [show ((0 : Nat) : Int) = 0 from rfl] at this
    rw [this]; simp [inV, h3]
theorem impl_In_l0 (u : List Int) (hu : u.length ≤ 400) (hok : okb ((u.length : Int) - 1) u = true) : ∀ (t : List Int) (i k : Nat) (s : List Int), u.drop i = t → t.length < k → s.length = u.length →
    impl_InvertIndices.l0 k s u u.length i = some (invt i s t, true) := by
  intro t
  induction t with
  | nil =>
    intro i k s hd hk hs
    obtain ⟨k, rfl⟩ : ∃ m, k = m + 1 := ⟨k - 1, by omega⟩
    rw [impl_InvertIndices.l0, if_neg (drop_nil_info hd)]; rfl
  | cons a t ih =>
    intro i k s hd hk hs
    obtain ⟨k, rfl⟩ : ∃ m, k = m + 1 := ⟨k - 1, by omega⟩
    obtain ⟨hi, hr, hd'⟩ := drop_cons_info hd
    have hb := okb_iff.1 hok a (by rw [← hr, rd_nat]; exact getD_mem hi)
    simp only [List.length_cons] at hk
    rw [impl_InvertIndices.l0, if_pos (by omega), if_pos (by omega), if_pos (by omega), hr, if_pos (by omega), if_pos (by omega), w64_i i (by omega), ih (i + 1) k _ hd' (by omega) (by simp [hs])]
    rfl
theorem impl_In_eq (k : Nat) (u : List Int) (hk : 3001000 ≤ k) (hu : u.length ≤ 1048576) : impl_InvertIndices.f k u = some (inV u) := by
  unfold impl_InvertIndices.f
  rw [impl_Perm_eq u hu, Option.bind_some]
  cases h3 : permV u with
  | false => simp [inV, h3]
  | true =>
    have hp := permV_iff.1 h3
    rw [if_pos rfl, if_pos (by omega), if_pos (by omega), Int.toNat_natCast]
    have := impl_In_l0 u hp.2.1 hp.1 u 0 k (List.replicate u.length 0) (by simp) (by omega) (by simp)
    rw [show ((0 : Nat) : Int) = 0 from rfl] at this
    rw [this]; simp [inV, h3]
theorem ofInt_toNat64 (a : Nat) (ha : a < 18446744073709551616) : (BitVec.ofInt 64 (a : Int)).toNat = a := by
  rw [BitVec.ofInt_natCast, BitVec.toNat_ofNat]; exact Nat.mod_eq_of_lt (by omega)
theorem xor_i64 (a b : Nat) (ha : a < 4611686018427387904) (hb : b < 4611686018427387904) : Go.bits .xor .i64 (a : Int) (b : Int) = ((a ^^^ b : Nat) : Int) := by
  have hx : a ^^^ b < 2 ^ 62 := Nat.xor_lt_two_pow (by omega) (by omega)
  show IntKind.i64.wrap ((BitVec.ofInt 64 (a : Int) ^^^ BitVec.ofInt 64 (b : Int)).toNat : Int) = _
  rw [BitVec.toNat_xor, ofInt_toNat64 a (by omega), ofInt_toNat64 b (by omega)]
  simp [IntKind.wrap, IntKind.bits, IntKind.signed]
  omega
theorem xor_nonneg (a b : Int) (h0 : 0 ≤ a) (h1 : a < 4611686018427387904) (h2 : 0 ≤ b) (h3 : b < 4611686018427387904) : 0 ≤ Go.bits .xor .i64 a b := by
  obtain ⟨n, rfl⟩ := Int.eq_ofNat_of_zero_le h0
  obtain ⟨m, rfl⟩ := Int.eq_ofNat_of_zero_le h2
  rw [xor_i64 n m (by omega) (by omega)]; omega
theorem tmod_pos (a b : Int) (h : 0 ≤ a) : Int.tmod a b = a % b := Int.tmod_eq_emod_of_nonneg h
theorem tdiv_pos (a b : Int) (h : 0 ≤ a) : Int.tdiv a b = a / b := Int.tdiv_eq_ediv_of_nonneg h
theorem rd_range {m : Int} {l : List Int} (h : okb m l = true) (i : Int) (h0 : 0 ≤ i) (h1 : i < (l.length : Int)) : 0 ≤ rd l i ∧ rd l i ≤ m := okb_iff.1 h _ (rd_mem h0 h1)
/-- A source of drawn numbers: bytes, and how many have been drawn. -/
def Src (b : List Int) (p : Int) (m : Int) : Prop := okb 255 b = true ∧ b.length ≤ 2000 ∧ 0 ≤ p ∧ p ≤ m ∧ m ≤ 1000000000
theorem Src.mono {b : List Int} {p m m' : Int} (h : Src b p m) (h1 : m ≤ m') (h2 : m' ≤ 1000000000) : Src b p m' := ⟨h.1, h.2.1, h.2.2.1, by have := h.2.2.2.1; omega, h2⟩
theorem pick_any (k : Nat) (b : List Int) (p m n : Int) (hk : 1 ≤ k) (h : Src b p m) (hm : m + 1 ≤ 1000000000) :
    ∃ v, spec_l13Rd_pick.f k b p n = some (v, p + 1) ∧ 0 ≤ v ∧ (1 ≤ n → v < n) ∧ Src b (p + 1) (m + 1) := by
  obtain ⟨h1, h2, h3, h4, h5⟩ := h
  obtain ⟨k, rfl⟩ : ∃ j, k = j + 1 := ⟨k - 1, by omega⟩
  have hS : Src b (p + 1) (m + 1) := ⟨h1, h2, by omega, by omega, hm⟩
  unfold spec_l13Rd_pick.f
  have e0 : wrap64 (p + 1) = p + 1 := w64 (by omega) (by omega)
  have e1 : wrap64 (p + 1 - 1) = p := by rw [w64 (by omega) (by omega)]; omega
  by_cases hn : n < 1
  · rw [if_pos hn, e0, spec_l13Rd_pick.j0, if_pos rfl]
    exact ⟨0, rfl, by omega, fun h => by omega, hS⟩
  rw [if_neg hn, e0, spec_l13Rd_pick.j0]
  by_cases hb : b = []
  · rw [if_pos (by rw [hb]; rfl)]
    exact ⟨0, rfl, by omega, fun h => by omega, hS⟩
  have hbl : 0 < b.length := List.length_pos_iff.2 hb
  rw [if_neg (by simp [hb]), e1]
  have fin : ∀ x : Int, 0 ≤ x → ∃ v, (some (Int.tmod x n, p + 1) : Option (Int × Int)) = some (v, p + 1) ∧ 0 ≤ v ∧ (1 ≤ n → v < n) ∧ Src b (p + 1) (m + 1) := fun x hx =>
    ⟨Int.tmod x n, rfl, by rw [tmod_pos _ _ hx]; exact Int.emod_nonneg _ (by omega), fun _ => by rw [tmod_pos _ _ hx]; exact Int.emod_lt_of_pos _ (by omega), hS⟩
  by_cases hp : p < (b.length : Int)
  · have hr := rd_range h1 p h3 hp
    rw [if_pos hp, if_pos h3, if_neg (by omega), w64 (x := rd b p) (by omega) (by omega)]
    exact fin _ hr.1
  rw [if_neg hp, if_neg (by omega)]
  have q1 : Int.tmod p (b.length : Int) = p % (b.length : Int) := tmod_pos _ _ h3
  have a1 := Int.emod_nonneg p (b := (b.length : Int)) (by omega)
  have a2 := Int.emod_lt_of_pos p (b := (b.length : Int)) (by omega)
  have w7 : wrap64 (wrap64 (p * 7) + 3) = p * 7 + 3 := by rw [w64 (x := p * 7) (by omega) (by omega), w64 (by omega) (by omega)]
  rw [q1, w7]
  have q2 : Int.tmod (p * 7 + 3) (b.length : Int) = (p * 7 + 3) % (b.length : Int) := tmod_pos _ _ (by omega)
  have b1 := Int.emod_nonneg (p * 7 + 3) (b := (b.length : Int)) (by omega)
  have b2 := Int.emod_lt_of_pos (p * 7 + 3) (b := (b.length : Int)) (by omega)
  rw [q2, if_pos a1, if_pos a2, if_pos b1, if_pos b2, if_neg (by omega)]
  have r1 := rd_range h1 _ a1 a2
  have r2 := rd_range h1 _ b1 b2
  have q3 : Int.tdiv p (b.length : Int) = p / (b.length : Int) := tdiv_pos _ _ h3
  have d1 : 0 ≤ p / (b.length : Int) := Int.ediv_nonneg h3 (by omega)
  have d2 : p / (b.length : Int) ≤ p := Int.ediv_le_self _ h3
  generalize rd b (p % (b.length : Int)) = x1 at r1 ⊢
  generalize rd b ((p * 7 + 3) % (b.length : Int)) = x2 at r2 ⊢
  rw [q3]
  generalize p / (b.length : Int) = x3 at d1 d2 ⊢
  rw [w64 (x := x1) (by omega) (by omega), w64 (x := x2) (by omega) (by omega), w64 (x := x3) (by omega) (by omega), w64 (x := x1 * 131) (by omega) (by omega), w64 (x := x2 * 1117) (by omega) (by omega), w64 (x := p * 29) (by omega) (by omega), w64 (x := x3 * 53) (by omega) (by omega),
    w64 (x := x1 * 131 + x2 * 1117) (by omega) (by omega), w64 (x := x1 * 131 + x2 * 1117 + p * 29) (by omega) (by omega), w64 (x := x1 * 131 + x2 * 1117 + p * 29 + x3 * 53) (by omega) (by omega)]
  have z0 : 0 ≤ x1 * 131 + x2 * 1117 + p * 29 + x3 * 53 := by omega
  have z1 : x1 * 131 + x2 * 1117 + p * 29 + x3 * 53 < 4611686018427387904 := by omega
  generalize x1 * 131 + x2 * 1117 + p * 29 + x3 * 53 = z at z0 z1 ⊢
  rw [tdiv_pos _ _ z0, w64 (x := z / 64) (by omega) (by omega)]
  exact fin _ (xor_nonneg _ _ z0 z1 (by omega) (by omega))
theorem num_any (k : Nat) (b : List Int) (p m : Int) (l : List Int) (hk : 1 ≤ k) (h : Src b p m) (hm : m + 1 ≤ 1000000000) (hl : l ≠ []) :
    ∃ v, spec_l13Rd_num.f k b p l = some (v, p + 1) ∧ v ∈ l ∧ Src b (p + 1) (m + 1) := by
  obtain ⟨v, hv, h0, h1, hS⟩ := pick_any k b p m (l.length : Int) hk h hm
  have hll : 0 < l.length := List.length_pos_iff.2 hl
  have h1 := h1 (by omega)
  unfold spec_l13Rd_num.f
  rw [hv]
  simp only [Option.bind_some]
  rw [if_pos h0, if_pos h1]
  exact ⟨rd l v, rfl, rd_mem h0 h1, hS⟩
theorem open_any (c : List Int) (h : okb 255 c = true) (hl : c.length ≤ 1048576) : ∃ b, spec_l13Open.f c = some (b, 0) ∧ Src b 0 0 := by
  unfold spec_l13Open.f
  by_cases h1 : (c.length : Int) > 2000
  · rw [if_pos h1, if_pos (by omega)]
    exact ⟨_, rfl, okb_take h _, by simp; omega, by omega, by omega, by omega⟩
  · rw [if_neg h1]
    exact ⟨_, rfl, h, by omega, by omega, by omega, by omega⟩
theorem l4Numbers_l0 (b : List Int) (n : Nat) : ∀ (d i k : Nat) (p m : Int) (s : List Int), d = n - i → i ≤ n → n ≤ 1000 → d + 2 < k → s.length = i → Src b p m → m + 2 * d ≤ 100000000 →
    ∃ r p', spec_l4Numbers.l0 k s n i b p = some (r, p') ∧ r.length = n ∧ Src b p' (m + 2 * d) := by
  intro d
  induction d with
  | zero =>
    intro i k p m s hd hi hn hk hs hS hm
    obtain ⟨k, rfl⟩ : ∃ j, k = j + 1 := ⟨k - 1, by omega⟩
    rw [spec_l4Numbers.l0, if_neg (by omega)]
    exact ⟨s, p, rfl, by omega, hS.mono (by omega) (by omega)⟩
  | succ d ih =>
    intro i k p m s hd hi hn hk hs hS hm
    obtain ⟨k, rfl⟩ : ∃ j, k = j + 1 := ⟨k - 1, by omega⟩
    rw [spec_l4Numbers.l0, if_pos (by omega)]
    obtain ⟨v, e1, _, _, hS1⟩ := pick_any k b p m 50 (by omega) hS (by omega)
    rw [e1]; simp only [Option.bind_some]
    obtain ⟨u, e2, _, hS2⟩ := num_any k b (p + 1) (m + 1) [1, 0, 2, 3, 10006, v, 7] (by omega) hS1 (by omega) (by simp)
    rw [e2]; simp only [Option.bind_some]
    rw [if_pos (by omega), w64_i i (by omega)]
    obtain ⟨r, p', e3, h1, h2⟩ := ih (i + 1) k (p + 1 + 1) (m + 1 + 1) (s ++ [u]) (by omega) (by omega) hn (by omega) (by simp [hs]) hS2 (by omega)
    exact ⟨r, p', e3, h1, h2.mono (by omega) (by omega)⟩
theorem l4Numbers_any (k : Nat) (b : List Int) (p m : Int) (hk : 100 ≤ k) (hS : Src b p m) (hm : m ≤ 1000000) :
    ∃ r p', spec_l4Numbers.f k b p = some (r, p') ∧ r.length ≤ 6 ∧ Src b p' (m + 20) := by
  unfold spec_l4Numbers.f
  obtain ⟨v, e1, h0, h1, hS1⟩ := pick_any k b p m 7 (by omega) hS (by omega)
  have h1 := h1 (by omega)
  obtain ⟨n, rfl⟩ := Int.eq_ofNat_of_zero_le h0
  rw [e1]; simp only [Option.bind_some]
  obtain ⟨r, p', e3, h2, h3⟩ := l4Numbers_l0 b n n 0 k (p + 1) (m + 1) [] (by omega) (by omega) (by omega) (by omega) rfl hS1 (by omega)
  exact ⟨r, p', e3, by omega, h3.mono (by omega) (by omega)⟩
theorem wf_u8 {l : List Int} (h : ∀ x ∈ l, (Lit.int .u8 x).wf = true) : okb 255 l = true := by
  rw [okb_iff]; intro n hn
  have := h n hn
  simp [Lit.wf, IntKind.min, IntKind.max, IntKind.signed, IntKind.bits] at this
  omega
theorem l4Order_l0 (b : List Int) (n : Nat) : ∀ (d i k : Nat) (p m : Int) (s : List Int), d = n - i → i ≤ n → n ≤ 1000 → d + 4 < k → s.length = i → Src b p m → m + 2 * d ≤ 100000000 →
    ∃ r p', spec_l4Order.l0 k n s n i b p = some (r, p') ∧ r.length = n ∧ Src b p' (m + 2 * d + 6) := by
  intro d
  induction d with
  | zero =>
    intro i k p m s hd hi hn hk hs hS hm
    obtain ⟨k, rfl⟩ : ∃ j, k = j + 1 := ⟨k - 1, by omega⟩
    rw [spec_l4Order.l0, if_neg (by omega)]
    obtain ⟨k, rfl⟩ : ∃ j, k = j + 1 := ⟨k - 1, by omega⟩
    by_cases h0 : (n : Int) > 0
    case neg =>
      rw [if_neg h0, spec_l4Order.j1, if_neg (by simp)]
      exact ⟨s, p, rfl, by omega, hS.mono (by omega) (by omega)⟩
    rw [if_pos h0]
    obtain ⟨v, e1, _, _, hS1⟩ := pick_any (k + 1) b p m 6 (by omega) hS (by omega)
    rw [e1]; simp only [Option.bind_some]
    rw [spec_l4Order.j1]
    by_cases h1 : (v == 0) = true
    case neg => rw [if_neg h1]; exact ⟨s, p + 1, rfl, by omega, hS1.mono (by omega) (by omega)⟩
    rw [if_pos h1]
    obtain ⟨j, e2, hj0, hj1, hS2⟩ := pick_any k b (p + 1) (m + 1) n (by omega) hS1 (by omega)
    have hj1 := hj1 (by omega)
    rw [e2]; simp only [Option.bind_some]
    obtain ⟨x, e3, _, hS3⟩ := num_any k b (p + 1 + 1) (m + 1 + 1) [0, (n : Int), -1, wrap64 ((n : Int) - 1)] (by omega) hS2 (by omega) (by simp)
    rw [e3]; simp only [Option.bind_some]
    rw [if_pos hj0, if_pos (by omega)]
    exact ⟨_, _, rfl, by simp; omega, hS3.mono (by omega) (by omega)⟩
  | succ d ih =>
    intro i k p m s hd hi hn hk hs hS hm
    obtain ⟨k, rfl⟩ : ∃ j, k = j + 1 := ⟨k - 1, by omega⟩
    rw [spec_l4Order.l0, if_pos (by omega)]
    have e0 : wrap64 ((i : Int) + 1) = ((i + 1 : Nat) : Int) := by rw [w64 (by omega) (by omega)]; omega
    rw [e0]
    obtain ⟨v, e1, h0, h1, hS1⟩ := pick_any k b p m ((i + 1 : Nat) : Int) (by omega) hS (by omega)
    have h1 := h1 (by omega)
    rw [e1]; simp only [Option.bind_some]
    rw [if_pos h0, if_pos (by omega), if_pos (by simp; omega), if_pos (by simp; omega), if_pos (by simp; omega)]
    obtain ⟨r, p', e3, h2, h3⟩ := ih (i + 1) k (p + 1) (m + 1) ([] ++ s.take v.toNat ++ [(i : Int)] ++ s.drop v.toNat) (by omega) (by omega) hn (by omega) (by simp; omega) hS1 (by omega)
    exact ⟨r, p', e3, h2, h3.mono (by omega) (by omega)⟩
theorem drawScatter_any (k : Nat) (c : List Int) (hk : 200 ≤ k) (h : okb 255 c = true) (hl : c.length ≤ 1048576) :
    ∃ x u, spec_DrawScatterData.f k c = some (x, u) ∧ x.length ≤ 6 ∧ u.length ≤ 6 := by
  unfold spec_DrawScatterData.f
  obtain ⟨b, e0, hS⟩ := open_any c h hl
  rw [e0]; simp only [Option.bind_some]
  obtain ⟨x, p, e1, h1, hS1⟩ := l4Numbers_any k b 0 0 (by omega) hS (by omega)
  rw [e1]; simp only [Option.bind_some]
  obtain ⟨r, p', e2, h2, hS2⟩ := l4Order_l0 b x.length x.length 0 k p (0 + 20) [] (by omega) (by omega) (by omega) (by omega) rfl hS1 (by omega)
  unfold spec_l4Order.f
  rw [show ((0 : Nat) : Int) = 0 from rfl] at e2
  rw [e2]; simp only [Option.bind_some]
  exact ⟨x, r, rfl, h1, by omega⟩
end Go.Proofs.Yteijndaldkkpfaa.Sc
