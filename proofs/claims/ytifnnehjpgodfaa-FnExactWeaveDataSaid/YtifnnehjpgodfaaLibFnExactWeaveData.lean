/-
  Plain lemmas on what the functions compute: lists and numbers alone.
-/
import Derived.Test.YtifnnehjpgodfaaWe1
import Derived.Test.YtifnnehjpgodfaaWe2
import Derived.Test.YtifnnehjpgodfaaWe3
namespace Go.Proofs.Ytifnnehjpgodfaa.We
open Go.RowKit Go.Proofs.YtifnnehjpgodfaaW.PrintWords Go.Proofs.YtifnnehjpgodfaaW.PrintLast Go.Proofs.YtifnnehjpgodfaaW.PrintMore
set_option linter.unusedVariables false
set_option linter.unusedSimpArgs false
theorem w64 {x : Int} (h0 : -9223372036854775808 ≤ x) (h1 : x ≤ 9223372036854775807) : wrap64 x = x := by unfold wrap64; omega
theorem w64_nat {x : Int} (h0 : 0 ≤ x) (h1 : x ≤ 9223372036854775807) : wrap64 x = x := w64 (by omega) h1
theorem w64_i (i : Nat) (h : i ≤ 9223372036854775806) : wrap64 ((i : Int) + 1) = ((i + 1 : Nat) : Int) := by rw [w64 (by omega) (by omega)]; omega
theorem rd_nat (l : List Int) (i : Nat) : rd l (i : Int) = l.getD i 0 := by simp [rd]
theorem drop_cons_info {l : List Int} {i : Nat} {a : Int} {t : List Int} (h : l.drop i = a :: t) : i < l.length ∧ rd l (i : Int) = a ∧ l.drop (i + 1) = t := by
  have hi : i < l.length := by
    rcases Nat.lt_or_ge i l.length with h1 | h1
    · exact h1
    · rw [List.drop_eq_nil_of_le h1] at h; cases h
  rw [List.drop_eq_getElem_cons hi] at h
  injection h with h1 h2
  refine ⟨hi, ?_, h2⟩
  rw [rd_nat, List.getD_eq_getElem?_getD, List.getElem?_eq_getElem hi]
  exact h1
theorem drop_nil_info {α : Type} {l : List α} {i : Nat} (h : l.drop i = []) : ¬ ((i : Int) < (l.length : Int)) := by
  have := List.drop_eq_nil_iff.1 h
  omega
theorem mn_def (a b : Int) : mn a b = if a ≤ b then a else b := by unfold mn; split <;> split <;> omega
theorem getD_mem {l : List Int} {i : Nat} (h : i < l.length) : l.getD i 0 ∈ l := by
  rw [List.getD_eq_getElem?_getD, List.getElem?_eq_getElem h]; exact List.getElem_mem h
theorem rd_mem {l : List Int} {i : Int} (h0 : 0 ≤ i) (h : i < (l.length : Int)) : rd l i ∈ l := by
  obtain ⟨n, rfl⟩ := Int.eq_ofNat_of_zero_le h0
  rw [rd_nat]; exact getD_mem (by omega)
/-- The sum of numbers. -/
def tot : List Int → Int
  | [] => 0
  | a :: t => a + tot t
theorem tot_append (a b : List Int) : tot (a ++ b) = tot a + tot b := by
  induction a with
  | nil => simp [tot]
  | cons x t ih => simp only [List.cons_append, tot, ih]; omega
/-- All numbers lie from 0 to m. -/
def okb (m : Int) (l : List Int) : Bool := l.all fun n => decide (0 ≤ n) && decide (n ≤ m)
theorem okb_iff {m : Int} {l : List Int} : okb m l = true ↔ ∀ n ∈ l, 0 ≤ n ∧ n ≤ m := by
  simp [okb, List.all_eq_true]
theorem okb_nil (m : Int) : okb m [] = true := rfl
theorem okb_cons (m a : Int) (t : List Int) : okb m (a :: t) = (decide (0 ≤ a ∧ a ≤ m) && okb m t) := by
  simp [okb, Bool.decide_and]
theorem tot_nonneg {m : Int} {l : List Int} (h : okb m l = true) : 0 ≤ tot l := by
  rw [okb_iff] at h
  induction l with
  | nil => simp [tot]
  | cons a t ih =>
    have := h a (by simp)
    have := ih (fun n hn => h n (by simp [hn]))
    simp only [tot]; omega
theorem tot_le {m : Int} {l : List Int} (h : okb m l = true) : tot l ≤ m * l.length := by
  rw [okb_iff] at h
  induction l with
  | nil => simp [tot]
  | cons a t ih =>
    have h1 := h a (by simp)
    have h2 := ih (fun n hn => h n (by simp [hn]))
    simp only [tot, List.length_cons]
    have : m * ((t.length + 1 : Nat) : Int) = m * t.length + m := by rw [Int.natCast_add, Int.mul_add]; simp
    omega
theorem okb_drop {m : Int} {l : List Int} (h : okb m l = true) (i : Nat) : okb m (l.drop i) = true := by
  rw [okb_iff] at h ⊢; exact fun n hn => h n (List.mem_of_mem_drop hn)
theorem okb_take {m : Int} {l : List Int} (h : okb m l = true) (i : Nat) : okb m (l.take i) = true := by
  rw [okb_iff] at h ⊢; exact fun n hn => h n (List.mem_of_mem_take hn)
/-- n, n + 1, .. -/
def ramp (n : Int) : Nat → List Int
  | 0 => []
  | k + 1 => n :: ramp (n + 1) k
theorem ramp_length (n : Int) (k : Nat) : (ramp n k).length = k := by
  induction k generalizing n with
  | zero => rfl
  | succ k ih => simp [ramp, ih]
theorem idxOut_neg (m : Int) (l : List Int) (d : Nat) : ∀ i, l.length - i = d → (decide (idxOut m l i < 0) = okb m (l.drop i)) := by
  induction d with
  | zero =>
    intro i hi
    rw [idxOut_end m l i (by omega), List.drop_eq_nil_of_le (by omega)]; rfl
  | succ d ih =>
    intro i hi
    have hlt : i < l.length := by omega
    have hd : l.drop i = rd l i :: l.drop (i + 1) := by
      rw [List.drop_eq_getElem_cons hlt, rd_nat, List.getD_eq_getElem?_getD, List.getElem?_eq_getElem hlt]; rfl
    rw [hd, okb_cons]
    cases ho : outB m (rd l i) with
    | true =>
      rw [idxOut_hit m l i hlt ho]
      rw [outB_def] at ho
      have hne : ¬ (0 ≤ rd l i ∧ rd l i ≤ m) := by
        intro h
        simp [show ¬ rd l (i : Int) < 0 from by omega, show ¬ m < rd l (i : Int) from by omega] at ho
      rw [decide_eq_false hne, Bool.false_and]
      exact decide_eq_false (by omega)
    | false =>
      rw [idxOut_next m l i hlt ho, ih (i + 1) (by omega)]
      rw [outB_def] at ho
      have hy : (0 ≤ rd l i ∧ rd l i ≤ m) := by
        simp at ho; omega
      rw [decide_eq_true hy, Bool.true_and]
theorem within_eq (l : List Int) (m : Int) (hl : l.length ≤ 1048576) : impl_within.f l m = some (okb m l) := by
  unfold impl_within.f
  rw [if_pos (by omega), idxOut_neg m l l.length 0 (by omega), List.drop_zero]
/-- Only what is bound is looked into, not what follows. -/
theorem obind_congr {α β : Type} {a b : Option α} {f : α → Option β} (h : a = b) : a.bind f = b.bind f := by rw [h]
theorem toIntS_l0 (l : List Int) (hl : l.length ≤ 1048576) : ∀ (t : List Int) (i k : Nat) (s : List Int), l.drop i = t → t.length < k → i ≤ l.length → s = l.take i ++ List.replicate (l.length - i) 0 →
    laws_toIntS.l0 k l s i = some l := by
  intro t
  induction t with
  | nil =>
    intro i k s hd hk hi hs
    obtain ⟨k, rfl⟩ : ∃ m, k = m + 1 := ⟨k - 1, by simp at hk; omega⟩
    have h := drop_nil_info hd
    have hil : i = l.length := by omega
    rw [laws_toIntS.l0, if_neg h, hs, hil]; simp
  | cons a t ih =>
    intro i k s hd hk hi hs
    obtain ⟨k, rfl⟩ : ∃ m, k = m + 1 := ⟨k - 1, by simp at hk; omega⟩
    obtain ⟨hi', hr, hd'⟩ := drop_cons_info hd
    simp only [List.length_cons] at hk
    have hsl : s.length = l.length := by rw [hs]; simp; omega
    rw [laws_toIntS.l0, if_pos (by omega), if_pos (by omega), if_pos (by omega), w64_i i (by omega), hr]
    refine ih (i + 1) k _ hd' (by omega) (by omega) ?_
    rw [hs, Int.toNat_natCast]
    have ht : l.take (i + 1) = l.take i ++ [a] := by
      rw [List.take_succ_eq_append_getElem hi', ← hr, rd_nat, List.getD_eq_getElem?_getD, List.getElem?_eq_getElem hi']; rfl
    have hlt : (l.take i).length = i := by simp; omega
    rw [ht, List.set_append, if_neg (by omega), hlt, Nat.sub_self, show l.length - i = (l.length - (i + 1)) + 1 from by omega, List.replicate_succ, List.set_cons_zero, List.append_assoc]
    rfl
theorem toIntS_eq (k : Nat) (l : List Int) (hk : 3000000 ≤ k) (hl : l.length ≤ 1048576) : laws_toIntS.f k l = some l := by
  unfold laws_toIntS.f
  rw [if_pos (by omega), if_pos (by omega)]
  exact toIntS_l0 l hl l 0 k _ (by simp) (by omega) (by omega) (by simp)
theorem eqIntS_l0 (a b : List Int) (hl : a.length ≤ 1048576) (hab : a.length = b.length) : ∀ (t u : List Int) (i k : Nat), a.drop i = t → b.drop i = u → t.length < k →
    laws_eqIntS.l0 k a b i = some (decide (t = u)) := by
  intro t
  induction t with
  | nil =>
    intro u i k hd hu hk
    obtain ⟨k, rfl⟩ : ∃ m, k = m + 1 := ⟨k - 1, by simp at hk; omega⟩
    have : u = [] := by rw [← hu]; exact List.drop_eq_nil_of_le (by have := List.drop_eq_nil_iff.1 hd; omega)
    rw [laws_eqIntS.l0, if_neg (drop_nil_info hd), this]; simp
  | cons x t ih =>
    intro u i k hd hu hk
    obtain ⟨k, rfl⟩ : ∃ m, k = m + 1 := ⟨k - 1, by simp at hk; omega⟩
    obtain ⟨hi', hr, hd'⟩ := drop_cons_info hd
    simp only [List.length_cons] at hk
    cases u with
    | nil => have := List.drop_eq_nil_iff.1 hu; omega
    | cons y u =>
      obtain ⟨hj', hr2, hu'⟩ := drop_cons_info hu
      rw [laws_eqIntS.l0, if_pos (by omega), if_pos (by omega), if_pos (by omega), hr, hr2, w64_i i (by omega)]
      by_cases hxy : x = y
      · rw [if_pos hxy, ih u (i + 1) k hd' hu' (by omega)]; simp [hxy]
      · rw [if_neg hxy]; simp [hxy]
theorem eqIntS_eq (k : Nat) (a b : List Int) (hk : 3000000 ≤ k) (hl : a.length ≤ 1048576) : laws_eqIntS.f k a b = some (decide (a = b)) := by
  unfold laws_eqIntS.f
  by_cases h : a.length = b.length
  · rw [if_pos (by omega)]
    have := eqIntS_l0 a b hl h a b 0 k (by simp) (by simp) (by omega)
    simpa using this
  · rw [if_neg (by omega)]
    have : a ≠ b := fun e => h (by rw [e])
    simp [this]
theorem markIntS_l0 (n0 : Nat) (hn : n0 ≤ 1048576) : ∀ (d i k : Nat) (s : List Int) (m : Int), s.length = n0 → d = n0 - i → i ≤ n0 → d < k → 0 ≤ m → m + d ≤ 1152921504606846976 →
    laws_markIntS.l0 k s m i = some (m + d, s.take i ++ ramp m d) := by
  intro d
  induction d with
  | zero =>
    intro i k s m hs hd hi hk h0 h1
    obtain ⟨k, rfl⟩ : ∃ m, k = m + 1 := ⟨k - 1, by omega⟩
    rw [laws_markIntS.l0, if_neg (by omega)]
    simp only [ramp, List.append_nil]
    rw [List.take_of_length_le (by omega)]; simp
  | succ d ih =>
    intro i k s m hs hd hi hk h0 h1
    obtain ⟨k, rfl⟩ : ∃ m, k = m + 1 := ⟨k - 1, by omega⟩
    rw [laws_markIntS.l0, if_pos (by omega), if_pos (by omega), w64_i i (by omega), w64 (by omega) (by omega), Int.toNat_natCast]
    rw [ih (i + 1) k (s.set i m) (m + 1) (by simp [hs]) (by omega) (by omega) (by omega) (by omega) (by omega)]
    have ht : (s.set i m).take (i + 1) = s.take i ++ [m] := by
      rw [List.take_succ_eq_append_getElem (by simp; omega), List.getElem_set_self, List.take_set_of_le (Nat.le_refl _)]
    rw [ht, ramp, List.append_assoc]
    congr 2; omega
theorem markIntS_eq (k : Nat) (l : List Int) (m : Int) (hk : 3000000 ≤ k) (hl : l.length ≤ 1048576) (h0 : 0 ≤ m) (h1 : m ≤ 4611686018427387) : laws_markIntS.f k l m = some (m + l.length, ramp m l.length) := by
  unfold laws_markIntS.f
  have := markIntS_l0 l.length hl l.length 0 k l m rfl (by omega) (by omega) (by omega) h0 (by omega)
  simpa using this
theorem heldIntS_l0 (l : List Int) (hl : l.length ≤ 1048576) : ∀ (d i k : Nat) (m : Int), l.drop i = ramp m d → d < k → 0 ≤ m → m + d ≤ 1152921504606846976 →
    laws_heldIntS.l0 k l m i = some (m + d) := by
  intro d
  induction d with
  | zero =>
    intro i k m hd hk h0 h1
    obtain ⟨k, rfl⟩ : ∃ m, k = m + 1 := ⟨k - 1, by omega⟩
    rw [laws_heldIntS.l0, if_neg (drop_nil_info hd)]; simp
  | succ d ih =>
    intro i k m hd hk h0 h1
    obtain ⟨k, rfl⟩ : ∃ m, k = m + 1 := ⟨k - 1, by omega⟩
    obtain ⟨hi', hr, hd'⟩ := drop_cons_info hd
    rw [laws_heldIntS.l0, if_pos (by omega), if_pos (by omega), if_pos hr, w64_i i (by omega), w64 (by omega) (by omega), ih (i + 1) k (m + 1) hd' (by omega) (by omega) (by omega)]
    congr 1; omega
theorem heldIntS_eq (k : Nat) (n : Nat) (m : Int) (hk : 3000000 ≤ k) (hn : n ≤ 1048576) (h0 : 0 ≤ m) (h1 : m ≤ 4611686018427387) : laws_heldIntS.f k (ramp m n) m = some (m + n) := by
  unfold laws_heldIntS.f
  exact heldIntS_l0 (ramp m n) (by rw [ramp_length]; exact hn) n 0 k m (by simp) (by omega) h0 (by omega)
theorem l1In_eq (a b c : Int) : spec_l1In.f a b c = some (decide (b ≤ a ∧ a ≤ c)) := by
  unfold spec_l1In.f
  by_cases h : b ≤ a
  · rw [if_pos h]; simp [h]
  · rw [if_neg h]; simp [h]
/-- Numbers are lengths. -/
def lenOk (l : List Int) : Bool := decide (l.length ≤ 400) && okb 400 l && decide (tot l ≤ 400)
theorem lenOk_iff {l : List Int} : lenOk l = true ↔ l.length ≤ 400 ∧ okb 400 l = true ∧ tot l ≤ 400 := by simp [lenOk, and_assoc]
/-- Numbers are data. -/
def datOk (l : List Int) : Bool := decide (l.length ≤ 400) && okb 10006 l
theorem datOk_iff {l : List Int} : datOk l = true ↔ l.length ≤ 400 ∧ okb 10006 l = true := by simp [datOk]
theorem okb_le {m m' : Int} {l : List Int} (h : okb m l = true) (hm : m ≤ m') : okb m' l = true := by
  rw [okb_iff] at h ⊢; exact fun n hn => by have := h n hn; omega
def segOk (l d : List Int) : Bool := lenOk l && datOk d && decide (tot l = d.length)
theorem segOk_iff {l d : List Int} : segOk l d = true ↔ lenOk l = true ∧ datOk d = true ∧ tot l = d.length := by simp [segOk, and_assoc]
theorem l3Numbers_l0 (l : List Int) (hl : l.length ≤ 1048576) : ∀ (t : List Int) (i k : Nat), l.drop i = t → t.length < k →
    spec_l3Numbers.l0 k l l.length i = some (okb 10006 t) := by
  intro t
  induction t with
  | nil =>
    intro i k hd hk
    obtain ⟨k, rfl⟩ : ∃ m, k = m + 1 := ⟨k - 1, by simp at hk; omega⟩
    rw [spec_l3Numbers.l0, if_neg (drop_nil_info hd)]; rfl
  | cons a t ih =>
    intro i k hd hk
    obtain ⟨k, rfl⟩ : ∃ m, k = m + 1 := ⟨k - 1, by simp at hk; omega⟩
    obtain ⟨hi, hr, hd'⟩ := drop_cons_info hd
    simp only [List.length_cons] at hk
    rw [spec_l3Numbers.l0, if_pos (by omega), if_pos (by omega), if_pos (by omega), hr, l1In_eq, okb_cons]
    simp only [Option.bind_some]
    by_cases ha : 0 ≤ a ∧ a ≤ 10006
    · rw [if_pos (by simp [ha]), w64_i i (by omega), ih (i + 1) k hd' (by omega)]; simp [ha]
    · rw [if_neg (by simp [ha])]; simp [ha]
theorem l3Numbers_eq (k : Nat) (l : List Int) (hk : 3000000 ≤ k) (hl : l.length ≤ 1048576) : spec_l3Numbers.f k l = some (okb 10006 l) := by
  unfold spec_l3Numbers.f
  exact l3Numbers_l0 l hl l 0 k (by simp) (by omega)
/-- Where segments begin, the first one at s. -/
def startsFrom (s : Int) : List Int → List Int
  | [] => []
  | a :: t => s :: startsFrom (s + a) t
/-- Numbers from i on, as many as d. -/
def ups : List Int → List Int
  | [] => []
  | a :: t => ramp 0 a.toNat ++ ups t
/-- Rounds of a loop within a loop. -/
def cst : List Int → Nat
  | [] => 1
  | a :: t => a.toNat + 2 + cst t
theorem cst_le {m : Int} {l : List Int} (h : okb m l = true) : (cst l : Int) = tot l + 2 * l.length + 1 := by
  rw [okb_iff] at h
  induction l with
  | nil => rfl
  | cons a t ih =>
    have h1 := h a (by simp)
    have h2 := ih (fun n hn => h n (by simp [hn]))
    simp only [cst, tot, List.length_cons]; omega
theorem cst_len {l : List Int} (h : lenOk l = true) : cst l ≤ 1201 := by
  obtain ⟨h1, h2, h3⟩ := lenOk_iff.1 h
  have := cst_le h2; omega
theorem len_append1 {α : Type} (a : List α) (x : α) : (a ++ [x]).length = a.length + 1 := by simp
theorem l4Data_eq (k : Nat) (l : List Int) (hk : 3000000 ≤ k) (hl : l.length ≤ 1048576) : spec_l4Data.f k l = some (datOk l) := by
  unfold spec_l4Data.f
  rw [l3Numbers_eq k l hk hl]
  simp only [Option.bind_some, datOk]
  cases okb 10006 l
  · simp
  · simp; omega
def gatOk (d a : List Int) : Bool := datOk d && (okb (d.length - 1) a && decide (a.length ≤ 400))
def gatV (d a : List Int) : List Int × Bool := if gatOk d a = true then (a.map fun i => rd d i, true) else ([], false)
def staV (l : List Int) : List Int × Bool := if lenOk l = true then (startsFrom 0 l, true) else ([], false)
def upV (l : List Int) : List Int × Bool := if lenOk l = true then (ups l, true) else ([], false)
theorem ramp_succ (m : Int) (d : Nat) : ramp m (d + 1) = m :: ramp (m + 1) d := rfl
theorem startsFrom_length (s : Int) (l : List Int) : (startsFrom s l).length = l.length := by
  induction l generalizing s with
  | nil => rfl
  | cons a t ih => simp [startsFrom, ih]
theorem ups_length {m : Int} {l : List Int} (h : okb m l = true) : ((ups l).length : Int) = tot l := by
  rw [okb_iff] at h
  induction l with
  | nil => rfl
  | cons a t ih =>
    have h1 := h a (by simp)
    have h2 := ih (fun n hn => h n (by simp [hn]))
    simp only [ups, tot, List.length_append, ramp_length]; omega
theorem gatV_len (d a : List Int) : (gatV d a).1.length ≤ 1048576 := by
  unfold gatV; split
  · rename_i h; simp only [gatOk, Bool.and_eq_true, decide_eq_true_eq] at h; simp; omega
  · simp
theorem staV_len (l : List Int) : (staV l).1.length ≤ 1048576 := by
  unfold staV; split
  · rename_i h; have := lenOk_iff.1 h; rw [startsFrom_length]; omega
  · simp
theorem upV_len (l : List Int) : (upV l).1.length ≤ 1048576 := by
  unfold upV; split
  · rename_i h; have := lenOk_iff.1 h; have := ups_length this.2.1; simp only; omega
  · simp
theorem lt0_1 (a : Nat) : ((1 : Int) + a < 0) = False := by simp; omega
theorem lt0_2 (a b : Nat) : ((1 : Int) + a + b < 0) = False := by simp; omega
theorem lt0_3 (a b c : Nat) : ((1 : Int) + a + b + c < 0) = False := by simp; omega
theorem lt0_4 (a b c d : Nat) : ((1 : Int) + a + b + c + d < 0) = False := by simp; omega
/-- How many flags are not 0. -/
def cntN : List Int → Nat
  | [] => 0
  | f :: fs => if f = 0 then cntN fs else cntN fs + 1
/-- What is woven of two lists by flags. -/
def wv : List Int → List Int → List Int → List Int
  | [], _, _ => []
  | f :: fs, a, b => if f = 0 then (match b with | [] => [] | x :: b' => x :: wv fs a b') else (match a with | [] => [] | x :: a' => x :: wv fs a' b)
theorem cntN_le (f : List Int) : cntN f ≤ f.length := by
  induction f with
  | nil => simp [cntN]
  | cons a t ih => rw [cntN]; split <;> simp <;> omega
theorem wv_len (f a b : List Int) : (wv f a b).length ≤ f.length := by
  induction f generalizing a b with
  | nil => simp [wv]
  | cons x t ih =>
    by_cases hx : x = 0
    · cases b with
      | nil => simp [wv, hx]
      | cons y b => simp [wv, hx]; exact ih a b
    · cases a with
      | nil => simp [wv, hx]
      | cons y a => simp [wv, hx]; exact ih a b
def wvOk (f a b : List Int) : Bool := (datOk f && (datOk a && datOk b)) && (decide (cntN f = a.length) && decide (f.length - cntN f = b.length))
def wvV (f a b : List Int) : List Int × Bool := if wvOk f a b = true then (wv f a b, true) else ([], false)
theorem wvOk_iff {f a b : List Int} : wvOk f a b = true ↔ (datOk f = true ∧ datOk a = true ∧ datOk b = true) ∧ cntN f = a.length ∧ f.length - cntN f = b.length := by simp [wvOk]
theorem wvV_len (f a b : List Int) : (wvV f a b).1.length ≤ 1048576 := by
  unfold wvV; split
  · rename_i h; obtain ⟨⟨h1, _, _⟩, _⟩ := wvOk_iff.1 h; have := datOk_iff.1 h1; have := wv_len f a b; simp only; omega
  · simp
theorem weaveGo_eq (f : List Int) : ∀ a b o : List Int, weaveGo f a b o = if cntN f = a.length ∧ f.length - cntN f = b.length then some (o ++ wv f a b) else none := by
  induction f with
  | nil =>
    intro a b o
    cases a <;> cases b <;> simp [weaveGo, cntN, wv]
  | cons x t ih =>
    intro a b o
    have hc := cntN_le t
    by_cases hx : x = 0
    · cases b with
      | nil =>
        rw [if_neg (by simp [cntN, hx]; omega)]
        simp [weaveGo, hx]
      | cons y b =>
        simp only [weaveGo, if_pos hx, ih, cntN, wv, List.length_cons]
        by_cases h : cntN t = a.length ∧ t.length - cntN t = b.length
        · rw [if_pos h, if_pos (by omega)]; simp
        · rw [if_neg h, if_neg (by omega)]
    · cases a with
      | nil =>
        rw [if_neg (by simp [cntN, hx])]
        simp [weaveGo, hx]
      | cons y a =>
        simp only [weaveGo, if_neg hx, ih, cntN, wv, List.length_cons]
        by_cases h : cntN t = a.length ∧ t.length - cntN t = b.length
        · rw [if_pos h, if_pos (by omega)]; simp
        · rw [if_neg h, if_neg (by omega)]
theorem dataB_datOk (l : List Int) : dataB l = datOk l := by
  unfold dataB datOk
  by_cases h : l.length ≤ 400
  · have := idxOut_neg 10006 l l.length 0 rfl
    rw [if_pos (by omega)]
    simp only [List.drop_zero] at this
    simp [h, this]
  · rw [if_neg (by omega)]; simp [h]
theorem impl_Weave_eq (f a b : List Int) : impl_WeaveData.f f a b = some (wvV f a b) := by
  unfold impl_WeaveData.f
  rw [dataB_datOk, dataB_datOk, dataB_datOk, weaveGo_eq]
  congr 1
  cases h1 : datOk f <;> cases h2 : datOk a <;> cases h3 : datOk b <;> simp [wvV, wvOk, h1, h2, h3]
  by_cases h : cntN f = a.length ∧ f.length - cntN f = b.length
  · rw [if_pos h, if_pos h]; rfl
  · rw [if_neg h, if_neg h]; rfl
theorem spec_Weave_l1 (f a b : List Int) (hf : f.length ≤ 400) (hal : a.length ≤ 1048576) (hbl : b.length ≤ 1048576) : ∀ (t : List Int) (i p q k : Nat) (s : List Int), f.drop i = t → t.length < k → s.length = i → p + cntN t = a.length → q + (t.length - cntN t) = b.length →
    spec_WeaveData.l1 k a b s p q f f.length i = some (s ++ wv t (a.drop p) (b.drop q), true) := by
  intro t
  induction t with
  | nil =>
    intro i p q k s hd hk hs hp hq
    obtain ⟨k, rfl⟩ : ∃ m, k = m + 1 := ⟨k - 1, by omega⟩
    rw [spec_WeaveData.l1, if_neg (drop_nil_info hd)]; simp [wv]
  | cons x t ih =>
    intro i p q k s hd hk hs hp hq
    obtain ⟨k, rfl⟩ : ∃ m, k = m + 1 := ⟨k - 1, by omega⟩
    obtain ⟨hi, hr, hd'⟩ := drop_cons_info hd
    have hc := cntN_le t
    simp only [List.length_cons] at hk hq
    rw [spec_WeaveData.l1, if_pos (by omega), if_pos (by omega), if_pos (by omega), hr, w64_i i (by omega)]
    by_cases hx : x = 0
    · simp only [cntN, if_pos hx] at hp hq
      have hq' : q < b.length := by omega
      have hb : b.drop q = rd b (q : Int) :: b.drop (q + 1) := by
        rw [List.drop_eq_getElem_cons hq', rd_nat, List.getD_eq_getElem?_getD, List.getElem?_eq_getElem hq']; rfl
      rw [if_pos hx, if_pos (by omega), if_pos (by omega), if_pos (by omega), w64_i q (by omega), ih (i + 1) p (q + 1) k _ hd' (by omega) (by simp [hs]) hp (by omega), hb]
      simp [wv, hx]
    · simp only [cntN, if_neg hx] at hp hq
      have hp' : p < a.length := by omega
      have ha : a.drop p = rd a (p : Int) :: a.drop (p + 1) := by
        rw [List.drop_eq_getElem_cons hp', rd_nat, List.getD_eq_getElem?_getD, List.getElem?_eq_getElem hp']; rfl
      rw [if_neg hx, if_pos (by omega), if_pos (by omega), if_pos (by omega), w64_i p (by omega), ih (i + 1) (p + 1) q k _ hd' (by omega) (by simp [hs]) (by omega) (by omega), ha]
      simp [wv, hx]
theorem spec_Weave_l0 (f a b : List Int) (hf : f.length ≤ 1048576) (ha : a.length ≤ 1048576) (hb : b.length ≤ 1048576) : ∀ (t : List Int) (i c k : Nat), f.drop i = t → t.length + 3001000 < k → c + cntN t = cntN f →
    spec_WeaveData.l0 k f a b [] c f f.length i = some (wvV f a b) := by
  intro t
  induction t with
  | nil =>
    intro i c k hd hk hc
    obtain ⟨k, rfl⟩ : ∃ m, k = m + 2 := ⟨k - 2, by omega⟩
    simp only [cntN, Nat.add_zero] at hc
    have hcl := cntN_le f
    rw [spec_WeaveData.l0, if_neg (drop_nil_info hd), l4Data_eq (k + 1) f (by omega) hf]
    simp only [Option.bind_some]
    cases h1 : datOk f with
    | false => simp [spec_WeaveData.j1, wvV, wvOk, h1]
    | true =>
      rw [if_pos rfl, l4Data_eq (k + 1) a (by omega) ha]
      simp only [Option.bind_some]
      cases h2 : datOk a with
      | false => simp [spec_WeaveData.j1, wvV, wvOk, h2]
      | true =>
        rw [if_pos rfl, l4Data_eq (k + 1) b (by omega) hb]
        simp only [Option.bind_some]
        cases h3 : datOk b with
        | false => simp [spec_WeaveData.j1, wvV, wvOk, h3]
        | true =>
          rw [if_pos rfl]
          by_cases h4 : cntN f = a.length
          case neg => rw [if_neg (by omega), spec_WeaveData.j1, if_pos rfl]; simp [wvV, wvOk, h4]
          rw [if_pos (by omega), w64 (by omega) (by omega), spec_WeaveData.j1]
          by_cases h5 : f.length - cntN f = b.length
          case neg => rw [if_pos (by simp; omega)]; simp [wvV, wvOk, h5]
          have h6 := (datOk_iff.1 h1).1
          rw [if_neg (by simp; omega)]
          have := spec_Weave_l1 f a b h6 ha hb f 0 0 0 k [] (by simp) (by omega) rfl (by omega) (by omega)
          rw [show ((0 : Nat) : Int) = 0 from rfl] at this
          rw [this]; simp [wvV, wvOk, h1, h2, h3, h4]
          omega
  | cons x t ih =>
    intro i c k hd hk hc
    obtain ⟨k, rfl⟩ : ∃ m, k = m + 1 := ⟨k - 1, by omega⟩
    obtain ⟨hi, hr, hd'⟩ := drop_cons_info hd
    have hcl := cntN_le f
    simp only [List.length_cons] at hk
    rw [spec_WeaveData.l0, if_pos (by omega), if_pos (by omega), if_pos (by omega), hr, w64_i i (by omega)]
    by_cases hx : x = 0
    · simp only [cntN, if_pos hx] at hc
      rw [if_pos hx]; exact ih (i + 1) c k hd' (by omega) hc
    · simp only [cntN, if_neg hx] at hc
      rw [if_neg hx, w64_i c (by omega)]; exact ih (i + 1) (c + 1) k hd' (by omega) (by omega)
theorem spec_Weave_eq (k : Nat) (f a b : List Int) (hk : 4049700 ≤ k) (hf : f.length ≤ 1048576) (ha : a.length ≤ 1048576) (hb : b.length ≤ 1048576) : spec_WeaveData.f k f a b = some (wvV f a b) := by
  unfold spec_WeaveData.f
  have := spec_Weave_l0 f a b hf ha hb f 0 0 k (by simp) (by omega) (by omega)
  simpa using this
end Go.Proofs.Ytifnnehjpgodfaa.We
