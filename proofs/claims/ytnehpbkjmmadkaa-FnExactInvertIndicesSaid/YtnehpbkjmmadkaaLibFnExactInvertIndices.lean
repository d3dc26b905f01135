/-
  Plain lemmas on what the functions compute: lists and numbers alone.
-/
import Derived.Test.YtnehpbkjmmadkaaIi1
import Derived.Test.YtnehpbkjmmadkaaIi2
namespace Go.Proofs.Ytnehpbkjmmadkaa.Ii
open Go.RowKit Go.Proofs.YtnehpbkjmmadkaaW.PrintWords Go.Proofs.YtnehpbkjmmadkaaW.PrintLast Go.Proofs.YtnehpbkjmmadkaaW.PrintMore
set_option linter.unusedVariables false
set_option linter.unusedSimpArgs false
theorem w64 {x : Int} (h0 : -9223372036854775808 ≤ x) (h1 : x ≤ 9223372036854775807) : wrap64 x = x := by unfold wrap64; omega
theorem w64_nat {x : Int} (h0 : 0 ≤ x) (h1 : x ≤ 9223372036854775807) : wrap64 x = x := w64 (by omega) h1
theorem w64_i (i : Nat) (h : i ≤ 9223372036854775806) : wrap64 ((i : Int) + 1) = ((i + 1 : Nat) : Int) := by rw [w64 (by omega) (by omega)]; omega
theorem rd_nat (l : List Int) (i : Nat) : rd l (i : Int) = l.getD i 0 := by simp [rd]
theorem drop_cons_info {l : List Int} {i : Nat} {a : Int} {t : List Int} (h : l.drop i = a :: t) : i < l.length ∧ rd l (i : Int) = a ∧ l.drop (i + 1) = t := by
  have hi : i < l.length := by
    rcases Nat.lt_or_ge i l.length with h1 | h1
    · exact h1
    · rw [List.drop_eq_nil_of_le h1] at h; cases h
  rw [List.drop_eq_getElem_cons hi] at h
  injection h with h1 h2
  refine ⟨hi, ?_, h2⟩
  rw [rd_nat, List.getD_eq_getElem?_getD, List.getElem?_eq_getElem hi]
  exact h1
theorem drop_nil_info {α : Type} {l : List α} {i : Nat} (h : l.drop i = []) : ¬ ((i : Int) < (l.length : Int)) := by
  have := List.drop_eq_nil_iff.1 h
  omega
theorem mn_def (a b : Int) : mn a b = if a ≤ b then a else b := by unfold mn; split <;> split <;> omega
theorem getD_mem {l : List Int} {i : Nat} (h : i < l.length) : l.getD i 0 ∈ l := by
  rw [List.getD_eq_getElem?_getD, List.getElem?_eq_getElem h]; exact List.getElem_mem h
theorem rd_mem {l : List Int} {i : Int} (h0 : 0 ≤ i) (h : i < (l.length : Int)) : rd l i ∈ l := by
  obtain ⟨n, rfl⟩ := Int.eq_ofNat_of_zero_le h0
  rw [rd_nat]; exact getD_mem (by omega)
/-- The sum of numbers. -/
def tot : List Int → Int
  | [] => 0
  | a :: t => a + tot t
theorem tot_append (a b : List Int) : tot (a ++ b) = tot a + tot b := by
  induction a with
  | nil => simp [tot]
  | cons x t ih => simp only [List.cons_append, tot, ih]; omega
/-- All numbers lie from 0 to m. -/
def okb (m : Int) (l : List Int) : Bool := l.all fun n => decide (0 ≤ n) && decide (n ≤ m)
theorem okb_iff {m : Int} {l : List Int} : okb m l = true ↔ ∀ n ∈ l, 0 ≤ n ∧ n ≤ m := by
  simp [okb, List.all_eq_true]
theorem okb_nil (m : Int) : okb m [] = true := rfl
theorem okb_cons (m a : Int) (t : List Int) : okb m (a :: t) = (decide (0 ≤ a ∧ a ≤ m) && okb m t) := by
  simp [okb, Bool.decide_and]
theorem tot_nonneg {m : Int} {l : List Int} (h : okb m l = true) : 0 ≤ tot l := by
  rw [okb_iff] at h
  induction l with
  | nil => simp [tot]
  | cons a t ih =>
    have := h a (by simp)
    have := ih (fun n hn => h n (by simp [hn]))
    simp only [tot]; omega
theorem tot_le {m : Int} {l : List Int} (h : okb m l = true) : tot l ≤ m * l.length := by
  rw [okb_iff] at h
  induction l with
  | nil => simp [tot]
  | cons a t ih =>
    have h1 := h a (by simp)
    have h2 := ih (fun n hn => h n (by simp [hn]))
    simp only [tot, List.length_cons]
    have : m * ((t.length + 1 : Nat) : Int) = m * t.length + m := by rw [Int.natCast_add, Int.mul_add]; simp
    omega
theorem okb_drop {m : Int} {l : List Int} (h : okb m l = true) (i : Nat) : okb m (l.drop i) = true := by
  rw [okb_iff] at h ⊢; exact fun n hn => h n (List.mem_of_mem_drop hn)
theorem okb_take {m : Int} {l : List Int} (h : okb m l = true) (i : Nat) : okb m (l.take i) = true := by
  rw [okb_iff] at h ⊢; exact fun n hn => h n (List.mem_of_mem_take hn)
/-- n, n + 1, .. -/
def ramp (n : Int) : Nat → List Int
  | 0 => []
  | k + 1 => n :: ramp (n + 1) k
theorem ramp_length (n : Int) (k : Nat) : (ramp n k).length = k := by
  induction k generalizing n with
  | zero => rfl
  | succ k ih => simp [ramp, ih]
/-- Only what is bound is looked into, not what follows. -/
theorem obind_congr {α β : Type} {a b : Option α} {f : α → Option β} (h : a = b) : a.bind f = b.bind f := by rw [h]
theorem toIntS_l0 (l : List Int) (hl : l.length ≤ 1048576) : ∀ (t : List Int) (i k : Nat) (s : List Int), l.drop i = t → t.length < k → i ≤ l.length → s = l.take i ++ List.replicate (l.length - i) 0 →
    laws_toIntS.l0 k l s i = some l := by
  intro t
  induction t with
  | nil =>
    intro i k s hd hk hi hs
    obtain ⟨k, rfl⟩ : ∃ m, k = m + 1 := ⟨k - 1, by simp at hk; omega⟩
    have h := drop_nil_info hd
    have hil : i = l.length := by omega
    rw [laws_toIntS.l0, if_neg h, hs, hil]; simp
  | cons a t ih =>
    intro i k s hd hk hi hs
    obtain ⟨k, rfl⟩ : ∃ m, k = m + 1 := ⟨k - 1, by simp at hk; omega⟩
    obtain ⟨hi', hr, hd'⟩ := drop_cons_info hd
    simp only [List.length_cons] at hk
    have hsl : s.length = l.length := by rw [hs]; simp; omega
    rw [laws_toIntS.l0, if_pos (by omega), if_pos (by omega), if_pos (by omega), w64_i i (by omega), hr]
    refine ih (i + 1) k _ hd' (by omega) (by omega) ?_
    rw [hs, Int.toNat_natCast]
    have ht : l.take (i + 1) = l.take i ++ [a] := by
      rw [List.take_succ_eq_append_getElem hi', ← hr, rd_nat, List.getD_eq_getElem?_getD, List.getElem?_eq_getElem hi']; rfl
    have hlt : (l.take i).length = i := by simp; omega
    rw [ht, List.set_append, if_neg (by omega), hlt, Nat.sub_self, show l.length - i = (l.length - (i + 1)) + 1 from by omega, List.replicate_succ, List.set_cons_zero, List.append_assoc]
    rfl
theorem toIntS_eq (k : Nat) (l : List Int) (hk : 3000000 ≤ k) (hl : l.length ≤ 1048576) : laws_toIntS.f k l = some l := by
  unfold laws_toIntS.f
  rw [if_pos (by omega), if_pos (by omega)]
  exact toIntS_l0 l hl l 0 k _ (by simp) (by omega) (by omega) (by simp)
theorem eqIntS_l0 (a b : List Int) (hl : a.length ≤ 1048576) (hab : a.length = b.length) : ∀ (t u : List Int) (i k : Nat), a.drop i = t → b.drop i = u → t.length < k →
    laws_eqIntS.l0 k a b i = some (decide (t = u)) := by
  intro t
  induction t with
  | nil =>
    intro u i k hd hu hk
    obtain ⟨k, rfl⟩ : ∃ m, k = m + 1 := ⟨k - 1, by simp at hk; omega⟩
    have : u = [] := by rw [← hu]; exact List.drop_eq_nil_of_le (by have := List.drop_eq_nil_iff.1 hd; omega)
    rw [laws_eqIntS.l0, if_neg (drop_nil_info hd), this]; simp
  | cons x t ih =>
    intro u i k hd hu hk
    obtain ⟨k, rfl⟩ : ∃ m, k = m + 1 := ⟨k - 1, by simp at hk; omega⟩
    obtain ⟨hi', hr, hd'⟩ := drop_cons_info hd
    simp only [List.length_cons] at hk
    cases u with
    | nil => have := List.drop_eq_nil_iff.1 hu; omega
    | cons y u =>
      obtain ⟨hj', hr2, hu'⟩ := drop_cons_info hu
      rw [laws_eqIntS.l0, if_pos (by omega), if_pos (by omega), if_pos (by omega), hr, hr2, w64_i i (by omega)]
      by_cases hxy : x = y
      · rw [if_pos hxy, ih u (i + 1) k hd' hu' (by omega)]; simp [hxy]
      · rw [if_neg hxy]; simp [hxy]
theorem eqIntS_eq (k : Nat) (a b : List Int) (hk : 3000000 ≤ k) (hl : a.length ≤ 1048576) : laws_eqIntS.f k a b = some (decide (a = b)) := by
  unfold laws_eqIntS.f
  by_cases h : a.length = b.length
  · rw [if_pos (by omega)]
    have := eqIntS_l0 a b hl h a b 0 k (by simp) (by simp) (by omega)
    simpa using this
  · rw [if_neg (by omega)]
    have : a ≠ b := fun e => h (by rw [e])
    simp [this]
theorem markIntS_l0 (n0 : Nat) (hn : n0 ≤ 1048576) : ∀ (d i k : Nat) (s : List Int) (m : Int), s.length = n0 → d = n0 - i → i ≤ n0 → d < k → 0 ≤ m → m + d ≤ 1152921504606846976 →
    laws_markIntS.l0 k s m i = some (m + d, s.take i ++ ramp m d) := by
  intro d
  induction d with
  | zero =>
    intro i k s m hs hd hi hk h0 h1
    obtain ⟨k, rfl⟩ : ∃ m, k = m + 1 := ⟨k - 1, by omega⟩
    rw [laws_markIntS.l0, if_neg (by omega)]
    simp only [ramp, List.append_nil]
    rw [List.take_of_length_le (by omega)]; simp
  | succ d ih =>
    intro i k s m hs hd hi hk h0 h1
    obtain ⟨k, rfl⟩ : ∃ m, k = m + 1 := ⟨k - 1, by omega⟩
    rw [laws_markIntS.l0, if_pos (by omega), if_pos (by omega), w64_i i (by omega), w64 (by omega) (by omega), Int.toNat_natCast]
    rw [ih (i + 1) k (s.set i m) (m + 1) (by simp [hs]) (by omega) (by omega) (by omega) (by omega) (by omega)]
    have ht : (s.set i m).take (i + 1) = s.take i ++ [m] := by
      rw [List.take_succ_eq_append_getElem (by simp; omega), List.getElem_set_self, List.take_set_of_le (Nat.le_refl _)]
    rw [ht, ramp, List.append_assoc]
    congr 2; omega
theorem markIntS_eq (k : Nat) (l : List Int) (m : Int) (hk : 3000000 ≤ k) (hl : l.length ≤ 1048576) (h0 : 0 ≤ m) (h1 : m ≤ 4611686018427387) : laws_markIntS.f k l m = some (m + l.length, ramp m l.length) := by
  unfold laws_markIntS.f
  have := markIntS_l0 l.length hl l.length 0 k l m rfl (by omega) (by omega) (by omega) h0 (by omega)
  simpa using this
theorem heldIntS_l0 (l : List Int) (hl : l.length ≤ 1048576) : ∀ (d i k : Nat) (m : Int), l.drop i = ramp m d → d < k → 0 ≤ m → m + d ≤ 1152921504606846976 →
    laws_heldIntS.l0 k l m i = some (m + d) := by
  intro d
  induction d with
  | zero =>
    intro i k m hd hk h0 h1
    obtain ⟨k, rfl⟩ : ∃ m, k = m + 1 := ⟨k - 1, by omega⟩
    rw [laws_heldIntS.l0, if_neg (drop_nil_info hd)]; simp
  | succ d ih =>
    intro i k m hd hk h0 h1
    obtain ⟨k, rfl⟩ : ∃ m, k = m + 1 := ⟨k - 1, by omega⟩
    obtain ⟨hi', hr, hd'⟩ := drop_cons_info hd
    rw [laws_heldIntS.l0, if_pos (by omega), if_pos (by omega), if_pos hr, w64_i i (by omega), w64 (by omega) (by omega), ih (i + 1) k (m + 1) hd' (by omega) (by omega) (by omega)]
    congr 1; omega
theorem heldIntS_eq (k : Nat) (n : Nat) (m : Int) (hk : 3000000 ≤ k) (hn : n ≤ 1048576) (h0 : 0 ≤ m) (h1 : m ≤ 4611686018427387) : laws_heldIntS.f k (ramp m n) m = some (m + n) := by
  unfold laws_heldIntS.f
  exact heldIntS_l0 (ramp m n) (by rw [ramp_length]; exact hn) n 0 k m (by simp) (by omega) h0 (by omega)
theorem l1In_eq (a b c : Int) : spec_l1In.f a b c = some (decide (b ≤ a ∧ a ≤ c)) := by
  unfold spec_l1In.f
  by_cases h : b ≤ a
  · rw [if_pos h]; simp [h]
  · rw [if_neg h]; simp [h]
/-- Numbers are lengths. -/
def lenOk (l : List Int) : Bool := decide (l.length ≤ 400) && okb 400 l && decide (tot l ≤ 400)
theorem lenOk_iff {l : List Int} : lenOk l = true ↔ l.length ≤ 400 ∧ okb 400 l = true ∧ tot l ≤ 400 := by simp [lenOk, and_assoc]
/-- Numbers are data. -/
def datOk (l : List Int) : Bool := decide (l.length ≤ 400) && okb 10006 l
theorem datOk_iff {l : List Int} : datOk l = true ↔ l.length ≤ 400 ∧ okb 10006 l = true := by simp [datOk]
theorem okb_le {m m' : Int} {l : List Int} (h : okb m l = true) (hm : m ≤ m') : okb m' l = true := by
  rw [okb_iff] at h ⊢; exact fun n hn => by have := h n hn; omega
def segOk (l d : List Int) : Bool := lenOk l && datOk d && decide (tot l = d.length)
theorem segOk_iff {l d : List Int} : segOk l d = true ↔ lenOk l = true ∧ datOk d = true ∧ tot l = d.length := by simp [segOk, and_assoc]
/-- Where segments begin, the first one at s. -/
def startsFrom (s : Int) : List Int → List Int
  | [] => []
  | a :: t => s :: startsFrom (s + a) t
/-- Numbers from i on, as many as d. -/
def ups : List Int → List Int
  | [] => []
  | a :: t => ramp 0 a.toNat ++ ups t
/-- Rounds of a loop within a loop. -/
def cst : List Int → Nat
  | [] => 1
  | a :: t => a.toNat + 2 + cst t
theorem cst_le {m : Int} {l : List Int} (h : okb m l = true) : (cst l : Int) = tot l + 2 * l.length + 1 := by
  rw [okb_iff] at h
  induction l with
  | nil => rfl
  | cons a t ih =>
    have h1 := h a (by simp)
    have h2 := ih (fun n hn => h n (by simp [hn]))
    simp only [cst, tot, List.length_cons]; omega
theorem cst_len {l : List Int} (h : lenOk l = true) : cst l ≤ 1201 := by
  obtain ⟨h1, h2, h3⟩ := lenOk_iff.1 h
  have := cst_le h2; omega
theorem len_append1 {α : Type} (a : List α) (x : α) : (a ++ [x]).length = a.length + 1 := by simp
theorem l4Indices_l0 (x0 l : List Int) (n : Int) (hn : 0 ≤ n) (hn2 : n ≤ 1048576) (hl : l.length ≤ 1048576) : ∀ (t : List Int) (i k : Nat), l.drop i = t → t.length < k →
    spec_l4Indices.l0 k x0 n l l.length i = some (okb (n - 1) t && decide (x0.length ≤ 400)) := by
  intro t
  induction t with
  | nil =>
    intro i k hd hk
    obtain ⟨k, rfl⟩ : ∃ m, k = m + 1 := ⟨k - 1, by simp at hk; omega⟩
    rw [spec_l4Indices.l0, if_neg (drop_nil_info hd)]; simp [okb_nil]; omega
  | cons a t ih =>
    intro i k hd hk
    obtain ⟨k, rfl⟩ : ∃ m, k = m + 1 := ⟨k - 1, by simp at hk; omega⟩
    obtain ⟨hi, hr, hd'⟩ := drop_cons_info hd
    simp only [List.length_cons] at hk
    rw [spec_l4Indices.l0, if_pos (by omega), if_pos (by omega), if_pos (by omega), hr, w64 (x := n - 1) (by omega) (by omega), l1In_eq, okb_cons]
    simp only [Option.bind_some]
    by_cases ha : 0 ≤ a ∧ a ≤ n - 1
    · rw [if_pos (by simp [ha]), w64_i i (by omega), ih (i + 1) k hd' (by omega)]; simp [ha]
    · rw [if_neg (by simp [ha])]; simp [ha]
theorem l4Indices_eq (k : Nat) (l : List Int) (n : Int) (hk : 3000000 ≤ k) (hl : l.length ≤ 1048576) (hn : 0 ≤ n) (hn2 : n ≤ 1048576) : spec_l4Indices.f k l n = some (okb (n - 1) l && decide (l.length ≤ 400)) := by
  unfold spec_l4Indices.f
  exact l4Indices_l0 l l n hn hn2 hl l 0 k (by simp) (by omega)
def gatOk (d a : List Int) : Bool := datOk d && (okb (d.length - 1) a && decide (a.length ≤ 400))
def gatV (d a : List Int) : List Int × Bool := if gatOk d a = true then (a.map fun i => rd d i, true) else ([], false)
def staV (l : List Int) : List Int × Bool := if lenOk l = true then (startsFrom 0 l, true) else ([], false)
def upV (l : List Int) : List Int × Bool := if lenOk l = true then (ups l, true) else ([], false)
theorem ramp_succ (m : Int) (d : Nat) : ramp m (d + 1) = m :: ramp (m + 1) d := rfl
theorem startsFrom_length (s : Int) (l : List Int) : (startsFrom s l).length = l.length := by
  induction l generalizing s with
  | nil => rfl
  | cons a t ih => simp [startsFrom, ih]
theorem ups_length {m : Int} {l : List Int} (h : okb m l = true) : ((ups l).length : Int) = tot l := by
  rw [okb_iff] at h
  induction l with
  | nil => rfl
  | cons a t ih =>
    have h1 := h a (by simp)
    have h2 := ih (fun n hn => h n (by simp [hn]))
    simp only [ups, tot, List.length_append, ramp_length]; omega
theorem gatV_len (d a : List Int) : (gatV d a).1.length ≤ 1048576 := by
  unfold gatV; split
  · rename_i h; simp only [gatOk, Bool.and_eq_true, decide_eq_true_eq] at h; simp; omega
  · simp
theorem staV_len (l : List Int) : (staV l).1.length ≤ 1048576 := by
  unfold staV; split
  · rename_i h; have := lenOk_iff.1 h; rw [startsFrom_length]; omega
  · simp
theorem upV_len (l : List Int) : (upV l).1.length ≤ 1048576 := by
  unfold upV; split
  · rename_i h; have := lenOk_iff.1 h; have := ups_length this.2.1; simp only; omega
  · simp
theorem lt0_1 (a : Nat) : ((1 : Int) + a < 0) = False := by simp; omega
theorem lt0_2 (a b : Nat) : ((1 : Int) + a + b < 0) = False := by simp; omega
theorem lt0_3 (a b c : Nat) : ((1 : Int) + a + b + c < 0) = False := by simp; omega
theorem lt0_4 (a b c d : Nat) : ((1 : Int) + a + b + c + d < 0) = False := by simp; omega
theorem isRamp_iff (s : List Int) : ∀ i : Int, isRamp i s = true ↔ s = ramp i s.length := by
  induction s with
  | nil => intro i; simp [isRamp, ramp]
  | cons a t ih =>
    intro i
    by_cases h : a = i
    · subst h; simp [isRamp, ih, ramp]
    · simp [isRamp, h, ramp]
theorem ramp_mem (n : Nat) : ∀ (i x : Int), x ∈ ramp i n ↔ i ≤ x ∧ x < i + n := by
  induction n with
  | zero => intro i x; simp only [ramp, List.not_mem_nil, false_iff]; omega
  | succ n ih => intro i x; simp only [ramp, List.mem_cons, ih]; omega
theorem ramp_nodup (n : Nat) : ∀ i : Int, (ramp i n).Nodup := by
  induction n with
  | zero => intro i; simp [ramp]
  | succ n ih =>
    intro i
    rw [ramp, List.nodup_cons]
    exact ⟨by rw [ramp_mem]; omega, ih _⟩
theorem up_last (t : List Int) : ∀ b : Int, t.Pairwise (· < ·) → (∀ x ∈ t, b ≤ x) → t ≠ [] → ∃ x ∈ t, b + t.length - 1 ≤ x := by
  induction t with
  | nil => intro b _ _ h; exact absurd rfl h
  | cons a t ih =>
    intro b hp hb _
    rw [List.pairwise_cons] at hp
    have ha := hb a (by simp)
    cases t with
    | nil => exact ⟨a, by simp, by simp; omega⟩
    | cons c u =>
      obtain ⟨x, hx, hle⟩ := ih (a + 1) hp.2 (fun x hx => by have := hp.1 x hx; omega) (by simp)
      exact ⟨x, by simp [hx], by simp only [List.length_cons] at hle ⊢; omega⟩
theorem up_ramp (s : List Int) : ∀ i : Int, s.Pairwise (· < ·) → (∀ x ∈ s, i ≤ x ∧ x < i + s.length) → isRamp i s = true := by
  induction s with
  | nil => intro i _ _; rfl
  | cons a t ih =>
    intro i hp hb
    rw [List.pairwise_cons] at hp
    have ha := hb a (by simp)
    have e : a = i := by
      cases t with
      | nil => simp at ha; omega
      | cons c u =>
        obtain ⟨x, hx, hle⟩ := up_last (c :: u) (a + 1) hp.2 (fun x hx => by have := hp.1 x hx; omega) (by simp)
        have := hb x (by simp [hx])
        simp only [List.length_cons] at *
        omega
    rw [isRamp, if_pos e]
    refine ih (i + 1) hp.2 (fun x hx => ?_)
    have h1 := hp.1 x hx
    have h2 := hb x (by simp [hx])
    simp only [List.length_cons] at h2
    omega
theorem sortedL_perm (l : List Int) : (sortedL l).Perm l := List.mergeSort_perm l _
theorem sortedL_le (l : List Int) : (sortedL l).Pairwise (fun x y => decide (x ≤ y) = true) := List.pairwise_mergeSort (fun a b c h1 h2 => by simp at *; omega) (fun a b => by simp; omega) l
theorem sorted_ramp_iff (l : List Int) : isRamp 0 (sortedL l) = true ↔ okb ((l.length : Int) - 1) l = true ∧ l.Nodup := by
  have hl : (sortedL l).length = l.length := sortedL_length l
  constructor
  · intro h
    rw [isRamp_iff, hl] at h
    have hp := (sortedL_perm l).symm
    rw [h] at hp
    refine ⟨okb_iff.2 fun n hn => ?_, hp.nodup_iff.2 (ramp_nodup _ _)⟩
    have := (ramp_mem _ _ _).1 (hp.mem_iff.1 hn)
    omega
  · rintro ⟨h1, h2⟩
    have hn : (sortedL l).Nodup := (sortedL_perm l).nodup_iff.2 h2
    refine up_ramp _ 0 ?_ (fun x hx => ?_)
    · have h3 := sortedL_le l
      exact (h3.and hn).imp (fun {a b} h => by
        have ha := h.1; have hb := h.2
        simp at ha
        omega)
    · have := okb_iff.1 h1 x ((sortedL_perm l).mem_iff.1 hx)
      rw [hl]; omega
def permV (l : List Int) : Bool := (okb ((l.length : Int) - 1) l && decide (l.length ≤ 400)) && decide l.Nodup
theorem impl_Perm_eq (l : List Int) (hl : l.length ≤ 1048576) : impl_IsPermutation.f l = some (permV l) := by
  unfold impl_IsPermutation.f
  rw [if_pos (by omega)]
  congr 1
  have := sorted_ramp_iff l
  unfold permV
  by_cases h : isRamp 0 (sortedL l) = true
  · obtain ⟨h1, h2⟩ := this.1 h
    rw [if_pos h]; simp [h1, h2]
  · rw [if_neg h]
    by_cases h1 : okb ((l.length : Int) - 1) l = true
    · have h2 : ¬ l.Nodup := fun h2 => h (this.2 ⟨h1, h2⟩)
      simp [h2]
    · simp [h1]
theorem rdOf_nat (l : List Bool) (j : Nat) : rdOf false l (j : Int) = l.getD j false := by simp [rdOf]
theorem spec_Perm_l0 (l : List Int) (hl : l.length ≤ 1048576) (hok : okb ((l.length : Int) - 1) l = true) : ∀ (t : List Int) (i k : Nat) (s : List Bool), l.drop i = t → t.length < k → s.length = l.length → (∀ j : Nat, s.getD j false = true ↔ ((j : Int) ∈ l.take i)) → (l.take i).Nodup →
    spec_IsPermutation.l0 k s l l.length i = some (decide l.Nodup) := by
  intro t
  induction t with
  | nil =>
    intro i k s hd hk hs hf hn
    obtain ⟨k, rfl⟩ : ∃ m, k = m + 1 := ⟨k - 1, by omega⟩
    have hi := List.drop_eq_nil_iff.1 hd
    rw [List.take_of_length_le hi] at hn
    rw [spec_IsPermutation.l0, if_neg (drop_nil_info hd)]; simp [hn]
  | cons a t ih =>
    intro i k s hd hk hs hf hn
    obtain ⟨k, rfl⟩ : ∃ m, k = m + 1 := ⟨k - 1, by omega⟩
    obtain ⟨hi, hr, hd'⟩ := drop_cons_info hd
    have hb := okb_iff.1 hok a (by rw [← hr, rd_nat]; exact getD_mem hi)
    simp only [List.length_cons] at hk
    obtain ⟨q, rfl⟩ := Int.eq_ofNat_of_zero_le hb.1
    have hq : q < l.length := by omega
    have htk : l.take (i + 1) = l.take i ++ [(q : Int)] := by
      rw [List.take_succ_eq_append_getElem hi, ← hr, rd_nat, List.getD_eq_getElem?_getD, List.getElem?_eq_getElem hi]; rfl
    rw [spec_IsPermutation.l0, if_pos (by omega), if_pos (by omega), if_pos (by omega), hr, if_pos (by omega), if_pos (by omega), rdOf_nat]
    by_cases h : s.getD q false = true
    · rw [if_pos h]
      have hm := (hf q).1 h
      have : ¬ l.Nodup := fun hnd => by
        have h2 : l = l.take i ++ ((q : Int) :: t) := by rw [← hd, List.take_append_drop]
        rw [h2, List.nodup_append] at hnd
        exact hnd.2.2 _ hm _ (by simp) rfl
      simp [this]
    · rw [if_neg h, w64_i i (by omega), Int.toNat_natCast]
      have hnm : (q : Int) ∉ l.take i := fun hm => h ((hf q).2 hm)
      refine ih (i + 1) k _ hd' (by omega) (by simp [hs]) (fun j => ?_) ?_
      · rw [htk, List.mem_append, List.getD_eq_getElem?_getD, List.getElem?_set]
        have := hf j
        rw [List.getD_eq_getElem?_getD] at this
        by_cases hj : q = j
        · subst hj; simp [hs, hq]
        · rw [if_neg hj, this]; simp; omega
      · rw [htk, List.nodup_append]
        exact ⟨hn, by simp, fun x hx y hy => by simp at hy; subst hy; exact fun e => hnm (e ▸ hx)⟩
theorem spec_Perm_eq (k : Nat) (l : List Int) (hk : 3000010 ≤ k) (hl : l.length ≤ 1048576) : spec_IsPermutation.f k l = some (decide (okb ((l.length : Int) - 1) l = true ∧ l.length ≤ 400 ∧ l.Nodup)) := by
  unfold spec_IsPermutation.f
  rw [l4Indices_eq k l _ (by omega) hl (by omega) (by omega), Option.bind_some]
  by_cases h : okb ((l.length : Int) - 1) l = true ∧ l.length ≤ 400
  · rw [if_pos (by simp [h.1, h.2]), if_pos (by omega), if_pos (by omega), Int.toNat_natCast]
    have := spec_Perm_l0 l hl h.1 l 0 k (List.replicate l.length false) (by simp) (by omega) (by simp) (fun j => by simp only [List.getD_eq_getElem?_getD, List.getElem?_replicate, List.take_zero, List.not_mem_nil, iff_false]; split <;> simp) (by simp)
    rw [show ((0 : Nat) : Int) = 0 from rfl] at this
    rw [this]; simp [h.1, h.2]
  · rw [if_neg (by simpa using h)]
    have : ¬ (okb ((l.length : Int) - 1) l = true ∧ l.length ≤ 400 ∧ l.Nodup) := fun hh => h ⟨hh.1, hh.2.1⟩
    simp only [this, decide_false]
theorem spec_Perm_eq' (k : Nat) (l : List Int) (hk : 3000010 ≤ k) (hl : l.length ≤ 1048576) : spec_IsPermutation.f k l = some (permV l) := by
  rw [spec_Perm_eq k l hk hl]
  congr 1
  unfold permV
  by_cases h1 : okb ((l.length : Int) - 1) l = true <;> by_cases h2 : l.length ≤ 400 <;> by_cases h3 : l.Nodup <;> simp [h1, h2, h3]
theorem permV_iff {l : List Int} : permV l = true ↔ okb ((l.length : Int) - 1) l = true ∧ l.length ≤ 400 ∧ l.Nodup := by simp [permV, and_assoc]
/-- Numbers laid at their indices. -/
def scat (x : List Int) : Nat → List Int → List Int → List Int
  | _, s, [] => s
  | i, s, a :: t => scat x (i + 1) (s.set a.toNat (rd x (i : Int))) t
theorem scat_len (x : List Int) (t : List Int) : ∀ (i : Nat) (s : List Int), (scat x i s t).length = s.length := by
  induction t with
  | nil => intro i s; rfl
  | cons a t ih => intro i s; rw [scat, ih]; simp
def scOk (x u : List Int) : Bool := datOk x && (permV u && decide (u.length = x.length))
def scV (x u : List Int) : List Int × Bool := if scOk x u = true then (scat x 0 (List.replicate x.length 0) u, true) else ([], false)
theorem scOk_iff {x u : List Int} : scOk x u = true ↔ datOk x = true ∧ permV u = true ∧ u.length = x.length := by simp [scOk]
theorem scV_len (x u : List Int) : (scV x u).1.length ≤ 1048576 := by
  unfold scV; split
  · rename_i h; obtain ⟨h1, _, _⟩ := scOk_iff.1 h; have := datOk_iff.1 h1; rw [scat_len]; simp; omega
  · simp
/-- Each index laid where it points. -/
def invt : Nat → List Int → List Int → List Int
  | _, s, [] => s
  | i, s, a :: t => invt (i + 1) (s.set a.toNat (i : Int)) t
theorem invt_len (t : List Int) : ∀ (i : Nat) (s : List Int), (invt i s t).length = s.length := by
  induction t with
  | nil => intro i s; rfl
  | cons a t ih => intro i s; rw [invt, ih]; simp
def inV (u : List Int) : List Int × Bool := if permV u = true then (invt 0 (List.replicate u.length 0) u, true) else ([], false)
theorem inV_len (u : List Int) : (inV u).1.length ≤ 1048576 := by
  unfold inV; split
  · rename_i h; have := permV_iff.1 h; rw [invt_len]; simp; omega
  · simp
theorem spec_In_l0 (u : List Int) (hu : u.length ≤ 400) (hok : okb ((u.length : Int) - 1) u = true) : ∀ (t : List Int) (i k : Nat) (s : List Int), u.drop i = t → t.length < k → s.length = u.length →
    spec_InvertIndices.l0 k s u u.length i = some (invt i s t, true) := by
  intro t
  induction t with
  | nil =>
    intro i k s hd hk hs
    obtain ⟨k, rfl⟩ : ∃ m, k = m + 1 := ⟨k - 1, by omega⟩
    rw [spec_InvertIndices.l0, if_neg (drop_nil_info hd)]; rfl
  | cons a t ih =>
    intro i k s hd hk hs
    obtain ⟨k, rfl⟩ : ∃ m, k = m + 1 := ⟨k - 1, by omega⟩
    obtain ⟨hi, hr, hd'⟩ := drop_cons_info hd
    have hb := okb_iff.1 hok a (by rw [← hr, rd_nat]; exact getD_mem hi)
    simp only [List.length_cons] at hk
    rw [spec_InvertIndices.l0, if_pos (by omega), if_pos (by omega), if_pos (by omega), hr, if_pos (by omega), if_pos (by omega), w64_i i (by omega), ih (i + 1) k _ hd' (by omega) (by simp [hs])]
    rfl
theorem spec_In_eq (k : Nat) (u : List Int) (hk : 3001000 ≤ k) (hu : u.length ≤ 1048576) : spec_InvertIndices.f k u = some (inV u) := by
  unfold spec_InvertIndices.f
  rw [spec_Perm_eq' k u (by omega) hu, Option.bind_some]
  cases h3 : permV u with
  | false => simp [inV, h3]
  | true =>
    have hp := permV_iff.1 h3
    rw [if_pos rfl, if_pos (by omega), if_pos (by omega), Int.toNat_natCast]
    have := spec_In_l0 u hp.2.1 hp.1 u 0 k (List.replicate u.length 0) (by simp) (by omega) (by simp)
    rw [show ((0 : Nat) : Int) = 0 from rfl] at this
    rw [this]; simp [inV, h3]
theorem impl_In_l0 (u : List Int) (hu : u.length ≤ 400) (hok : okb ((u.length : Int) - 1) u = true) : ∀ (t : List Int) (i k : Nat) (s : List Int), u.drop i = t → t.length < k → s.length = u.length →
    impl_InvertIndices.l0 k s u u.length i = some (invt i s t, true) := by
  intro t
  induction t with
  | nil =>
    intro i k s hd hk hs
    obtain ⟨k, rfl⟩ : ∃ m, k = m + 1 := ⟨k - 1, by omega⟩
    rw [impl_InvertIndices.l0, if_neg (drop_nil_info hd)]; rfl
  | cons a t ih =>
    intro i k s hd hk hs
    obtain ⟨k, rfl⟩ : ∃ m, k = m + 1 := ⟨k - 1, by omega⟩
    obtain ⟨hi, hr, hd'⟩ := drop_cons_info hd
    have hb := okb_iff.1 hok a (by rw [← hr, rd_nat]; exact getD_mem hi)
    simp only [List.length_cons] at hk
    rw [impl_InvertIndices.l0, if_pos (by omega), if_pos (by omega), if_pos (by omega), hr, if_pos (by omega), if_pos (by omega), w64_i i (by omega), ih (i + 1) k _ hd' (by omega) (by simp [hs])]
    rfl
theorem impl_In_eq (k : Nat) (u : List Int) (hk : 3001000 ≤ k) (hu : u.length ≤ 1048576) : impl_InvertIndices.f k u = some (inV u) := by
  unfold impl_InvertIndices.f
  rw [impl_Perm_eq u hu, Option.bind_some]
  cases h3 : permV u with
  | false => simp [inV, h3]
  | true =>
    have hp := permV_iff.1 h3
    rw [if_pos rfl, if_pos (by omega), if_pos (by omega), Int.toNat_natCast]
    have := impl_In_l0 u hp.2.1 hp.1 u 0 k (List.replicate u.length 0) (by simp) (by omega) (by simp)
    rw [show ((0 : Nat) : Int) = 0 from rfl] at this
    rw [this]; simp [inV, h3]
end Go.Proofs.Ytnehpbkjmmadkaa.Ii
