/-
  What gathering, starts, counting up, cutting and packing compute.
-/
import Derived.Test.YtifnnehjpgodfaaPrint2
import Derived.Test.YtifnnehjpgodfaaPrint3
import Derived.Test.YtifnnehjpgodfaaPrint4
import Derived.Test.YtifnnehjpgodfaaLibA
import Derived.Test.YtifnnehjpgodfaaLibB
namespace Go.Proofs.Ytifnnehjpgodfaa.Print
open Go.RowKit Go.Proofs.YtifnnehjpgodfaaW.PrintWords Go.Proofs.YtifnnehjpgodfaaW.PrintLast
set_option linter.unusedVariables false
set_option linter.unusedSimpArgs false
/-- Where segments begin, the first one at s. -/
def startsFrom (s : Int) : List Int → List Int
  | [] => []
  | a :: t => s :: startsFrom (s + a) t
/-- Numbers from i on, as many as d. -/
def ups : List Int → List Int
  | [] => []
  | a :: t => ramp 0 a.toNat ++ ups t
/-- Rounds of a loop within a loop. -/
def cst : List Int → Nat
  | [] => 1
  | a :: t => a.toNat + 2 + cst t
theorem cst_le {m : Int} {l : List Int} (h : okb m l = true) : (cst l : Int) = tot l + 2 * l.length + 1 := by
  rw [okb_iff] at h
  induction l with
  | nil => rfl
  | cons a t ih =>
    have h1 := h a (by simp)
    have h2 := ih (fun n hn => h n (by simp [hn]))
    simp only [cst, tot, List.length_cons]; omega
theorem cst_len {l : List Int} (h : lenOk l = true) : cst l ≤ 1201 := by
  obtain ⟨h1, h2, h3⟩ := lenOk_iff.1 h
  have := cst_le h2; omega
theorem len_append1 {α : Type} (a : List α) (x : α) : (a ++ [x]).length = a.length + 1 := by simp
theorem l4Data_eq (k : Nat) (l : List Int) (hk : 3000000 ≤ k) (hl : l.length ≤ 1048576) : spec_l4Data.f k l = some (datOk l) := by
  unfold spec_l4Data.f
  rw [l3Numbers_eq k l hk hl]
  simp only [Option.bind_some, datOk]
  cases okb 10006 l
  · simp
  · simp; omega
theorem l4Indices_l0 (x0 l : List Int) (n : Int) (hn : 0 ≤ n) (hn2 : n ≤ 1048576) (hl : l.length ≤ 1048576) : ∀ (t : List Int) (i k : Nat), l.drop i = t → t.length < k →
    spec_l4Indices.l0 k x0 n l l.length i = some (okb (n - 1) t && decide (x0.length ≤ 400)) := by
  intro t
  induction t with
  | nil =>
    intro i k hd hk
    obtain ⟨k, rfl⟩ : ∃ m, k = m + 1 := ⟨k - 1, by simp at hk; omega⟩
    rw [spec_l4Indices.l0, if_neg (drop_nil_info hd)]; simp [okb_nil]; omega
  | cons a t ih =>
    intro i k hd hk
    obtain ⟨k, rfl⟩ : ∃ m, k = m + 1 := ⟨k - 1, by simp at hk; omega⟩
    obtain ⟨hi, hr, hd'⟩ := drop_cons_info hd
    simp only [List.length_cons] at hk
    rw [spec_l4Indices.l0, if_pos (by omega), if_pos (by omega), if_pos (by omega), hr, w64 (x := n - 1) (by omega) (by omega), l1In_eq, okb_cons]
    simp only [Option.bind_some]
    by_cases ha : 0 ≤ a ∧ a ≤ n - 1
    · rw [if_pos (by simp [ha]), w64_i i (by omega), ih (i + 1) k hd' (by omega)]; simp [ha]
    · rw [if_neg (by simp [ha])]; simp [ha]
theorem l4Indices_eq (k : Nat) (l : List Int) (n : Int) (hk : 3000000 ≤ k) (hl : l.length ≤ 1048576) (hn : 0 ≤ n) (hn2 : n ≤ 1048576) : spec_l4Indices.f k l n = some (okb (n - 1) l && decide (l.length ≤ 400)) := by
  unfold spec_l4Indices.f
  exact l4Indices_l0 l l n hn hn2 hl l 0 k (by simp) (by omega)
def gatOk (d a : List Int) : Bool := datOk d && (okb (d.length - 1) a && decide (a.length ≤ 400))
def gatV (d a : List Int) : List Int × Bool := if gatOk d a = true then (a.map fun i => rd d i, true) else ([], false)
theorem spec_Gather_l0 (d l : List Int) (hl : l.length ≤ 400) (hok : okb ((d.length : Int) - 1) l = true) : ∀ (t : List Int) (i k : Nat) (s : List Int), l.drop i = t → t.length < k → s.length = i →
    spec_GatherData.l0 k d s l l.length i = some (s ++ t.map (fun i => rd d i), true) := by
  intro t
  induction t with
  | nil =>
    intro i k s hd hk hs
    obtain ⟨k, rfl⟩ : ∃ m, k = m + 1 := ⟨k - 1, by simp at hk; omega⟩
    rw [spec_GatherData.l0, if_neg (drop_nil_info hd)]; simp
  | cons a t ih =>
    intro i k s hd hk hs
    obtain ⟨k, rfl⟩ : ∃ m, k = m + 1 := ⟨k - 1, by simp at hk; omega⟩
    obtain ⟨hi, hr, hd'⟩ := drop_cons_info hd
    have hb := okb_iff.1 hok a (by rw [← hr, rd_nat]; exact getD_mem hi)
    simp only [List.length_cons] at hk
    rw [spec_GatherData.l0, if_pos (by omega), if_pos (by omega), if_pos (by omega), hr, if_pos (by omega), if_pos (by omega), if_pos (by omega), w64_i i (by omega),
      ih (i + 1) k _ hd' (by omega) (by simp [hs])]
    simp
theorem spec_Gather_eq (k : Nat) (d a : List Int) (hk : 3000010 ≤ k) (hd : d.length ≤ 1048576) (ha : a.length ≤ 1048576) : spec_GatherData.f k d a = some (gatV d a) := by
  unfold spec_GatherData.f
  simp only [Option.bind_some]
  rw [l4Data_eq k d (by omega) hd]
  simp only [Option.bind_some]
  obtain ⟨k, rfl⟩ : ∃ m, k = m + 1 := ⟨k - 1, by omega⟩
  cases h1 : datOk d with
  | false => simp [spec_GatherData.j0, gatV, gatOk, h1]
  | true =>
    simp only [if_true]
    rw [l4Indices_eq (k + 1) a d.length (by omega) ha (by omega) (by omega)]
    simp only [Option.bind_some]
    cases h2 : (okb ((d.length : Int) - 1) a && decide (a.length ≤ 400)) with
    | false => simp [spec_GatherData.j0, gatV, gatOk, h1, h2]
    | true =>
      have h3 := h2
      simp only [Bool.and_eq_true, decide_eq_true_eq] at h3
      have := spec_Gather_l0 d a h3.2 h3.1 a 0 k [] (by simp) (by omega) (by simp)
      simp only [spec_GatherData.j0, gatV, gatOk, h1, h2, Bool.not_true, if_neg (show ¬ (false = true) by decide), Bool.true_and, if_true]
      rw [show ((0 : Int)) = ((0 : Nat) : Int) from rfl, this]; simp
theorem impl_Gather_l0 (d l : List Int) (hl : l.length ≤ 400) (hok : okb ((d.length : Int) - 1) l = true) : ∀ (t : List Int) (i k : Nat) (s : List Int), l.drop i = t → t.length < k → s.length = i →
    impl_GatherData.l0 k d s l l.length i = some (s ++ t.map (fun i => rd d i), true) := by
  intro t
  induction t with
  | nil =>
    intro i k s hd hk hs
    obtain ⟨k, rfl⟩ : ∃ m, k = m + 1 := ⟨k - 1, by simp at hk; omega⟩
    rw [impl_GatherData.l0, if_neg (drop_nil_info hd)]; simp
  | cons a t ih =>
    intro i k s hd hk hs
    obtain ⟨k, rfl⟩ : ∃ m, k = m + 1 := ⟨k - 1, by simp at hk; omega⟩
    obtain ⟨hi, hr, hd'⟩ := drop_cons_info hd
    have hb := okb_iff.1 hok a (by rw [← hr, rd_nat]; exact getD_mem hi)
    simp only [List.length_cons] at hk
    rw [impl_GatherData.l0, if_pos (by omega), if_pos (by omega), if_pos (by omega), hr, if_pos (by omega), if_pos (by omega), if_pos (by omega), w64_i i (by omega),
      ih (i + 1) k _ hd' (by omega) (by simp [hs])]
    simp
theorem impl_Gather_eq (k : Nat) (d a : List Int) (hk : 3000010 ≤ k) (hd : d.length ≤ 1048576) (ha : a.length ≤ 1048576) : impl_GatherData.f k d a = some (gatV d a) := by
  unfold impl_GatherData.f
  rw [dataOk_eq d hd]
  simp only [Option.bind_some]
  obtain ⟨k, rfl⟩ : ∃ m, k = m + 1 := ⟨k - 1, by omega⟩
  cases h1 : datOk d with
  | false => simp [impl_GatherData.j0, gatV, gatOk, h1]
  | true =>
    simp only [if_true]
    by_cases h4 : a.length ≤ 400
    · rw [if_neg (by omega), w64 (by omega) (by omega), within_eq a _ ha]
      simp only [Option.bind_some]
      cases h2 : okb ((d.length : Int) - 1) a with
      | false => simp [impl_GatherData.j0, gatV, gatOk, h1, h2]
      | true =>
        have := impl_Gather_l0 d a h4 h2 a 0 k [] (by simp) (by omega) (by simp)
        simp only [impl_GatherData.j0, gatV, gatOk, h1, h2, h4, decide_true, Bool.not_true, if_neg (show ¬ (false = true) by decide), Bool.true_and, if_true]
        rw [show ((0 : Int)) = ((0 : Nat) : Int) from rfl, this]; simp
    · rw [if_pos (by omega)]
      simp [impl_GatherData.j0, gatV, gatOk, h1, h4]
def staV (l : List Int) : List Int × Bool := if lenOk l = true then (startsFrom 0 l, true) else ([], false)
theorem l3Starts_l0 (l : List Int) (hl : l.length ≤ 400) (hok : okb 400 l = true) : ∀ (t : List Int) (i k : Nat) (s : List Int) (c : Int), l.drop i = t → t.length < k → s.length = i → 0 ≤ c → c ≤ 400 * i →
    spec_l3Starts.l0 k s c l l.length i = some (s ++ startsFrom c t) := by
  intro t
  induction t with
  | nil =>
    intro i k s c hd hk hs h0 h1
    obtain ⟨k, rfl⟩ : ∃ m, k = m + 1 := ⟨k - 1, by simp at hk; omega⟩
    rw [spec_l3Starts.l0, if_neg (drop_nil_info hd)]; simp [startsFrom]
  | cons a t ih =>
    intro i k s c hd hk hs h0 h1
    obtain ⟨k, rfl⟩ : ∃ m, k = m + 1 := ⟨k - 1, by simp at hk; omega⟩
    obtain ⟨hi, hr, hd'⟩ := drop_cons_info hd
    have hb := okb_iff.1 hok a (by rw [← hr, rd_nat]; exact getD_mem hi)
    simp only [List.length_cons] at hk
    rw [spec_l3Starts.l0, if_pos (by omega), if_pos (by omega), if_pos (by omega), if_pos (by omega), hr, w64 (by omega) (by omega), w64_i i (by omega),
      ih (i + 1) k _ (c + a) hd' (by omega) (by simp [hs]) (by omega) (by omega)]
    simp [startsFrom]
theorem l3Starts_eq (k : Nat) (l : List Int) (hk : 3000000 ≤ k) (h : lenOk l = true) : spec_l3Starts.f k l = some (startsFrom 0 l) := by
  obtain ⟨h1, h2, h3⟩ := lenOk_iff.1 h
  unfold spec_l3Starts.f
  have := l3Starts_l0 l h1 h2 l 0 k [] 0 (by simp) (by omega) (by simp) (by omega) (by omega)
  simpa using this
theorem spec_Starts_eq (k : Nat) (l : List Int) (hk : 3000000 ≤ k) (hl : l.length ≤ 1048576) : spec_StartsOf.f k l = some (staV l) := by
  unfold spec_StartsOf.f
  rw [l3Lengths_eq k l hk hl]
  simp only [Option.bind_some]
  cases h : lenOk l with
  | false => simp [staV, h]
  | true => rw [if_pos rfl, l3Starts_eq k l hk h]; simp [staV, h]
theorem impl_Starts_l0 (l : List Int) (hl : l.length ≤ 400) (hok : okb 400 l = true) : ∀ (t : List Int) (i k : Nat) (s : List Int) (c : Int), l.drop i = t → t.length < k → s.length = i → 0 ≤ c → c ≤ 400 * i →
    impl_StartsOf.l0 k s c l l.length i = some (s ++ startsFrom c t, true) := by
  intro t
  induction t with
  | nil =>
    intro i k s c hd hk hs h0 h1
    obtain ⟨k, rfl⟩ : ∃ m, k = m + 1 := ⟨k - 1, by simp at hk; omega⟩
    rw [impl_StartsOf.l0, if_neg (drop_nil_info hd)]; simp [startsFrom]
  | cons a t ih =>
    intro i k s c hd hk hs h0 h1
    obtain ⟨k, rfl⟩ : ∃ m, k = m + 1 := ⟨k - 1, by simp at hk; omega⟩
    obtain ⟨hi, hr, hd'⟩ := drop_cons_info hd
    have hb := okb_iff.1 hok a (by rw [← hr, rd_nat]; exact getD_mem hi)
    simp only [List.length_cons] at hk
    rw [impl_StartsOf.l0, if_pos (by omega), if_pos (by omega), if_pos (by omega), if_pos (by omega), hr, w64 (by omega) (by omega), w64_i i (by omega),
      ih (i + 1) k _ (c + a) hd' (by omega) (by simp [hs]) (by omega) (by omega)]
    simp [startsFrom]
theorem impl_Starts_eq (k : Nat) (l : List Int) (hk : 3000000 ≤ k) (hl : l.length ≤ 1048576) : impl_StartsOf.f k l = some (staV l) := by
  unfold impl_StartsOf.f
  rw [lengthsOk_eq k l hk hl]
  simp only [Option.bind_some]
  cases h : lenOk l with
  | false => simp [staV, h]
  | true =>
    obtain ⟨h1, h2, h3⟩ := lenOk_iff.1 h
    have := impl_Starts_l0 l h1 h2 l 0 k [] 0 (by simp) (by omega) (by simp) (by omega) (by omega)
    rw [if_pos rfl]
    simp only [staV, h, if_true]
    simpa using this
def upV (l : List Int) : List Int × Bool := if lenOk l = true then (ups l, true) else ([], false)
theorem ramp_succ (m : Int) (d : Nat) : ramp m (d + 1) = m :: ramp (m + 1) d := rfl
theorem l3Up_l1 {i : Nat} (l : List Int) (hl : l.length ≤ 400) (hok : okb 400 l = true)
    (ih : ∀ (k : Nat) (s : List Int), cst (l.drop (i + 1)) < k → s.length ≤ 400 * (i + 1) → spec_l3Up.l0 k s l l.length ((i + 1 : Nat) : Int) = some (s ++ ups (l.drop (i + 1)))) (hi : i < l.length) (n : Nat) (hn : n ≤ 400) :
    ∀ (d j k : Nat) (s : List Int), d = n - j → j ≤ n → d + 1 + cst (l.drop (i + 1)) < k → s.length ≤ 400 * i + j → spec_l3Up.l1 k s l l.length i n j = some (s ++ (ramp j d ++ ups (l.drop (i + 1)))) := by
  intro d
  induction d with
  | zero =>
    intro j k s hd hj hk hs
    obtain ⟨k, rfl⟩ : ∃ m, k = m + 1 := ⟨k - 1, by omega⟩
    rw [spec_l3Up.l1, if_neg (by omega), w64_i i (by omega), ih k s (by omega) (by omega)]; simp [ramp]
  | succ d ih2 =>
    intro j k s hd hj hk hs
    obtain ⟨k, rfl⟩ : ∃ m, k = m + 1 := ⟨k - 1, by omega⟩
    rw [spec_l3Up.l1, if_pos (by omega), if_pos (by omega), w64_i j (by omega), ih2 (j + 1) k _ (by omega) (by omega) (by omega) (by rw [len_append1]; omega)]
    rw [ramp_succ]; simp
theorem l3Up_l0 (l : List Int) (hl : l.length ≤ 400) (hok : okb 400 l = true) : ∀ (t : List Int) (i k : Nat) (s : List Int), l.drop i = t → cst t < k → s.length ≤ 400 * i →
    spec_l3Up.l0 k s l l.length i = some (s ++ ups t) := by
  intro t
  induction t with
  | nil =>
    intro i k s hd hk hs
    obtain ⟨k, rfl⟩ : ∃ m, k = m + 1 := ⟨k - 1, by simp only [cst] at hk; omega⟩
    rw [spec_l3Up.l0, if_neg (drop_nil_info hd)]; simp [ups]
  | cons a t ih =>
    intro i k s hd hk hs
    obtain ⟨k, rfl⟩ : ∃ m, k = m + 1 := ⟨k - 1, by simp only [cst] at hk; omega⟩
    obtain ⟨hi, hr, hd'⟩ := drop_cons_info hd
    have hb := okb_iff.1 hok a (by rw [← hr, rd_nat]; exact getD_mem hi)
    simp only [cst] at hk
    rw [spec_l3Up.l0, if_pos (by omega), if_pos (by omega), if_pos (by omega), hr]
    have := l3Up_l1 (i := i) l hl hok (fun k s h1 h2 => by rw [hd'] at h1 ⊢; exact ih (i + 1) k s hd' h1 h2) hi a.toNat (by omega) a.toNat 0 k s (by omega) (by omega) (by rw [hd']; omega) (by omega)
    rw [Int.toNat_of_nonneg hb.1, hd'] at this
    simpa [ups] using this
theorem l3Up_eq (k : Nat) (l : List Int) (hk : 3000000 ≤ k) (h : lenOk l = true) : spec_l3Up.f k l = some (ups l) := by
  have hc := cst_len h
  obtain ⟨h1, h2, h3⟩ := lenOk_iff.1 h
  unfold spec_l3Up.f
  have := l3Up_l0 l h1 h2 l 0 k [] (by simp) (by omega) (by simp)
  simpa using this
theorem spec_Up_eq (k : Nat) (l : List Int) (hk : 3000000 ≤ k) (hl : l.length ≤ 1048576) : spec_CountUp.f k l = some (upV l) := by
  unfold spec_CountUp.f
  rw [l3Lengths_eq k l hk hl]
  simp only [Option.bind_some]
  cases h : lenOk l with
  | false => simp [upV, h]
  | true => rw [if_pos rfl, l3Up_eq k l hk h]; simp [upV, h]
theorem impl_Up_l1 {i : Nat} (l : List Int) (hl : l.length ≤ 400) (hok : okb 400 l = true)
    (ih : ∀ (k : Nat) (s : List Int), cst (l.drop (i + 1)) < k → s.length ≤ 400 * (i + 1) → impl_CountUp.l0 k s l l.length ((i + 1 : Nat) : Int) = some (s ++ ups (l.drop (i + 1)), true)) (hi : i < l.length) (n : Nat) (hn : n ≤ 400) :
    ∀ (d j k : Nat) (s : List Int), d = n - j → j ≤ n → d + 1 + cst (l.drop (i + 1)) < k → s.length ≤ 400 * i + j → impl_CountUp.l1 k s l l.length i n j = some (s ++ (ramp j d ++ ups (l.drop (i + 1))), true) := by
  intro d
  induction d with
  | zero =>
    intro j k s hd hj hk hs
    obtain ⟨k, rfl⟩ : ∃ m, k = m + 1 := ⟨k - 1, by omega⟩
    rw [impl_CountUp.l1, if_neg (by omega), w64_i i (by omega), ih k s (by omega) (by omega)]; simp [ramp]
  | succ d ih2 =>
    intro j k s hd hj hk hs
    obtain ⟨k, rfl⟩ : ∃ m, k = m + 1 := ⟨k - 1, by omega⟩
    rw [impl_CountUp.l1, if_pos (by omega), if_pos (by omega), w64_i j (by omega), ih2 (j + 1) k _ (by omega) (by omega) (by omega) (by rw [len_append1]; omega)]
    rw [ramp_succ]; simp
theorem impl_Up_l0 (l : List Int) (hl : l.length ≤ 400) (hok : okb 400 l = true) : ∀ (t : List Int) (i k : Nat) (s : List Int), l.drop i = t → cst t < k → s.length ≤ 400 * i →
    impl_CountUp.l0 k s l l.length i = some (s ++ ups t, true) := by
  intro t
  induction t with
  | nil =>
    intro i k s hd hk hs
    obtain ⟨k, rfl⟩ : ∃ m, k = m + 1 := ⟨k - 1, by simp only [cst] at hk; omega⟩
    rw [impl_CountUp.l0, if_neg (drop_nil_info hd)]; simp [ups]
  | cons a t ih =>
    intro i k s hd hk hs
    obtain ⟨k, rfl⟩ : ∃ m, k = m + 1 := ⟨k - 1, by simp only [cst] at hk; omega⟩
    obtain ⟨hi, hr, hd'⟩ := drop_cons_info hd
    have hb := okb_iff.1 hok a (by rw [← hr, rd_nat]; exact getD_mem hi)
    simp only [cst] at hk
    rw [impl_CountUp.l0, if_pos (by omega), if_pos (by omega), if_pos (by omega), hr]
    have := impl_Up_l1 (i := i) l hl hok (fun k s h1 h2 => by rw [hd'] at h1 ⊢; exact ih (i + 1) k s hd' h1 h2) hi a.toNat (by omega) a.toNat 0 k s (by omega) (by omega) (by rw [hd']; omega) (by omega)
    rw [Int.toNat_of_nonneg hb.1, hd'] at this
    simpa [ups] using this
theorem impl_Up_eq (k : Nat) (l : List Int) (hk : 3000000 ≤ k) (hl : l.length ≤ 1048576) : impl_CountUp.f k l = some (upV l) := by
  unfold impl_CountUp.f
  rw [lengthsOk_eq k l hk hl]
  simp only [Option.bind_some]
  cases h : lenOk l with
  | false => simp [upV, h]
  | true =>
    have hc := cst_len h
    obtain ⟨h1, h2, h3⟩ := lenOk_iff.1 h
    have := impl_Up_l0 l h1 h2 l 0 k [] (by simp) (by omega) (by simp)
    rw [if_pos rfl]
    simp only [upV, h, if_true]
    simpa using this
theorem startsFrom_length (s : Int) (l : List Int) : (startsFrom s l).length = l.length := by
  induction l generalizing s with
  | nil => rfl
  | cons a t ih => simp [startsFrom, ih]
theorem ups_length {m : Int} {l : List Int} (h : okb m l = true) : ((ups l).length : Int) = tot l := by
  rw [okb_iff] at h
  induction l with
  | nil => rfl
  | cons a t ih =>
    have h1 := h a (by simp)
    have h2 := ih (fun n hn => h n (by simp [hn]))
    simp only [ups, tot, List.length_append, ramp_length]; omega
theorem gatV_len (d a : List Int) : (gatV d a).1.length ≤ 1048576 := by
  unfold gatV; split
  · rename_i h; simp only [gatOk, Bool.and_eq_true, decide_eq_true_eq] at h; simp; omega
  · simp
theorem staV_len (l : List Int) : (staV l).1.length ≤ 1048576 := by
  unfold staV; split
  · rename_i h; have := lenOk_iff.1 h; rw [startsFrom_length]; omega
  · simp
theorem upV_len (l : List Int) : (upV l).1.length ≤ 1048576 := by
  unfold upV; split
  · rename_i h; have := lenOk_iff.1 h; have := ups_length this.2.1; simp only; omega
  · simp
theorem lt0_1 (a : Nat) : ((1 : Int) + a < 0) = False := by simp; omega
theorem lt0_2 (a b : Nat) : ((1 : Int) + a + b < 0) = False := by simp; omega
theorem lt0_3 (a b c : Nat) : ((1 : Int) + a + b + c < 0) = False := by simp; omega
theorem lt0_4 (a b c d : Nat) : ((1 : Int) + a + b + c + d < 0) = False := by simp; omega
end Go.Proofs.Ytifnnehjpgodfaa.Print
