/-
  What spreading values and turning segments round compute.
-/
import Derived.Test.YtifnnehjpgodfaaPrint10
import Derived.Test.YtifnnehjpgodfaaPrint11
import Derived.Test.YtifnnehjpgodfaaLibA
import Derived.Test.YtifnnehjpgodfaaLibB
import Derived.Test.YtifnnehjpgodfaaLibC
namespace Go.Proofs.Ytifnnehjpgodfaa.Print
open Go.RowKit Go.Proofs.YtifnnehjpgodfaaW.PrintWords Go.Proofs.YtifnnehjpgodfaaW.PrintLast
set_option linter.unusedVariables false
set_option linter.unusedSimpArgs false
/-- Each value as often as its length says. -/
def spr : List Int → List Int → List Int
  | a :: t, x :: u => List.replicate a.toNat x ++ spr t u
  | _, _ => []
def sprOk (l v : List Int) : Bool := lenOk l && (decide (v.length = l.length) && okb 10006 v)
def sprV (l v : List Int) : List Int × Bool := if sprOk l v = true then (spr l v, true) else ([], false)
theorem sprOk_iff {l v : List Int} : sprOk l v = true ↔ lenOk l = true ∧ v.length = l.length ∧ okb 10006 v = true := by simp [sprOk]
theorem spr_length {m : Int} {l v : List Int} (h : okb m l = true) (hv : v.length = l.length) : ((spr l v).length : Int) = tot l := by
  induction l generalizing v with
  | nil => simp [spr, tot]
  | cons a t ih =>
    cases v with
    | nil => simp at hv
    | cons x u =>
      rw [okb_cons] at h
      simp only [Bool.and_eq_true, decide_eq_true_eq] at h
      have := ih h.2 (by simpa using hv)
      simp only [spr, List.length_append, List.length_replicate, tot]; omega
theorem sprV_len (l v : List Int) : (sprV l v).1.length ≤ 1048576 := by
  unfold sprV; split
  · rename_i h; obtain ⟨h1, h2, h3⟩ := sprOk_iff.1 h; have := lenOk_iff.1 h1; have := spr_length this.2.1 h2; simp only; omega
  · simp
theorem l3Spread_l1 {i : Nat} (l v : List Int) (hl : l.length ≤ 400) (hv : v.length = l.length) (hi : i < l.length) (c : Nat) (R : List Int) (n : Nat) (hn : n ≤ 400) (x : Int) (hx : rd v (i : Int) = x)
    (ih : ∀ (k : Nat) (s : List Int), c < k → s.length ≤ 400 * (i + 1) → spec_l3Spread.l0 k v s l l.length ((i + 1 : Nat) : Int) = some (s ++ R)) :
    ∀ (d j k : Nat) (s : List Int), d = n - j → j ≤ n → d + 1 + c < k → s.length ≤ 400 * i + j → spec_l3Spread.l1 k v s i l l.length i n j = some (s ++ (List.replicate d x ++ R)) := by
  intro d
  induction d with
  | zero =>
    intro j k s hd hj hk hs
    obtain ⟨k, rfl⟩ : ∃ m, k = m + 1 := ⟨k - 1, by omega⟩
    rw [spec_l3Spread.l1, if_neg (by omega), w64_i i (by omega), ih k s (by omega) (by omega)]; simp
  | succ d ih2 =>
    intro j k s hd hj hk hs
    obtain ⟨k, rfl⟩ : ∃ m, k = m + 1 := ⟨k - 1, by omega⟩
    rw [spec_l3Spread.l1, if_pos (by omega), if_pos (by omega), if_pos (by omega), if_pos (by omega), hx, w64_i j (by omega), ih2 (j + 1) k _ (by omega) (by omega) (by omega) (by simp; omega)]
    rw [List.replicate_succ]; simp
theorem l3Spread_l0 (l v : List Int) (hl : l.length ≤ 400) (hv : v.length = l.length) (hok : okb 400 l = true) : ∀ (t u : List Int) (i k : Nat) (s : List Int), l.drop i = t → v.drop i = u → cst t < k → s.length ≤ 400 * i →
    spec_l3Spread.l0 k v s l l.length i = some (s ++ spr t u) := by
  intro t
  induction t with
  | nil =>
    intro u i k s hd hu hk hs
    obtain ⟨k, rfl⟩ : ∃ m, k = m + 1 := ⟨k - 1, by simp only [cst] at hk; omega⟩
    rw [spec_l3Spread.l0, if_neg (drop_nil_info hd)]; simp [spr]
  | cons a t ih =>
    intro u i k s hd hu hk hs
    simp only [cst] at hk
    obtain ⟨k, rfl⟩ : ∃ m, k = m + 1 := ⟨k - 1, by omega⟩
    obtain ⟨hi, hr, hd'⟩ := drop_cons_info hd
    have hb := okb_iff.1 hok a (by rw [← hr, rd_nat]; exact getD_mem hi)
    cases u with
    | nil => have := List.drop_eq_nil_iff.1 hu; omega
    | cons x u =>
      obtain ⟨hj, hr2, hu'⟩ := drop_cons_info hu
      obtain ⟨n, rfl⟩ := Int.eq_ofNat_of_zero_le hb.1
      rw [spec_l3Spread.l0, if_pos (by omega), if_pos (by omega), if_pos (by omega), hr]
      have := l3Spread_l1 (i := i) l v hl hv hi (cst t) (spr t u) n (by omega) x hr2 (fun k s h1 h2 => ih u (i + 1) k s hd' hu' h1 h2) n 0 k s (by omega) (by omega) (by simp at hk; omega) (by omega)
      rw [show ((0 : Nat) : Int) = 0 from rfl] at this
      rw [this]; simp [spr]
theorem spec_Spread_eq (k : Nat) (l v : List Int) (hk : 3001000 ≤ k) (hl : l.length ≤ 1048576) (hv : v.length ≤ 1048576) : spec_SpreadValues.f k l v = some (sprV l v) := by
  unfold spec_SpreadValues.f
  rw [l3Lengths_eq k l (by omega) hl]
  simp only [Option.bind_some]
  cases h1 : lenOk l with
  | false => simp [sprV, sprOk, h1]
  | true =>
    have hl1 := lenOk_iff.1 h1
    simp only [if_true]
    by_cases h2 : v.length = l.length
    · rw [if_pos (by omega), l3Numbers_eq k v (by omega) hv]
      simp only [Option.bind_some]
      cases h3 : okb 10006 v with
      | false => simp [sprV, sprOk, h3]
      | true =>
        have hc := cst_len h1
        have := l3Spread_l0 l v hl1.1 h2 hl1.2.1 l v 0 k [] (by simp) (by simp) (by omega) (by simp)
        unfold spec_l3Spread.f
        rw [show ((0 : Nat) : Int) = 0 from rfl] at this
        rw [if_pos rfl, this]; simp [sprV, sprOk, h1, h2, h3]
    · rw [if_neg (by omega)]; simp [sprV, sprOk, h2]
theorem impl_Spread_l0 (l v : List Int) (hl : l.length ≤ 400) (hv : v.length = l.length) (hok : okb 400 l = true) : ∀ (t u : List Int) (i k : Nat) (s : List Int), l.drop i = t → v.drop i = u → t.length < k → s.length ≤ 400 * i →
    impl_SpreadValues.l0 k v s l l.length i = some (s ++ spr t u, true) := by
  intro t
  induction t with
  | nil =>
    intro u i k s hd hu hk hs
    obtain ⟨k, rfl⟩ : ∃ m, k = m + 1 := ⟨k - 1, by simp at hk; omega⟩
    rw [impl_SpreadValues.l0, if_neg (drop_nil_info hd)]; simp [spr]
  | cons a t ih =>
    intro u i k s hd hu hk hs
    simp only [List.length_cons] at hk
    obtain ⟨k, rfl⟩ : ∃ m, k = m + 1 := ⟨k - 1, by omega⟩
    obtain ⟨hi, hr, hd'⟩ := drop_cons_info hd
    have hb := okb_iff.1 hok a (by rw [← hr, rd_nat]; exact getD_mem hi)
    cases u with
    | nil => have := List.drop_eq_nil_iff.1 hu; omega
    | cons x u =>
      obtain ⟨hj, hr2, hu'⟩ := drop_cons_info hu
      have e1 : (v.take ((i + 1 : Nat) : Int).toNat).drop (i : Int).toNat = [x] := by
        rw [Int.toNat_natCast, Int.toNat_natCast, List.drop_take, hu]; simp
      rw [impl_SpreadValues.l0, if_pos (by omega), if_pos (by omega), if_pos (by omega), hr, w64_i i (by omega), if_pos (by omega), if_pos (by omega), e1]
      have e2 : slices_Repeat_int_int.f [x] a = some (List.replicate a.toNat x) := by
        unfold slices_Repeat_int_int.f
        rw [if_pos ⟨rfl, hb.1, hb.2⟩]; rfl
      rw [e2]
      simp only [Option.bind_some, List.length_replicate]
      rw [if_pos (by omega), ih u (i + 1) k _ hd' hu' (by omega) (by simp; omega)]
      simp [spr]
theorem impl_Spread_eq (k : Nat) (l v : List Int) (hk : 3001000 ≤ k) (hl : l.length ≤ 1048576) (hv : v.length ≤ 1048576) : impl_SpreadValues.f k l v = some (sprV l v) := by
  obtain ⟨k, rfl⟩ : ∃ m, k = m + 1 := ⟨k - 1, by omega⟩
  unfold impl_SpreadValues.f
  rw [lengthsOk_eq (k + 1) l (by omega) hl, dataOk_eq v hv]
  simp only [Option.bind_some]
  cases h1 : lenOk l with
  | false => simp [impl_SpreadValues.j0, sprV, sprOk, h1]
  | true =>
    have hl1 := lenOk_iff.1 h1
    simp only [if_true]
    by_cases h2 : v.length = l.length
    · have e : ((v.length : Int) != (l.length : Int)) = false := by simp [h2]
      cases h3 : okb 10006 v with
      | false =>
        have : datOk v = false := by simp [datOk, h3]
        simp [impl_SpreadValues.j0, sprV, sprOk, this, h3]
      | true =>
        have : datOk v = true := by simp [datOk, h3]; omega
        have h4 := impl_Spread_l0 l v hl1.1 h2 hl1.2.1 l v 0 k [] (by simp) (by simp) (by omega) (by simp)
        rw [show ((0 : Nat) : Int) = 0 from rfl] at h4
        rw [this, e, if_pos rfl, impl_SpreadValues.j0, if_neg (by decide), h4]
        simp [sprV, sprOk, h1, h2, h3]
    · have e : ((v.length : Int) != (l.length : Int)) = true := by simp; omega
      rw [e]
      simp [impl_SpreadValues.j0, sprV, sprOk, h2]
end Go.Proofs.Ytifnnehjpgodfaa.Print
