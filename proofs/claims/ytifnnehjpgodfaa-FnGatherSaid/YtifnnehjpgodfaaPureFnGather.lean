/-
  Gathered numbers stand at their indices, and all indices in order give the data: for every code.
-/
import Derived.Test.YtifnnehjpgodfaaPrint8
import Derived.Test.YtifnnehjpgodfaaLibC
import Derived.Test.YtifnnehjpgodfaaLibR
namespace Go.Proofs.Ytifnnehjpgodfaa.Pure
open Go.RowKit Go.Proofs.Ytifnnehjpgodfaa.Print Go.Proofs.YtifnnehjpgodfaaW.PrintWords Go.Proofs.YtifnnehjpgodfaaW.PrintLast
set_option linter.unusedVariables false
set_option linter.unusedSimpArgs false
attribute [local congr] obind_congr
theorem ramp_append (a : Int) (n : Nat) : ramp a n ++ [a + n] = ramp a (n + 1) := by
  induction n generalizing a with
  | zero => simp [ramp]
  | succ n ih =>
    rw [ramp, List.cons_append, ramp_succ a (n + 1)]
    have := ih (a + 1)
    rw [show a + ((n + 1 : Nat) : Int) = a + 1 + n from by omega, this]
theorem map_rd_ramp (d : List Int) : ∀ (n i : Nat), i + n = d.length → (ramp i n).map (fun j => rd d j) = d.drop i := by
  intro n
  induction n with
  | zero => intro i h; rw [List.drop_eq_nil_of_le (by omega)]; rfl
  | succ n ih =>
    intro i h
    have hi : i < d.length := by omega
    rw [ramp, List.map_cons, show ((i : Int) + 1) = ((i + 1 : Nat) : Int) from by omega, ih (i + 1) (by omega), List.drop_eq_getElem_cons hi, rd_nat, List.getD_eq_getElem?_getD, List.getElem?_eq_getElem hi]; rfl
theorem okb_ramp (m : Int) : ∀ (n : Nat) (a : Int), 0 ≤ a → a + n ≤ m + 1 → okb m (ramp a n) = true := by
  intro n
  induction n with
  | zero => intro a _ _; rfl
  | succ n ih => intro a h0 h1; rw [ramp, okb_cons, ih (a + 1) (by omega) (by omega)]; simp; omega
theorem gather_l1 (x u v : List Int) (hx : x.length ≤ 400) (hok : datOk x = true) (huv : v.length = u.length) : ∀ (r i k : Nat), r + i = x.length → r + 3000020 < k → laws_FnGather.l1 k x u v (ramp 0 i) x.length i = some true := by
  intro r
  induction r with
  | zero =>
    intro i k hr hk
    obtain ⟨k, rfl⟩ : ∃ m, k = m + 1 := ⟨k - 1, by omega⟩
    have hi : i = x.length := by omega
    have hg : gatV x (ramp 0 i) = (x, true) := by
      have : gatOk x (ramp 0 i) = true := by
        simp only [gatOk, hok, ramp_length, Bool.true_and, Bool.and_eq_true, decide_eq_true_eq]
        exact ⟨okb_ramp _ _ _ (by omega) (by omega), by omega⟩
      have hm := map_rd_ramp x x.length 0 (by omega)
      simp only [gatV, this, if_true]
      rw [hi]; rw [show ((0 : Nat) : Int) = 0 from rfl] at hm
      rw [hm, List.drop_zero]
    rw [laws_FnGather.l1, if_neg (by omega), impl_Gather_eq k x _ (by omega) (by omega) (by rw [ramp_length]; omega), hg]
    simp only [Option.bind_some]
    rw [if_pos (by omega), faSame_eq k x x (by omega) (by omega)]
    simp
  | succ r ih =>
    intro i k hr hk
    obtain ⟨k, rfl⟩ : ∃ m, k = m + 1 := ⟨k - 1, by omega⟩
    rw [laws_FnGather.l1, if_pos (by omega), if_pos (by rw [ramp_length]; omega), w64_i i (by omega)]
    have := ramp_append 0 i
    rw [Int.zero_add] at this
    rw [this]
    exact ih (i + 1) k (by omega) (by omega)
theorem gather_l0 (x u : List Int) (hx : x.length ≤ 400) (hu : u.length ≤ 400) (hok : datOk x = true) (hu2 : okb ((x.length : Int) - 1) u = true) : ∀ (t : List Int) (i k : Nat), u.drop i = t → t.length + 3001020 < k →
    laws_FnGather.l0 k x u (u.map fun j => rd x j) u u.length i = some true := by
  intro t
  induction t with
  | nil =>
    intro i k hd hk
    obtain ⟨k, rfl⟩ : ∃ m, k = m + 1 := ⟨k - 1, by omega⟩
    rw [laws_FnGather.l0, if_neg (drop_nil_info hd)]
    have := gather_l1 x u (u.map fun j => rd x j) hx hok (by simp) x.length 0 k (by omega) (by simp at hk; omega)
    simpa [ramp] using this
  | cons a t ih =>
    intro i k hd hk
    obtain ⟨k, rfl⟩ : ∃ m, k = m + 1 := ⟨k - 1, by omega⟩
    obtain ⟨hi, hr, hd'⟩ := drop_cons_info hd
    have hb := okb_iff.1 hu2 a (by rw [← hr, rd_nat]; exact getD_mem hi)
    simp only [List.length_cons] at hk
    have he : rd (u.map fun j => rd x j) (i : Int) = rd x a := by
      rw [rd_nat, List.getD_eq_getElem?_getD, List.getElem?_map, List.getElem?_eq_getElem hi]
      rw [rd_nat, List.getD_eq_getElem?_getD, List.getElem?_eq_getElem hi] at hr
      simp at hr ⊢; rw [hr]
    rw [laws_FnGather.l0, if_pos (by omega), if_pos (by omega), if_pos (by omega), if_pos (by simp; omega), hr, if_pos (by omega), if_pos (by omega), if_pos he, w64_i i (by omega)]
    exact ih (i + 1) k hd' (by omega)
theorem FnGather : laws_FnGather.Pure := by
  intro c _ _ hw
  obtain ⟨K, hK⟩ : ∃ K, 3100010 ≤ K := ⟨3100010, Nat.le_refl _⟩
  refine ⟨K + 5, ?_⟩
  unfold laws_FnGather.f
  by_cases h0 : c.length ≤ 1048576
  case neg => rw [if_pos (by omega)]
  rw [if_neg (by omega)]
  obtain ⟨x, u, hd, hx, hu⟩ := drawGather_any (K + 5) c (by omega) (wf_u8 hw) h0
  have hg := gatV_len x u
  rw [hd]
  simp (discharger := omega) only [spec_Gather_eq, impl_Gather_eq, faSame_eq, Option.bind_some, decide_true, bne_self_eq_false, Bool.false_eq_true, ↓reduceIte, laws_FnGather.j0]
  cases h2 : gatOk x u with
  | false => simp [gatV, h2]
  | true =>
    have h3 := h2
    simp only [gatOk, Bool.and_eq_true, decide_eq_true_eq] at h3
    have h4 := datOk_iff.1 h3.1
    have := gather_l0 x u h4.1 h3.2.2 h3.1 h3.2.1 u 0 (K + 4) (by simp) (by omega)
    simp only [gatV, h2, if_true, Bool.not_true, Bool.false_eq_true, if_false]
    exact this
end Go.Proofs.Ytifnnehjpgodfaa.Pure
