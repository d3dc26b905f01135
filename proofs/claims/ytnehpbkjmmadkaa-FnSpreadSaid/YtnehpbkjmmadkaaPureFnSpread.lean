/-
  Spread values have their values as the most of each segment, and counting up counts each segment: for every code.
-/
import Derived.Test.YtnehpbkjmmadkaaSp7
import Derived.Test.YtnehpbkjmmadkaaLibFnSpread
namespace Go.Proofs.Ytnehpbkjmmadkaa.Pure
open Go.RowKit Go.Proofs.Ytnehpbkjmmadkaa.Sp Go.Proofs.YtnehpbkjmmadkaaW.PrintWords Go.Proofs.YtnehpbkjmmadkaaW.PrintLast Go.Proofs.YtnehpbkjmmadkaaW.PrintMore
set_option linter.unusedVariables false
set_option linter.unusedSimpArgs false
attribute [local congr] obind_congr
theorem mostL_rep (a : Nat) (w : Int) (h0 : 0 ≤ w) (h : 0 < a) : mostL 0 (List.replicate a w) = w := by
  have key : ∀ n, mostL w (List.replicate n w) = w := by
    intro n
    induction n with
    | zero => rfl
    | succ n ih =>
      rw [List.replicate_succ, mostL]
      have : mx w w = w := by unfold mx; split <;> rfl
      rw [this]; exact ih
  obtain ⟨a, rfl⟩ : ∃ m, a = m + 1 := ⟨a - 1, by omega⟩
  rw [List.replicate_succ, mostL]
  have : mx 0 w = w := by unfold mx; split <;> omega
  rw [this]; exact key a
theorem spr_mem {x v : List Int} {n : Int} (h : n ∈ spr x v) : n ∈ v := by
  induction x generalizing v with
  | nil => simp [spr] at h
  | cons a t ih =>
    cases v with
    | nil => simp [spr] at h
    | cons w u =>
      simp only [spr, List.mem_append] at h
      rcases h with h | h
      · rw [List.eq_of_mem_replicate h]; simp
      · exact List.mem_cons_of_mem _ (ih h)
theorem spread_l1 (x v sp up st ms : List Int) (n i c a : Nat) (hi : i < n) (hn : n ≤ 400) (ha : c + a ≤ 400) (hst : rd st (i : Int) = c) (hstl : st.length = n) (R : List Int) (cN : Nat)
    (ih : ∀ k, cN < k → laws_FnSpread.l0 k x v sp up true st ms x n ((i + 1 : Nat) : Int) = some true) :
    ∀ (d j k : Nat), d + j = a → up.drop (c + j) = ramp j d ++ R → d + 1 + cN < k →
      laws_FnSpread.l1 k x v sp up true st ms i x n i a j = some true := by
  intro d
  induction d with
  | zero =>
    intro j k hj hu hk
    obtain ⟨k, rfl⟩ : ∃ m, k = m + 1 := ⟨k - 1, by omega⟩
    rw [laws_FnSpread.l1, if_neg (by omega), w64_i i (by omega)]
    exact ih k (by omega)
  | succ d ihd =>
    intro j k hj hu hk
    obtain ⟨k, rfl⟩ : ∃ m, k = m + 1 := ⟨k - 1, by omega⟩
    obtain ⟨h1, h2, h3⟩ := drop_cons_info (l := up) (i := c + j) (a := (j : Int)) (t := ramp ((j : Int) + 1) d ++ R) (by rw [hu]; rfl)
    have e1 : ((c : Int) + (j : Int)) = ((c + j : Nat) : Int) := by omega
    rw [laws_FnSpread.l1, if_pos (by omega), if_pos (by omega), if_pos (by omega), hst, e1, w64 (x := ((c + j : Nat) : Int)) (by omega) (by omega), if_pos (by omega), if_pos (by omega), if_pos h2, w64_i j (by omega)]
    exact ihd (j + 1) k (by omega) (by rw [← Nat.add_assoc, h3]; rfl) (by omega)
theorem spread_l0 (x v : List Int) (h : sprOk x v = true) : ∀ (t u : List Int) (i k c : Nat), x.drop i = t → v.drop i = u → (startsFrom 0 x).drop i = startsFrom c t → (c : Int) + tot t = tot x → ((segs x (spr x v)).map (mostL 0)).drop i = (segs t (spr t u)).map (mostL 0) → (ups x).drop c = ups t → 404 * t.length + 3000050 < k →
    laws_FnSpread.l0 k x v (spr x v) (ups x) true (startsFrom 0 x) ((segs x (spr x v)).map (mostL 0)) x x.length i = some true := by
  obtain ⟨h1, h2, h3⟩ := sprOk_iff.1 h
  obtain ⟨a1, a2, a3⟩ := lenOk_iff.1 h1
  have hml : ((segs x (spr x v)).map (mostL 0)).length = x.length := by simp [segs_length]
  have hsl := spr_length a2 h2
  have hul := ups_length a2
  intro t
  induction t with
  | nil =>
    intro u i k c hd hv hs hct hms hup hk
    obtain ⟨k, rfl⟩ : ∃ m, k = m + 1 := ⟨k - 1, by omega⟩
    rw [laws_FnSpread.l0, if_neg (drop_nil_info hd), if_pos rfl, faTotal_eq k x (by omega) (by omega) (okb_le a2 (by omega))]
    simp only [Option.bind_some]
    rw [if_pos hsl, hsl, hul]; simp
  | cons a t ih =>
    intro u i k c hd hv hs hct hms hup hk
    obtain ⟨k, rfl⟩ : ∃ m, k = m + 1 := ⟨k - 1, by omega⟩
    obtain ⟨hi, hr, hd'⟩ := drop_cons_info hd
    have hat : okb 400 (a :: t) = true := by rw [← hd]; exact okb_drop a2 _
    obtain ⟨ha0, ha1, hat'⟩ := okb_tail hat
    have htn := tot_nonneg hat'
    obtain ⟨a, rfl⟩ := Int.eq_ofNat_of_zero_le ha0
    simp only [tot] at hct
    simp only [List.length_cons] at hk
    simp only [startsFrom] at hs
    obtain ⟨hj, hr2, hs'⟩ := drop_cons_info hs
    have hvl : i < v.length := by omega
    have hvd := drop_uncons_rd hvl
    rw [hvd] at hv
    subst hv
    have hw := okb_iff.1 h3 (rd v i) (rd_mem (by omega) (by omega))
    generalize hw' : rd v (i : Int) = w at *
    simp only [spr, segs, List.map_cons, Int.toNat_natCast] at hms
    rw [List.take_left' (by simp), List.drop_left' (by simp)] at hms
    obtain ⟨hj3, hr3, hms'⟩ := drop_cons_info hms
    simp only [ups, Int.toNat_natCast] at hup
    have hnext : ∀ k, 404 * t.length + 3000050 < k → laws_FnSpread.l0 k x v (spr x v) (ups x) true (startsFrom 0 x) ((segs x (spr x v)).map (mostL 0)) x x.length ((i + 1 : Nat) : Int) = some true := fun k hk =>
      ih (v.drop (i + 1)) (i + 1) k (c + a) hd' rfl (by rw [hs']; congr 1) (by omega) hms' (by rw [← List.drop_drop, hup, List.drop_left' (ramp_length _ _)]) hk
    have hj1 : ∀ k, 404 * t.length + a + 3000053 < k → laws_FnSpread.j1 k x v (spr x v) (ups x) true (startsFrom 0 x) ((segs x (spr x v)).map (mostL 0)) i a x x.length i false = some true := by
      intro k hk
      obtain ⟨k, rfl⟩ : ∃ m, k = m + 1 := ⟨k - 1, by omega⟩
      rw [laws_FnSpread.j1, if_neg (by simp)]
      have q1 : List.drop (c + 0) (ups x) = ramp ((0 : Nat) : Int) a ++ ups t := by rw [Nat.add_zero]; exact hup
      generalize hN : 404 * t.length + 3000050 = N at hnext hk
      have q2 : a + 1 + N < k := by omega
      exact spread_l1 x v _ _ _ _ x.length i c a hi a1 (by omega) hr2 (startsFrom_length _ _) (ups t) N hnext a 0 k (by omega) q1 q2
    rw [laws_FnSpread.l0, if_pos (by omega), if_pos (by omega), if_pos (by omega), hr]
    by_cases ha : (a : Int) > 0
    · rw [if_pos ha, if_pos (by omega), if_pos (by omega), hr3, hw', mostL_rep a w hw.1 (by omega)]
      simp only [bne_self_eq_false]
      exact hj1 k (by omega)
    · rw [if_neg ha]
      exact hj1 k (by omega)
theorem FnSpread : laws_FnSpread.Pure := by
  intro l0 _ _ hw0
  obtain ⟨K, hK⟩ : ∃ K, 3602010 ≤ K := ⟨3602010, Nat.le_refl _⟩
  refine ⟨K + 5, ?_⟩
  unfold laws_FnSpread.f
  by_cases h0 : l0.length ≤ 1048576
  case neg => rw [if_pos (by omega)]
  rw [if_neg (by omega)]
  obtain ⟨x, v, hd, hx, hv⟩ := drawSpread_any (K + 5) l0 (by omega) (wf_u8 hw0) h0
  have hg := sprV_len x v
  have hg2 := upV_len x
  have hg3 := staV_len x
  rw [hd]
  simp (discharger := omega) only [Option.bind_some, impl_Spread_eq, spec_Spread_eq, impl_Up_eq, spec_Up_eq, impl_Starts_eq, spec_Starts_eq, faSame_eq, decide_true, ↓reduceIte, bne_self_eq_false, Bool.false_eq_true, beq_self_eq_true]
  cases h : sprOk x v with
  | false => rw [if_neg (by simp [sprV, h])]
  | true =>
    obtain ⟨h1, h2, h3⟩ := sprOk_iff.1 h
    obtain ⟨a1, a2, a3⟩ := lenOk_iff.1 h1
    have hsl := spr_length a2 h2
    have hseg : segOk x (spr x v) = true := segOk_iff.2 ⟨h1, datOk_iff.2 ⟨by omega, okb_iff.2 fun n hn => okb_iff.1 h3 n (spr_mem hn)⟩, by omega⟩
    rw [if_pos (by simp [sprV, h]), show (sprV x v).1 = spr x v from by simp [sprV, h], impl_Most_eq _ x _ (by omega) (by omega) (by omega)]
    simp only [Option.bind_some]
    rw [show (mostV x (spr x v)).1 = (segs x (spr x v)).map (mostL 0) from by simp [mostV, hseg], show (staV x).1 = startsFrom 0 x from by simp [staV, h1], show (upV x).1 = ups x from by simp [upV, h1], show (upV x).2 = true from by simp [upV, h1]]
    exact spread_l0 x v h x v 0 (K + 5) 0 (by simp) (by simp) (by simp) (by omega) (by simp) (by simp) (by omega)
end Go.Proofs.Ytnehpbkjmmadkaa.Pure
