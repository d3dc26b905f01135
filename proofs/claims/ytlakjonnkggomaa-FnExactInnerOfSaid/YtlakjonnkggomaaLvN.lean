/-
  The marks of a layout that is owned.
-/
import Derived.Test.YtlakjonnkggomaaLvM
namespace Go.Proofs.YtlakjonnkggomaaW.PrintMore
set_option linter.unusedVariables false
set_option linter.unusedSimpArgs false
open Go.Proofs Go.Deep
open Go.RowKit Go.Proofs.YtlakjonnkggomaaW.PrintWords Go.Proofs.YtlakjonnkggomaaW.PrintLast Go.Proofs.YtlakjonnkggomaaW.PrintMore
theorem R_rwS {w : World} {base : Nat} {Q P : Nat → Prop} {v : Value} {Ms : List (List Int)} (h : Kd.R (Kd.slice 3 kI) 23 w base Q v Ms) (hp : ∀ k, Q k → base ≤ k → P k) : ∃ l, RwS w P v l ∧ l.length = Ms.length ∧ tot l = preL Ms Ms.length := by
  obtain ⟨_, inner, ho, hr⟩ := h
  have hil : inner.length = Ms.length := by have := ho.1; rw [this]; exact Nat.mul_one _
  have hrow : ∀ j (hj : j < Ms.length), Kd.R kI 3 w base (fun k => Q k ∧ some k ≠ v.ownBlock) (inner.getD j (.slice none 0 0)) (Ms.getD j []) := fun j hj => by
    obtain ⟨u, e, hu⟩ := hr.2 j (Ms.getD j []) (by rw [List.getD_eq_getElem?_getD, List.getElem?_eq_getElem hj]; rfl)
    have e1 : (inner.drop (j * 1)).take 1 = [u] := e
    rw [Nat.mul_one] at e1
    have e2 : inner[j]? = some u := by
      have := congrArg (fun l => l[0]?) e1
      simpa [List.getElem?_take, List.getElem?_drop] using this
    rw [List.getD_eq_getElem?_getD, e2]
    exact hu
  obtain ⟨l, hl⟩ : ∃ l : List (Value × Nat), l = (List.range Ms.length).map (fun j => (inner.getD j (.slice none 0 0), (Ms.getD j []).length)) := ⟨_, rfl⟩
  have hll : l.length = Ms.length := by rw [hl, List.length_map, List.length_range]
  have hla : ∀ j, j < Ms.length → l[j]? = some (inner.getD j (.slice none 0 0), (Ms.getD j []).length) := fun j hj => by rw [hl, List.getElem?_map, List.getElem?_range hj]; rfl
  refine ⟨l, ⟨?_, fun h0 => ?_, fun p hp' => ?_⟩, hll, ?_⟩
  · obtain ⟨A, c, e⟩ := own_slice ho
    exact ⟨A, c, by rw [hll]; exact e⟩
  · rcases ho.2 with ⟨_, h0'⟩ | ⟨g, cap, cur, e, hb, hg, hc, _, hs, ht⟩
    · omega
    · refine ⟨g, cap, cur, by rw [hll]; exact e, hg, fun j hj => ?_⟩
      have e1 := hla j (by omega)
      rw [List.getElem?_eq_getElem hj] at e1
      rw [Option.some.inj e1]
      show cur[j]? = some (inner.getD j (.slice none 0 0))
      have e2 : inner[j]? = cur[j]? := by
        rw [← ht]
        have hj1 : j < Ms.length * (Kd.slice 3 kI).sz := by show j < Ms.length * 1; omega
        rw [List.getElem?_take_of_lt hj1, Array.getElem?_toList]
      rw [← e2, List.getD_eq_getElem?_getD, List.getElem?_eq_getElem (by omega)]
      rfl
  · rw [hl] at hp'
    obtain ⟨j, hj, rfl⟩ := List.mem_map.1 hp'
    exact R_rowI (hrow j (List.mem_range.1 hj)) (fun k hq hb => hp k hq.1 hb)
  · have : ∀ j, j ≤ Ms.length → tot (l.take j) = preL Ms j := by
      intro j hj
      induction j with
      | zero => rfl
      | succ j ih =>
        rw [tot_take (by omega), ih (by omega)]
        have e1 := hla j (by omega)
        rw [List.getElem?_eq_getElem (by omega)] at e1
        rw [Option.some.inj e1]
        unfold preL
        rw [List.take_add_one, List.getElem?_eq_getElem (by omega), List.map_append, List.sum_append, List.getD_eq_getElem?_getD, List.getElem?_eq_getElem (by omega)]
        simp
        rw [List.getElem?_eq_getElem (by omega)]
        rfl
    have h := this Ms.length (Nat.le_refl _)
    rw [List.take_of_length_le (by omega)] at h
    exact h
/-- A layout of one's own is marked. -/
theorem markR_walk (w : World) (base : Nat) (Q0 Q1 : Nat → Prop) (a b : Value) (Ms : List (List Int)) (E : List Int) (k : Int) (h0 : Kd.R (Kd.slice 3 kI) 23 w base Q0 a Ms) (h1 : Kd.R kI 3 w base Q1 b E) (P : Nat → Prop) (hp0 : ∀ g, Q0 g → base ≤ g → P g) (hp1 : ∀ g, Q1 g → base ≤ g → P g) (hl : Ms.length ≤ 2000000) (hk0 : 0 ≤ k) (hk : k + szL (Ms, E) ≤ 8000000000000) :
    Calls Try.prog 10 #[.agg #[a, b], .int .i64 k] w fun e w' => e = .returned (.int .i64 (k + szL (Ms, E))) ∧ TS w w' P := by
  obtain ⟨l, hr, hll, hlt⟩ := R_rwS h0 (P := P) hp0
  have e : (k + szL (Ms, E) : Int) = k + tot l + E.length := by unfold szL; rw [hlt]; simp; omega
  rw [e]
  exact markL_walk w _ a b l E.length k hr (R_rowI h1 hp1) (by rw [hll]; exact hl) hk0 (by omega)
/-- Marks below its base keep a list of layouts. -/
theorem GS.ts {W W' : World} {base : Nat} {P : Nat → Prop} {v : Value} {xs : List (List (List Int) × List Int)} (h : GS W base v xs) (ht : TS W W' P) (hp : ∀ g, P g → g < base) : GS W' base v xs := by
  obtain ⟨f, ps, h1, h2, h3⟩ := h
  refine ⟨f, ps, h1, ?_, fun i hi => (h3 i hi).keep (fun k cs t hk hc => ?_)⟩
  · refine Kd.R_mono (Kd.R_move (Kd.R_bound h2) (fun g hg => ?_)) (fun g hg => hg.1)
    obtain ⟨_, _, _, q, hq, cs, hcs⟩ := hg
    have : q = 30 := by simpa [kPair] using hq
    subst this
    exact ht.keep g cs _ hcs (.inl (by decide))
  · rcases hc with rfl | ⟨rfl, _, hb⟩
    · exact ht.keep k cs _ hk (.inl (by decide))
    · exact ht.keep k cs _ hk (.inr (fun h => by have := hp k h; omega))
/-- What lies below the marks is kept. -/
theorem R_ts {α : Type} {d : Kd α} {e : Nat} {W W' : World} {base : Nat} {P Q : Nat → Prop} {v : Value} {xs : List α} (h : Kd.R d e W base Q v xs) (ht : TS W W' P) (hp : ∀ g, Q g → ¬ P g) : Kd.R d e W' base Q v xs := by
  refine Kd.R_mono (Kd.R_move (Kd.R_bound h) (fun g hg => ?_)) (fun g hg => hg.1)
  obtain ⟨hq, _, _, q, _, cs, hcs⟩ := hg
  exact ht.keep g cs _ hcs (.inr (hp g hq))
end Go.Proofs.YtlakjonnkggomaaW.PrintMore
