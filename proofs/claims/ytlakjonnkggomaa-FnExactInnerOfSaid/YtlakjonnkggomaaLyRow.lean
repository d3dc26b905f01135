/-
  How an argument that is a list of whole numbers, or a list of such lists, is read by the words of the printed texts.
-/
import Derived.Test.YtlakjonnkggomaaWMore
import Derived.OpenShut
import Derived.Deep.Matrix
import Derived.ChangeOld
import Derived.Lib.SmallJoins
import Derived.ProofKit
namespace Go.Proofs.Ytlakjonnkggomaa.LyRow
open Go.ChangeShapes Go.WideShapes Go.ChangeAt Go.RowKit Go.Proofs.YtlakjonnkggomaaW.PrintWords Go.Proofs.YtlakjonnkggomaaW.PrintLast Go.Proofs.YtlakjonnkggomaaW.PrintMore
theorem ints_C {w : World} {k : IntKind} {A : Option Addr} {L : Nat} {zs : List Int} (hl : L ≤ zs.length) (hm : L ≤ maxLen) (h : 0 < L → ∃ a', A = some a' ∧ ∀ c, c < zs.length → w.cell? (a'.add c) = some (.int k (zs.getD c 0))) : Kd.C (Kd.int k) w A L (zs.take L) := by
  refine ⟨by simp; omega, by unfold maxLen at hm; omega, fun hn => ?_⟩
  obtain ⟨a', e, hc⟩ := h hn
  refine ⟨a', e, fun j p hj => ⟨[.int k p], rfl, rfl, fun i u hu => ?_⟩⟩
  obtain ⟨hj1, hp⟩ := List.getElem?_eq_some_iff.1 hj
  cases i with
  | succ i => simp at hu
  | zero =>
    simp at hu
    subst hu
    have hjz : j < zs.length := by simp at hj1; omega
    have := hc j hjz
    rw [List.getD_eq_getElem?_getD, List.getElem?_eq_getElem hjz] at this
    rw [List.getElem_take] at hp
    rw [← hp]
    simpa [Kd.int, Kd.scalar] using this
section
variable {H : Type} {enc : TypeId × Value → H} {P : Program} {w : World} {base : Nat} {held : Bool}
theorem ints_of {t e : TypeId} {k : IntKind} {fuel : Nat} {v : Value} {x : DataW H × List MemPlace} (ht : P.underlying t = some (.slice e)) (he : P.underlying e = some (.int k)) (ce : P.cellsOf e = 1)
    (h : DataW.trod enc P w base (fun _ => true) held fuel t [v] = some x) :
    ∃ (A : Option Addr) (c : Nat) (l : List Int), v = .slice A l.length c ∧ Kd.C (Kd.int k) w A l.length l ∧ l.length ≤ c ∧ l.length ≤ maxLen := by
  rcases open_ints ht he ce h with ⟨hcs, _⟩ | ⟨a, len, cap, zs, hcs, _, hl, hm, hz, _, hcell, _⟩
  · refine ⟨none, 0, [], by simpa using hcs, Kd.C_nil _ _, Nat.le_refl _, by simp [maxLen]⟩
  · simp only [if_true] at hz
    have e : (zs.take len).length = len := by simp; omega
    have hC : Kd.C (Kd.int k) w (some a) len (zs.take len) := ints_C (by omega) (by omega) (fun _ => ⟨a, rfl, hcell⟩)
    refine ⟨some a, cap, zs.take len, by rw [e]; simpa using hcs, by rw [e]; exact hC, by omega, by omega⟩
theorem rows_of {t e q : TypeId} {k : IntKind} {fuel : Nat} {v : Value} {x : DataW H × List MemPlace} (ht : P.underlying t = some (.slice e)) (he : P.underlying e = some (.slice q)) (hq : P.underlying q = some (.int k))
    (ce : P.cellsOf e = 1) (cq : P.cellsOf q = 1) (h : DataW.trod enc P w base (fun _ => true) held fuel t [v] = some x) :
    ∃ (A : Option Addr) (c : Nat) (l : List (List Int)), v = .slice A l.length c ∧ Kd.C (Kd.slice q (Kd.int k)) w A l.length l ∧ l.length ≤ c ∧ l.length ≤ maxLen ∧ ∀ r ∈ l, r.length ≤ maxLen := by
  rcases Go.Deep.open_int_rows ht he hq ce cq h with ⟨hcs, _⟩ | ⟨a, len, cap, A, L, C, Z, hcs, _, hl, hm, _, hrow⟩
  · exact ⟨none, 0, [], by simpa using hcs, Kd.C_nil _ _, Nat.le_refl _, by simp [maxLen], fun r hr => by cases hr⟩
  · obtain ⟨l, hlst⟩ : ∃ l, l = (List.range len).map fun r => (Z r).take (L r) := ⟨_, rfl⟩
    have e : l.length = len := by rw [hlst]; simp
    have hget : ∀ j p, l[j]? = some p → j < len ∧ p = (Z j).take (L j) := by
      intro j p hj
      obtain ⟨hj1, hp⟩ := List.getElem?_eq_some_iff.1 hj
      have hj2 : j < len := by rw [← e]; exact hj1
      subst hlst
      rw [List.getElem_map, List.getElem_range] at hp
      exact ⟨hj2, hp.symm⟩
    refine ⟨some a, cap, l, by rw [e]; simpa using hcs, ?_, by omega, by omega, ?_⟩
    · refine ⟨rfl, by unfold maxLen at hm; omega, fun _ => ⟨a, rfl, fun j p hj => ?_⟩⟩
      obtain ⟨hj1, rfl⟩ := hget j p hj
      obtain ⟨hc1, hc2, hc3, hc4, _, hc6, hc7⟩ := hrow j (by omega)
      have e2 : ((Z j).take (L j)).length = L j := by simp; omega
      refine ⟨[.slice (A j) (L j) (C j)], rfl, ⟨A j, C j, by rw [e2], by omega, ?_⟩, fun i u hu => ?_⟩
      · rw [e2]
        refine ints_C (by omega) (by omega) (fun hp => ?_)
        cases hA : A j with
        | none => have := hc6 hA; omega
        | some a' => exact ⟨a', rfl, fun c hc => (hc7 a' hA).2 c (by omega)⟩
      · cases i with
        | succ i => simp at hu
        | zero => simp at hu; subst hu; simpa [Kd.slice] using hc1
    · intro r hr
      obtain ⟨j, hj⟩ := List.getElem?_of_mem hr
      obtain ⟨hj1, rfl⟩ := hget j r hj
      obtain ⟨hc1, hc2, hc3, hc4, _⟩ := hrow j (by omega)
      simp; omega
end
end Go.Proofs.Ytlakjonnkggomaa.LyRow
