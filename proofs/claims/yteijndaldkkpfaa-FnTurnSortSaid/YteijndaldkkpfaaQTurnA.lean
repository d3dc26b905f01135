/-
  Cut to what this claim uses.
-/
import Derived.BigRegion
import Derived.Deep.QuietTactic
import Derived.Laws.Cover1
import Derived.Shelf.Slices.Cells
import Derived.Test.YteijndaldkkpfaaProg
import Derived.WalkKit
import Derived.Test.YteijndaldkkpfaaQ0
namespace Go.Proofs.YteijndaldkkpfaaW.PrintMore
set_option linter.unusedVariables false
set_option linter.unusedSimpArgs false
open Go.Proofs Go.Deep
open Go.RowKit Go.Proofs.YteijndaldkkpfaaW.PrintWords Go.Proofs.YteijndaldkkpfaaW.PrintLast Go.Proofs.YteijndaldkkpfaaW.PrintMore
theorem cell_keep {W W' : World} (h : Below W.heap.size W W') (p : Addr) (u : Value) (hp : W.cell? p = some u) : W'.cell? p = some u := (h.cell (World.block_lt_of_cell? W _ hp)).trans hp
/-- A cut of block A: where it begins, how long it is. -/
def cutV (A : Nat) (p : Nat × Nat) : Value := .slice (some ⟨A, p.1, none⟩) p.2 p.2
abbrev kCut (A : Nat) : Kd (Nat × Nat) := Kd.scalar (cutV A) (fun _ => rfl)
def nats (ls : List Nat) : List Int := ls.map fun (n : Nat) => (n : Int)
theorem take_sum (ls : List Nat) : ∀ (i : Nat) (h : i < ls.length), (ls.take (i + 1)).sum = (ls.take i).sum + ls[i] := by
  intro i h
  rw [List.take_add_one, List.getElem?_eq_getElem h, List.sum_append]
  simp
theorem take_sum_le (ls : List Nat) : ∀ (i : Nat), (ls.take i).sum ≤ ls.sum := by
  induction ls with
  | nil => intro i; simp
  | cons n r ih => intro i; cases i with
    | zero => simp
    | succ i => have := ih i; simp; omega
theorem int_info : (Try.prog.info? 3).map (fun i => (i.zero, i.size, i.bytes)) = some (some (.int .i64 0), 1, 8) := by kernel_rfl
theorem row_info : (Try.prog.info? 22).map (fun i => (i.zero, i.size, i.bytes)) = some (some (.slice none 0 0), 1, 24) := by kernel_rfl
theorem own_emptyS {α : Type} (enc : α → Value) (h1 : ∀ x, (enc x).oneCell' = true) (e : TypeId) (w : World) (base : Nat) (h : base ≤ w.heap.size) : Kd.R (Kd.scalar enc h1) e (w.alloc (.cells #[] e)) base (fun _ => True) (.slice (some ⟨w.heap.size, 0, none⟩) 0 0) [] := by
  refine Kd.R_of_own (enc := enc) (h1 := h1) ⟨by simp [encs], .inr ⟨w.heap.size, 0, #[], rfl, h, blk_new w _, Nat.le_refl _, by unfold maxLen; omega, rfl, rfl⟩⟩ (fun _ _ => trivial)
theorem nats_at (ls : List Nat) (i : Nat) (h : i < ls.length) : rd (nats ls) (i : Int) = (ls[i] : Int) := by
  unfold rd nats
  simp [List.getD_eq_getElem?_getD, h]
/-- Cuts of one row, one behind the other (where an empty one lies is open). -/
def Cuts (ls : List Nat) (ps : List (Nat × Nat)) : Prop := ∀ j, j < ps.length → (ps.getD j (0, 0)).2 = ls.getD j 0 ∧ (ls.getD j 0 = 0 ∨ (ps.getD j (0, 0)).1 = (ls.take j).sum)
theorem cuts_snoc {ls : List Nat} {ps : List (Nat × Nat)} (h : Cuts ls ps) {s n : Nat} (hn : n = ls.getD ps.length 0) (hs : n = 0 ∨ s = (ls.take ps.length).sum) : Cuts ls (ps ++ [(s, n)]) := by
  intro j hj
  rw [List.length_append, List.length_singleton] at hj
  by_cases hj2 : j < ps.length
  · rw [List.getD_eq_getElem?_getD (l := ps ++ _), List.getElem?_append_left hj2, ← List.getD_eq_getElem?_getD]
    exact h j hj2
  · have : j = ps.length := by omega
    subst this
    rw [List.getD_eq_getElem?_getD (l := ps ++ _), List.getElem?_append_right (Nat.le_refl _), Nat.sub_self]
    exact ⟨hn, by rw [← hn]; exact hs⟩
set_option maxHeartbeats 8000000 in
set_option maxRecDepth 100000 in
theorem segs_walk (w : World) (A0 : Option Addr) (c0 : Nat) (ls : List Nat) (A tot cap : Nat) (hr : Kd.C (Kd.int .i64) w A0 ls.length (nats ls)) (hc0 : ls.length ≤ c0) (hlen : ls.length ≤ 400) (hsum : ls.sum ≤ tot) (htc : tot ≤ cap) :
    Calls Try.prog 90 #[.slice A0 ls.length c0, .slice (some ⟨A, 0, none⟩) tot cap] w fun e w' => ∃ v, e = .returned v ∧ ∃ ps, Kd.R (kCut A) 22 w' w.heap.size (fun _ => True) v ps ∧ ps.length = ls.length ∧ Cuts ls ps ∧ Below w.heap.size w w' := by
  have HR := Aside0.mk hr
  have HLE := Aside0.mk hlen
  have HSM := Aside0.mk (And.intro hsum (And.intro htc trivial))
  have HO0 := Aside0.mk (own_emptyS (cutV A) (fun _ => rfl) 22 w w.heap.size (Nat.le_refl _))
  have HB0 := Aside0.mk (show Below w.heap.size w (w.alloc (.cells #[] 22)) from (Below.refl _ w).alloc (Nat.le_refl _) _)
  clear hr hlen hsum htc
  go_enter Try.func90, Try.ntmps90
  go_wp2
  go_loopg [1, 5, 11] (ls.length) (fun kq v1 v5 v11 w' => ∃ (i s z : Nat) (ps : List (Nat × Nat)), v1 = .slice (some ⟨A, z, none⟩) (tot - s) (cap - s) ∧ v11 = .int .i64 (i : Int) ∧ Aside0 (kq + i = ls.length) ∧ Aside0 (s = (ls.take i).sum) ∧ Aside0 (Kd.R (kCut A) 22 w' w.heap.size (fun _ => True) v5 ps) ∧ Aside0 (ps.length = i ∧ Cuts ls ps ∧ (cap - s = 0 ∨ z = s)) ∧ Aside0 (Below w.heap.size w w'))
  case atStart => exact ⟨0, 0, 0, [], rfl, rfl, ⟨by omega⟩, ⟨rfl⟩, HO0, ⟨rfl, fun j hj => (by cases hj), .inr rfl⟩, HB0⟩
  case round =>
    obtain ⟨i, s, z, ps, rfl, rfl, HI, HSS, HO, HP, HB⟩ := hrel
    by_cases hi : i < ls.length
    · have hlt : (i : Int) < (ls.length : Int) := by omega
      have h0 : (0 : Int) ≤ (i : Int) := by omega
      obtain ⟨ad, rfl, hc⟩ := Kd.at_int HR.out (i : Int) h0 hlt
      rw [nats_at ls i hi] at hc
      have hc' : wr.cell? (ad.add i) = some (.int .i64 (ls[i] : Int)) := by
        have := cell_keep HB.out _ _ hc
        simpa using this
      obtain ⟨n, hn⟩ : ∃ n : Nat, n = ls[i] := ⟨_, rfl⟩
      rw [← hn] at hc'
      have hsn : s + n ≤ tot := by
        have h1 := take_sum ls i hi
        have h2 := take_sum_le ls (i + 1)
        have h3 := HSM.out.1
        have h4 := HSS.out
        omega
      have HNN := Aside0.mk (show n = ls.getD i 0 from by rw [hn, List.getD_eq_getElem?_getD, List.getElem?_eq_getElem hi]; rfl)
      have HH := Aside0.mk hi
      have n0 : (0 : Int) ≤ (n : Int) := by omega
      have n1 : (n : Int) ≤ ((tot - s : Nat) : Int) := by omega
      have n2 : (n : Int) ≤ ((cap - s : Nat) : Int) := by have := HSM.out.2.1; omega
      have HSN := Aside0.mk hsn
      have HLX := Aside0.mk (show ps.length ≤ 400 from by have := HLE.out; have := HP.out.1; omega)
      clear hc hn hi hsn
      go_wp2_with (first | ((with_reducible refine gate_builtin (b := .append) (xs := #[.tmp 15, .tmp 20]) rfl ?_); at_builtin; refine Kd.R_append (kCut A) (w0 := w) w.heap.size rfl (.tmp 15) (.tmp 20) 34 22 (.slice none 0 0) 24 rfl Try.underlying34 row_info rfl Nat.zero_lt_one (by omega) _ ps (z, n) [.slice (some ⟨A, z, none⟩) n n] (fun _ => True) (fun _ => False) rfl ?aX ?aP (fun _ hk => hk.elim) ?aF ?aO ?aB ?aS ?aL ?_; (case aX => first | rfl | (simp [Act.eval]; done)); (case aP => exact rfl); (case aF => exact fun _ _ => trivial); (case aO => exact HO.out); (case aB => exact HB.out); (case aS => exact HB.out.size); (case aL => have := HLX.out; omega); intro v4 w21 ho hb4 hg4 hat4; have HO3 := Aside0.mk ho; have HB3 := Aside0.mk hb4; clear ho hb4 hg4 hat4))
      have HW := Aside0.mk (show wrap64 ((i : Int) + 1) = ((i + 1 : Nat) : Int) from by have := HLE.out; have := HH.out; rw [wrap64]; omega)
      · rename_i hcs
        have HCS := Aside0.mk hcs
        go_roundg (gk - 1)
        case measure => have := HI.out; have := HH.out; omega
        case rel =>
          refine ⟨i + 1, s + n, z, ps ++ [(z, n)], ?_, ?_, ⟨by have := HI.out; have := HH.out; omega⟩, ⟨?_⟩, HO3, ⟨by rw [List.length_append, List.length_singleton, HP.out.1], cuts_snoc HP.out.2.1 (by rw [HP.out.1]; exact HNN.out) ?_, ?_⟩, HB3⟩
          · have := HSN.out; have := HSM.out
            first | rfl | (congr 1 <;> omega) | (simp; omega)
          · have := HLE.out; have := HH.out
            have e1 : IntKind.i64.wrap ((i : Int) + 1) = ((i + 1 : Nat) : Int) := by rw [IntKind.wrap_i64]; omega
            have e2 : wrap64 ((i : Int) + 1) = ((i + 1 : Nat) : Int) := by rw [wrap64]; omega
            first | rfl | (rw [← e1]; done) | (rw [← e2]; done) | (simp [e1]; done) | (simp [e2]; done) | (show Value.int .i64 _ = _; rw [e1]; done) | (show Value.int .i64 _ = _; rw [e2])
          · rw [take_sum ls i HH.out, ← HSS.out, HNN.out, List.getD_eq_getElem?_getD, List.getElem?_eq_getElem HH.out]; rfl
          · rw [HP.out.1, ← HSS.out]
            have := HP.out.2.2; have := HSN.out; have := HSM.out.2.1
            omega
          · have := HP.out.2.2; have := HSN.out; have := HSM.out.2.1; have := HCS.out
            omega
      · rename_i hcs
        have HCS := Aside0.mk hcs
        go_roundg (gk - 1)
        case measure => have := HI.out; have := HH.out; omega
        case rel =>
          refine ⟨i + 1, s + n, z + n, ps ++ [(z, n)], ?_, ?_, ⟨by have := HI.out; have := HH.out; omega⟩, ⟨?_⟩, HO3, ⟨by rw [List.length_append, List.length_singleton, HP.out.1], cuts_snoc HP.out.2.1 (by rw [HP.out.1]; exact HNN.out) ?_, ?_⟩, HB3⟩
          · have := HSN.out; have := HSM.out
            first | rfl | (congr 1 <;> omega) | (simp; omega)
          · have := HLE.out; have := HH.out
            have e1 : IntKind.i64.wrap ((i : Int) + 1) = ((i + 1 : Nat) : Int) := by rw [IntKind.wrap_i64]; omega
            have e2 : wrap64 ((i : Int) + 1) = ((i + 1 : Nat) : Int) := by rw [wrap64]; omega
            first | rfl | (rw [← e1]; done) | (rw [← e2]; done) | (simp [e1]; done) | (simp [e2]; done) | (show Value.int .i64 _ = _; rw [e1]; done) | (show Value.int .i64 _ = _; rw [e2])
          · rw [take_sum ls i HH.out, ← HSS.out, HNN.out, List.getD_eq_getElem?_getD, List.getElem?_eq_getElem HH.out]; rfl
          · rw [HP.out.1, ← HSS.out]
            have := HP.out.2.2; have := HSN.out; have := HSM.out.2.1
            omega
          · have := HP.out.2.2; have := HSN.out; have := HSM.out.2.1; have := HCS.out
            omega
    · have h1 : (ls.length : Int) ≤ (i : Int) := by omega
      have HE := Aside0.mk (show i = ls.length from by have := HI.out; omega)
      clear hi
      go_wp2
      go_ret
      exact ⟨_, rfl, ps, HO.out, by rw [HP.out.1, HE.out], HP.out.2.1, HB.out⟩
end Go.Proofs.YteijndaldkkpfaaW.PrintMore
