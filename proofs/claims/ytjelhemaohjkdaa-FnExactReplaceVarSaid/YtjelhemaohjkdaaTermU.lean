/-
  The instructions of a term: the program's.
-/
import Derived.BigRegion
import Derived.Deep.RegionHeld3
import Derived.Test.YtjelhemaohjkdaaTermQ
namespace Go.Proofs.YtjelhemaohjkdaaW.PrintMore
set_option linter.unusedVariables false
set_option linter.unusedSimpArgs false
open Go.Proofs Go.Deep
open Go.RowKit Go.Proofs.YtjelhemaohjkdaaW.PrintWords Go.Proofs.YtjelhemaohjkdaaW.PrintLast Go.Proofs.YtjelhemaohjkdaaW.PrintMore
/-- One operation, by what is known of a list of one. -/
theorem wp_of_list {P : Program} {o : Oper} {a : Act} {W : World} {K : Act → World → Prop} {Q : Exit → Act → World → Prop} (hg : o.guard = none)
    (h : wpList P #[] (fun e b V => match e with | .normal => K b V | _ => False) [o] a W) : Oper.wp P o a W K Q := by
  unfold wpList at h
  rw [if_pos (by simp [Region.wanted, hg])] at h
  rcases h with h | ⟨_, a', w', hf⟩
  · unfold Oper.wp at h ⊢
    generalize (execOp a.eval o).run P W = r at *
    cases r with
    | ok n w' =>
      cases n <;> simp only [Oper.upon] at h ⊢ <;> try exact h
      case enter f args =>
        refine Calls.mono h fun e w'' he => ?_
        cases e with
        | returned u => exact he
        | panicked c => exact he.elim
        | outgrown => obtain ⟨_, _, h⟩ := he; exact h.elim
    | halt x w' =>
      cases x <;> simp only [Oper.upon] at h ⊢ <;> exact h.elim
  · exact hf.elim
/-- The instructions of a term. -/
def Tm.cs : Tm → List ByteArray
  | .leaf c => [ch c]
  | .un c x => x.cs ++ [ch c]
  | .bin c x y => x.cs ++ y.cs ++ [ch c]
  | .loop c u x y => x.cs ++ [ch c ++ ch u] ++ y.cs ++ [ch (c + 2)]
set_option maxHeartbeats 8000000 in
set_option maxRecDepth 100000 in
theorem instr_node (w : World) (p : Nat) (A : Option Nat) (n k : Nat) (S c : Nat → List ByteArray) (sg vs fin : ByteArray) (isl : Bool) (hn : n ≤ 2) (h0 : w.cell? ⟨p, 0, none⟩ = some (.string sg)) (h1 : w.cell? ⟨p, 1, none⟩ = some (.string vs)) (h2 : w.cell? ⟨p, 2, none⟩ = some (.slice (A.map fun a => ⟨a, 0, none⟩) n k))
    (hz : sg.size + vs.size ≤ 1000)
    (hl : ∀ W, W.cell? ⟨p, 1, none⟩ = some (.string vs) → Calls Try.prog 67 #[.pointer (some ⟨p, 0, none⟩)] W fun e w' => e = .returned (.bool isl) ∧ w' = W)
    (hfin : isl = true → ∀ W, Calls Try.prog 68 #[.string sg] W fun e w' => e = .returned (.string fin) ∧ w' = W) (hfin2 : isl = false → fin = sg)
    (hk : ∀ j, j < n → (c j).length ≤ 1000 ∧ ∃ a q, A = some a ∧ w.cell? ⟨a, j, none⟩ = some (.pointer (some ⟨q, 0, none⟩)) ∧ ∀ W, Below w.heap.size w W → Calls Try.prog 54 #[.pointer (some ⟨q, 0, none⟩)] W fun e w' => ∃ v, e = .returned v ∧ Kd.R Kd.string 9 w' W.heap.size (fun _ => True) v (c j) ∧ Below W.heap.size W w')
    (hS0 : S 0 = []) (hSl : ∀ j, j ≤ n → (S j).length ≤ 10000) (hS : ∀ j, S (j + 1) = (if j = 1 ∧ isl = true then S j ++ [sg ++ vs] else S j) ++ c j) :
    Calls Try.prog 54 #[.pointer (some ⟨p, 0, none⟩)] w fun e w' => ∃ v, e = .returned v ∧ Kd.R Kd.string 9 w' w.heap.size (fun _ => True) v (S n ++ [fin]) ∧ Below w.heap.size w w' := by
  have HK := Aside0.mk hk
  have HS := Aside0.mk hS
  have HSL := Aside0.mk hSl
  have HN := Aside0.mk hn
  have HL := Aside0.mk hl
  have HF := Aside0.mk hfin
  have HF2 := Aside0.mk hfin2
  have H0 := Aside0.mk h0
  have H1 := Aside0.mk h1
  have HZ := Aside0.mk hz
  have HO0 := Aside0.mk (show Kd.R Kd.string 9 (w.alloc (.cells #[] 9)) w.heap.size (fun _ => True) (.slice (some ⟨w.heap.size, 0, none⟩) 0 0) (S 0) from hS0 ▸ own_empty w w.heap.size (Nat.le_refl _))
  have HB0 := Aside0.mk (show Below w.heap.size w (w.alloc (.cells #[] 9)) from (Below.refl _ w).alloc (Nat.le_refl _) _)
  have k2 := cell_keep HB0.out _ _ h2
  clear hk hS hn hl h0 h1 hfin hfin2 hz hSl hS0
  go_enter Try.func54, Try.ntmps54
  go_wp2
  go_loopg [3, 12] n (fun kq v3 v12 w' => ∃ i : Nat, v12 = .int .i64 (i : Int) ∧ Aside0 (kq + i = n) ∧ Aside0 (Kd.R Kd.string 9 w' w.heap.size (fun _ => True) v3 (S i)) ∧ Aside0 (Below w.heap.size w w'))
  case atStart => exact ⟨0, rfl, ⟨by omega⟩, HO0, HB0⟩
  case round =>
    obtain ⟨i, rfl, HI, HO, HB⟩ := hrel
    by_cases hi : i < n
    · have hlt : (i : Int) < (n : Int) := by omega
      have h0 : (0 : Int) ≤ (i : Int) := by omega
      obtain ⟨hcl, a, q, rfl, hc, hcall⟩ := HK.out i hi
      have hc' : wr.cell? ⟨a, i, none⟩ = some (.pointer (some ⟨q, 0, none⟩)) := cell_keep HB.out _ _ hc
      have HC := Aside0.mk hcall
      have HCL := Aside0.mk hcl
      have HH := Aside0.mk hi
      have HS1 := Aside0.mk (HS.out i)
      clear hcall hc hi hcl
      by_cases i1 : i = 1
      · have q1 : ((i : Int) == 1) = true := by simp; omega
        have HI1 := Aside0.mk i1
        clear i1
        cases isl with
        | true =>
          go_wp2_with (go_at_call 67; refine (HL.out _ (cell_keep HB.out _ _ H1.out)).mono ?_; rintro e wz ⟨rfl, hw⟩; rw [hw]; clear hw wz)
          have g0 := cell_keep HB.out _ _ H0.out
          have g1 := cell_keep HB.out _ _ H1.out
          have sz0 : (9223372036854775807 < sg.size + vs.size) = False := eq_false (by have := HZ.out; omega)
          go_region_held3 (fun w' => w'.cell? ⟨p, 0, none⟩ = some (.string sg) ∧ w'.cell? ⟨p, 1, none⟩ = some (.string vs))
            (first | (exact ⟨g0, g1⟩) | (refine ⟨?_, ?_⟩ <;> first | assumption | exact cell_alloc_keep _ _ _ _ (by assumption) | exact cell_keep (by assumption) _ _ (by assumption)))
            (first | ((rw [if_pos (by rfl)]); refine wp_of_list rfl (Kd.R_append Kd.string (w0 := w) w.heap.size rfl (.tmp 23) (.tmp 33) 25 9 (.string ⟨#[]⟩) 16 rfl Try.underlying25 str_info rfl (by decide) (by omega) _ (S i) (sg ++ vs) [.string (sg ++ vs)] (fun _ => True) (fun _ => False) rfl rfl rfl (fun _ hk => hk.elim) (fun _ _ => trivial) (Kd.R_drew HO.out) (below_drew1 HB.out) (below_drew1 HB.out).size (by have := HSL.out i (Nat.le_of_lt HH.out); omega) ?_); intro v4 w21 ho hb4 hg4 hat4; have HO3 := Aside0.mk ho; have HB3 := Aside0.mk hb4; have g0' := cell_keep hb4 _ _ H0.out; have g1' := cell_keep hb4 _ _ H1.out; clear ho hb4 hg4 hat4; unfold wpList; dsimp only))
          have HOX := HO3
          have HBX := HB3
          clear HO3 HB3
          go_wp2_with fail
          refine (HC.out _ HBX.out).mono ?_
          rintro e w2 ⟨vr, rfl, hR, hb2⟩
          obtain ⟨Ar, cr, rfl, hle, hCR⟩ := Kd.R_reads hR
          have HCR := Aside0.mk hCR
          have HO2 := Aside0.mk (Kd.R_below HOX.out hb2)
          have HB2 := Aside0.mk (HBX.out.trans (hb2.mono HBX.out.size))
          clear hR hb2 hle hCR
          have HLX := Aside0.mk (show (S i ++ [sg ++ vs]).length ≤ 10001 from by have := HSL.out i (Nat.le_of_lt HH.out); simp; omega)
          go_wp2_with (first | ((with_reducible refine gate_builtin (b := .append) (xs := #[.tmp 35, .tmp 37]) rfl ?_); at_builtin; refine Kd.R_append_row Value.string (⟨#[]⟩ : ByteArray) (h1 := fun _ => rfl) (w0 := w) w.heap.size rfl (.tmp 35) (.tmp 37) 25 9 (.string ⟨#[]⟩) 16 rfl Try.underlying25 str_info rfl (by decide) _ (S i ++ [sg ++ vs]) (c i) _ _ _ (fun _ => True) rfl rfl (fun _ _ => trivial) ?aO ?aC ?aB ?aS ?aL ?_; (case aO => exact HO2.out); (case aC => exact HCR.out); (case aB => exact HB2.out); (case aS => exact HB2.out.size); (case aL => have := HLX.out; have := HCL.out; omega); intro v4 w21 ho hb4 hg4 hat4; have HO3 := Aside0.mk ho; have HB3 := Aside0.mk hb4; clear ho hb4 hg4 hat4))
          go_roundg (gk - 1)
          case measure => have := HI.out; have := HH.out; omega
          case rel =>
            refine ⟨i + 1, ?_, ⟨by have := HI.out; have := HH.out; omega⟩, ⟨?_⟩, HB3⟩
            · have := HN.out; have := HH.out
              have e1 : IntKind.i64.wrap ((i : Int) + 1) = ((i + 1 : Nat) : Int) := by rw [IntKind.wrap_i64]; omega
              have e2 : wrap64 ((i : Int) + 1) = ((i + 1 : Nat) : Int) := by rw [wrap64]; omega
              first | (rw [← e1]; done) | (rw [← e2]; done) | (simp [e1]; done) | (simp [e2]; done) | (show Value.int .i64 _ = _; rw [e1]; done) | (show Value.int .i64 _ = _; rw [e2])
            · rw [HS1.out, if_pos (by simp [HI1.out])]; exact HO3.out
        | false =>
          have HOX := HO
          have HBX := HB
          go_wp2_with (go_at_call 67; refine (HL.out _ (cell_keep HB.out _ _ H1.out)).mono ?_; rintro e wz ⟨rfl, hw⟩; rw [hw]; clear hw wz)
          refine (HC.out _ HBX.out).mono ?_
          rintro e w2 ⟨vr, rfl, hR, hb2⟩
          obtain ⟨Ar, cr, rfl, hle, hCR⟩ := Kd.R_reads hR
          have HCR := Aside0.mk hCR
          have HO2 := Aside0.mk (Kd.R_below HOX.out hb2)
          have HB2 := Aside0.mk (HBX.out.trans (hb2.mono HBX.out.size))
          clear hR hb2 hle hCR
          have HLX := Aside0.mk (show (S i).length ≤ 10001 from by have := HSL.out i (Nat.le_of_lt HH.out); simp; omega)
          go_wp2_with (first | ((with_reducible refine gate_builtin (b := .append) (xs := #[.tmp 35, .tmp 37]) rfl ?_); at_builtin; refine Kd.R_append_row Value.string (⟨#[]⟩ : ByteArray) (h1 := fun _ => rfl) (w0 := w) w.heap.size rfl (.tmp 35) (.tmp 37) 25 9 (.string ⟨#[]⟩) 16 rfl Try.underlying25 str_info rfl (by decide) _ (S i) (c i) _ _ _ (fun _ => True) rfl rfl (fun _ _ => trivial) ?aO ?aC ?aB ?aS ?aL ?_; (case aO => exact HO2.out); (case aC => exact HCR.out); (case aB => exact HB2.out); (case aS => exact HB2.out.size); (case aL => have := HLX.out; have := HCL.out; omega); intro v4 w21 ho hb4 hg4 hat4; have HO3 := Aside0.mk ho; have HB3 := Aside0.mk hb4; clear ho hb4 hg4 hat4))
          go_roundg (gk - 1)
          case measure => have := HI.out; have := HH.out; omega
          case rel =>
            refine ⟨i + 1, ?_, ⟨by have := HI.out; have := HH.out; omega⟩, ⟨?_⟩, HB3⟩
            · have := HN.out; have := HH.out
              have e1 : IntKind.i64.wrap ((i : Int) + 1) = ((i + 1 : Nat) : Int) := by rw [IntKind.wrap_i64]; omega
              have e2 : wrap64 ((i : Int) + 1) = ((i + 1 : Nat) : Int) := by rw [wrap64]; omega
              first | (rw [← e1]; done) | (rw [← e2]; done) | (simp [e1]; done) | (simp [e2]; done) | (show Value.int .i64 _ = _; rw [e1]; done) | (show Value.int .i64 _ = _; rw [e2])
            · rw [HS1.out, if_neg (by simp)]; exact HO3.out
      · have q1 : ((i : Int) == 1) = false := by simp; omega
        have HI1 := Aside0.mk i1
        clear i1
        have HOX := HO
        have HBX := HB
        go_wp2_with fail
        refine (HC.out _ HBX.out).mono ?_
        rintro e w2 ⟨vr, rfl, hR, hb2⟩
        obtain ⟨Ar, cr, rfl, hle, hCR⟩ := Kd.R_reads hR
        have HCR := Aside0.mk hCR
        have HO2 := Aside0.mk (Kd.R_below HOX.out hb2)
        have HB2 := Aside0.mk (HBX.out.trans (hb2.mono HBX.out.size))
        clear hR hb2 hle hCR
        have HLX := Aside0.mk (show (S i).length ≤ 10001 from by have := HSL.out i (Nat.le_of_lt HH.out); simp; omega)
        go_wp2_with (first | ((with_reducible refine gate_builtin (b := .append) (xs := #[.tmp 35, .tmp 37]) rfl ?_); at_builtin; refine Kd.R_append_row Value.string (⟨#[]⟩ : ByteArray) (h1 := fun _ => rfl) (w0 := w) w.heap.size rfl (.tmp 35) (.tmp 37) 25 9 (.string ⟨#[]⟩) 16 rfl Try.underlying25 str_info rfl (by decide) _ (S i) (c i) _ _ _ (fun _ => True) rfl rfl (fun _ _ => trivial) ?aO ?aC ?aB ?aS ?aL ?_; (case aO => exact HO2.out); (case aC => exact HCR.out); (case aB => exact HB2.out); (case aS => exact HB2.out.size); (case aL => have := HLX.out; have := HCL.out; omega); intro v4 w21 ho hb4 hg4 hat4; have HO3 := Aside0.mk ho; have HB3 := Aside0.mk hb4; clear ho hb4 hg4 hat4))
        go_roundg (gk - 1)
        case measure => have := HI.out; have := HH.out; omega
        case rel =>
          refine ⟨i + 1, ?_, ⟨by have := HI.out; have := HH.out; omega⟩, ⟨?_⟩, HB3⟩
          · have := HN.out; have := HH.out
            have e1 : IntKind.i64.wrap ((i : Int) + 1) = ((i + 1 : Nat) : Int) := by rw [IntKind.wrap_i64]; omega
            have e2 : wrap64 ((i : Int) + 1) = ((i + 1 : Nat) : Int) := by rw [wrap64]; omega
            first | (rw [← e1]; done) | (rw [← e2]; done) | (simp [e1]; done) | (simp [e2]; done) | (show Value.int .i64 _ = _; rw [e1]; done) | (show Value.int .i64 _ = _; rw [e2])
          · rw [HS1.out, if_neg (by simp [HI1.out])]; exact HO3.out
    · have h1 : (n : Int) ≤ (i : Int) := by omega
      have HE := Aside0.mk (show i = n from by have := HI.out; omega)
      clear hi
      have HOE := Aside0.mk (HE.out ▸ HO.out)
      have HLX := Aside0.mk (HSL.out n (Nat.le_refl _))
      have g0 := cell_keep HB.out _ _ H0.out
      cases isl with
      | true =>
        go_wp2_with (first | (go_at_call 67; refine (HL.out _ (cell_keep HB.out _ _ H1.out)).mono ?_; rintro e wz ⟨rfl, hw⟩; rw [hw]; clear hw wz) | (go_at_call 68; refine (HF.out (by first | rfl | trivial) _).mono ?_; rintro e wz ⟨rfl, hw⟩; rw [hw]; clear hw wz) | ((with_reducible refine gate_builtin (b := .append) (xs := #[.tmp 42, .tmp 48]) rfl ?_); at_builtin; refine Kd.R_append Kd.string (w0 := w) w.heap.size rfl (.tmp 42) (.tmp 48) 25 9 (.string ⟨#[]⟩) 16 rfl Try.underlying25 str_info rfl (by decide) (by omega) _ (S n) fin [.string fin] (fun _ => True) (fun _ => False) rfl rfl ?aP (fun _ hk => hk.elim) ?aF ?aO ?aB ?aS ?aL ?_; (case aP => exact rfl); (case aF => exact fun _ _ => trivial); (case aO => exact HOE.out); (case aB => exact HB.out); (case aS => exact HB.out.size); (case aL => have := HLX.out; omega); intro v4 w21 ho hb4 hg4 hat4; have HO3 := Aside0.mk ho; have HB3 := Aside0.mk hb4; clear ho hb4 hg4 hat4))
        go_ret
        exact ⟨_, rfl, HO3.out, HB3.out⟩
      | false =>
        have hf := HF2.out (by first | rfl | trivial)
        subst hf
        go_wp2_with (first | (go_at_call 67; refine (HL.out _ (cell_keep HB.out _ _ H1.out)).mono ?_; rintro e wz ⟨rfl, hw⟩; rw [hw]; clear hw wz) | ((with_reducible refine gate_builtin (b := .append) (xs := #[.tmp 50, .tmp 55]) rfl ?_); at_builtin; refine Kd.R_append Kd.string (w0 := w) w.heap.size rfl (.tmp 50) (.tmp 55) 25 9 (.string ⟨#[]⟩) 16 rfl Try.underlying25 str_info rfl (by decide) (by omega) _ (S n) fin [.string fin] (fun _ => True) (fun _ => False) rfl rfl ?aP (fun _ hk => hk.elim) ?aF ?aO ?aB ?aS ?aL ?_; (case aP => exact rfl); (case aF => exact fun _ _ => trivial); (case aO => exact HOE.out); (case aB => exact HB.out); (case aS => exact HB.out.size); (case aL => have := HLX.out; omega); intro v4 w21 ho hb4 hg4 hat4; have HO3 := Aside0.mk ho; have HB3 := Aside0.mk hb4; clear ho hb4 hg4 hat4))
        go_ret
        exact ⟨_, rfl, HO3.out, HB3.out⟩
end Go.Proofs.YtjelhemaohjkdaaW.PrintMore
