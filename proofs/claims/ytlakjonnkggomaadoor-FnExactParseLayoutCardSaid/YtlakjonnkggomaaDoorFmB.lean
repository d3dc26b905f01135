/-
  Texts of numbers: the walks of spaced, FormatLayout (of the program); l13Dec, l2Numbers, FormatLayout (of the reference).
-/
import Derived.Test.YtlakjonnkggomaaDoorFmA
namespace Go.Proofs.YtlakjonnkggomaaDoorW.PrintMore
set_option linter.unusedVariables false
set_option linter.unusedSimpArgs false
open Go.Proofs Go.Deep
open Go.RowKit Go.Proofs.YtlakjonnkggomaaDoorW.PrintWords Go.Proofs.YtlakjonnkggomaaDoorW.PrintLast Go.Proofs.YtlakjonnkggomaaDoorW.PrintMore
theorem cell_keep {W W' : World} (h : Below W.heap.size W W') (p : Addr) (u : Value) (hp : W.cell? p = some u) : W'.cell? p = some u := (h.cell (World.block_lt_of_cell? W _ hp)).trans hp
theorem C_below {w W : World} {A : Option Addr} {n : Nat} {l : List Int} (h : Kd.C (Kd.int .i64) w A n l) (hb : Below w.heap.size w W) : Kd.C (Kd.int .i64) W A n l := by
  first | exact Kd.C_below h hb | exact Kd.C_keep h (fun p u hp => cell_keep hb p u hp)
theorem own_empty (w : World) (base : Nat) (h : base ≤ w.heap.size) : Kd.R Kd.string 9 (w.alloc (.cells #[] 9)) base (fun _ => True) (.slice (some ⟨w.heap.size, 0, none⟩) 0 0) [] := by
  refine Kd.R_of_own (enc := Value.string) (h1 := fun _ => rfl) ⟨by simp [encs], .inr ⟨w.heap.size, 0, #[], rfl, h, blk_new w _, Nat.le_refl _, by unfold maxLen; omega, rfl, rfl⟩⟩ (fun _ _ => trivial)
theorem take_map_snoc {α : Type} (f : Int → α) (l : List Int) (i : Nat) (hi : i < l.length) (d : Int) : (l.take (i + 1)).map f = (l.take i).map f ++ [f (l.getD i d)] := by
  rw [List.take_add_one, List.getElem?_eq_getElem hi, List.map_append, List.getD_eq_getElem?_getD, List.getElem?_eq_getElem hi]; rfl
theorem spaced_nil (w : World) (A0 : Option Addr) (c0 : Nat) :
    Calls Tryd.prog 22 #[.slice A0 0 c0] w fun e w' => e = .returned (.string ⟨#[45]⟩) ∧ Below w.heap.size w w' := by
  go_enter Tryd.func22, Tryd.ntmps22
  go_wp2
  go_ret
  exact ⟨rfl, Below.refl _ _⟩
set_option maxHeartbeats 8000000 in
set_option maxRecDepth 100000 in
theorem spaced_many (w : World) (A0 : Option Addr) (c0 : Nat) (l : List Int) (hr : Kd.C (Kd.int .i64) w A0 l.length l) (hR : InR l) (hlen : l.length ≤ 1048576) (hne : l ≠ []) (hp : Pow w) :
    Calls Tryd.prog 22 #[.slice A0 l.length c0] w fun e w' => e = .returned (.string (decs l 32)) ∧ Below w.heap.size w w' := by
  obtain ⟨n, hn⟩ : ∃ n, n = l.length := ⟨_, rfl⟩
  have hn0 : 0 < n := by rw [hn]; exact List.length_pos_iff.2 hne
  have HN := Aside0.mk hn
  have hz : ((n : Int) == 0) = false := by rw [beq_eq_false_iff_ne]; omega
  have HN0 := Aside0.mk hn0
  have HLE := Aside0.mk (show n ≤ 1048576 by omega)
  have HR := Aside0.mk hr
  have HRG := Aside0.mk hR
  have HP := Aside0.mk hp
  have HO0 := Aside0.mk (own_empty w w.heap.size (Nat.le_refl _))
  have HB0 := Aside0.mk (show Below w.heap.size w (w.alloc (.cells #[] 9)) from (Below.refl _ w).alloc (Nat.le_refl _) _)
  rw [← hn] at hr ⊢
  clear hr hR hlen hne hp hn hn0
  go_enter Tryd.func22, Tryd.ntmps22
  go_wp2
  go_loopg [3, 12] n (fun kq v3 v12 w' => ∃ i : Nat, v12 = .int .i64 (i : Int) ∧ Aside0 (kq + i = n) ∧ Aside0 (Kd.R Kd.string 9 w' w.heap.size (fun _ => True) v3 ((l.take i).map dec)) ∧ Aside0 (Below w.heap.size w w'))
  case atStart => exact ⟨0, rfl, ⟨by omega⟩, HO0, HB0⟩
  case round =>
    obtain ⟨i, rfl, HI, HO, HB⟩ := hrel
    by_cases hi : i < n
    · have h1 : (i : Int) < (n : Int) := by omega
      have h0 : (0 : Int) ≤ (i : Int) := by omega
      have hil : i < l.length := by rw [← HN.out]; exact hi
      obtain ⟨ad, rfl, hc⟩ := Kd.at_int (C_below HR.out HB.out) (i : Int) h0 (by rw [← HN.out]; exact h1)
      obtain ⟨x, hx⟩ : ∃ x, x = l.getD i 0 := ⟨_, rfl⟩
      have hc' : wr.cell? (ad.add i) = some (.int .i64 x) := by rw [hx]; simpa [rd] using hc
      have hxr := HRG.out x (by rw [hx, List.getD_eq_getElem?_getD, List.getElem?_eq_getElem hil]; exact List.getElem_mem _)
      have HX := Aside0.mk hx
      have HXR := Aside0.mk hxr
      have HH := Aside0.mk hi
      have HIL := Aside0.mk hil
      clear hc hi hx hxr hil
      go_wp2_with fail
      refine (fm_Itoa x HXR.out.1 HXR.out.2 wr (HP.out.keep HB.out (Nat.le_refl _))).mono ?_
      rintro e w2 ⟨rfl, hb⟩
      have HO2 := Aside0.mk (Kd.R_below HO.out hb)
      have HB2 := Aside0.mk (HB.out.trans (hb.mono HB.out.size))
      have HLX := Aside0.mk (show ((l.take i).map dec).length ≤ 1048576 from by have := HLE.out; have := HH.out; simp; omega)
      clear hc' hb
      go_wp2_with (first | ((with_reducible refine gate_builtin (b := .append) (xs := #[.tmp 16, .tmp 19]) rfl ?_); at_builtin; refine Kd.R_append Kd.string (w0 := w) w.heap.size rfl (.tmp 16) (.tmp 19) 46 9 (.string ⟨#[]⟩) 16 rfl Tryd.underlying46 str_info rfl (by decide) (by omega) _ ((l.take i).map dec) (dec x) [.string (dec x)] (fun _ => True) (fun _ => False) rfl rfl ?aP (fun _ hk => hk.elim) ?aF ?aO ?aB ?aS ?aL ?_; (case aP => exact rfl); (case aF => exact fun _ _ => trivial); (case aO => exact HO2.out); (case aB => exact HB2.out); (case aS => exact HB2.out.size); (case aL => have := HLX.out; omega); intro v4 w21 ho hb4 hg4 hat4; have HO3 := Aside0.mk ho; have HB3 := Aside0.mk hb4; clear ho hb4 hg4 hat4))
      have HW := Aside0.mk (show wrap64 ((i : Int) + 1) = ((i + 1 : Nat) : Int) from by have := HLE.out; have := HH.out; rw [wrap64]; omega)
      go_roundg (gk - 1)
      case measure => have := HI.out; have := HH.out; omega
      case rel =>
        refine ⟨i + 1, by rw [HW.out], ⟨by have := HI.out; have := HH.out; omega⟩, ⟨?_⟩, HB3⟩
        rw [take_map_snoc dec l i HIL.out 0, ← HX.out]
        exact HO3.out
    · have h1 : (n : Int) ≤ (i : Int) := by omega
      have HE := Aside0.mk (show i = n from by have := HI.out; omega)
      clear hi
      have hO := HO.out
      rw [HE.out, HN.out, List.take_of_length_le (Nat.le_refl _)] at hO
      have HO1 := Aside0.mk hO
      have HLM := Aside0.mk (show (l.map dec).length = n by rw [List.length_map, HN.out])
      have HSZ := Aside0.mk (show (joinB (l.map dec) ⟨#[32]⟩).size ≤ 140737488355328 from by have := decs_size l 32 HRG.out; have h := HLE.out; have := HN.out; unfold decs at *; omega)
      clear hO
      go_wp2_with fail
      refine (fm_Join u3 w.heap.size (l.map dec) ⟨#[32]⟩ wr HO1.out (by rw [HLM.out]; exact HN0.out) (by rw [HLM.out]; have := HLE.out; omega) HSZ.out).mono ?_
      rintro e w2 ⟨rfl, hb⟩
      have HB2 := Aside0.mk (HB.out.trans (hb.mono HB.out.size))
      clear hb
      go_wp2
      go_ret
      exact ⟨rfl, HB2.out⟩
theorem spaced_walk (w : World) (A0 : Option Addr) (c0 : Nat) (l : List Int) (hr : Kd.C (Kd.int .i64) w A0 l.length l) (hR : InR l) (hlen : l.length ≤ 1048576) (hp : Pow w) :
    Calls Tryd.prog 22 #[.slice A0 l.length c0] w fun e w' => e = .returned (.string (spB l)) ∧ Below w.heap.size w w' := by
  unfold spB
  by_cases hl : l = []
  · subst hl; rw [if_pos rfl]; exact spaced_nil w A0 c0
  · rw [if_neg hl]; exact spaced_many w A0 c0 l hr hR hlen hl hp
end Go.Proofs.YtlakjonnkggomaaDoorW.PrintMore
