/-
  Cut to what this claim uses.
-/
import Derived.Test.YtpklhagedifglaaQ0
import Derived.Test.YtpklhagedifglaaQTermP
namespace Go.Proofs.YtpklhagedifglaaW.PrintMore
set_option linter.unusedVariables false
set_option linter.unusedSimpArgs false
open Go.Proofs Go.Deep
open Go.RowKit Go.Proofs.YtpklhagedifglaaW.PrintWords Go.Proofs.YtpklhagedifglaaW.PrintLast Go.Proofs.YtpklhagedifglaaW.PrintMore
theorem str_info : (Try.prog.info? 9).map (fun i => (i.zero, i.size, i.bytes)) = some (some (.string ⟨#[]⟩), 1, 16) := by kernel_rfl
/-- The texts of a term's parts. -/
def Tm.ps : Tm → List ByteArray
  | .leaf _ => []
  | .un _ x => [x.tx]
  | .bin _ x y => [x.tx, y.tx]
  | .loop _ _ x y => [x.tx, y.tx]
theorem own_empty (w : World) (base : Nat) (h : base ≤ w.heap.size) : Kd.R Kd.string 9 (w.alloc (.cells #[] 9)) base (fun _ => True) (.slice (some ⟨w.heap.size, 0, none⟩) 0 0) [] := by
  refine Kd.R_of_own (enc := Value.string) (h1 := fun _ => rfl) ⟨by simp [encs], .inr ⟨w.heap.size, 0, #[], rfl, h, blk_new w _, Nat.le_refl _, by unfold maxLen; omega, rfl, rfl⟩⟩ (fun _ _ => trivial)
set_option maxHeartbeats 8000000 in
set_option maxRecDepth 100000 in
theorem impl_parts_node (s : ByteArray) (w : World) (t : Tm) (ht : tmOf s.data.toList = some t) (hsz : t.tx.size ≤ 80) :
    Calls Try.prog 11 #[.string s] w fun e w' => ∃ v, e = .returned v ∧ Kd.R Kd.string 9 w' w.heap.size (fun _ => True) v t.ps ∧ Below w.heap.size w w' := by
  have HT := Aside0.mk ht
  have HZ := Aside0.mk hsz
  clear ht hsz
  go_enter Try.func11, Try.ntmps11
  go_wp2_with fail
  refine (termOf_walk s _).mono ?_
  rintro e w1 ⟨v, rfl, hb, hres⟩
  obtain ⟨p, A, n, k, hn, rfl, h2, hk⟩ : ∃ (p : Nat) (A : Option Addr) (n k : Nat), n = t.ps.length ∧ v = .pointer (some ⟨p, 0, none⟩) ∧ w1.cell? ⟨p, 2, none⟩ = some (.slice A n k) ∧
      ∀ j, (hj : j < n) → ∃ a q, A = some ⟨a, 0, none⟩ ∧ w1.cell? ⟨a, j, none⟩ = some (.pointer (some ⟨q, 0, none⟩)) ∧ ∀ W, (∀ (p : Addr) (u : Value), w1.cell? p = some u → W.cell? p = some u) → Calls Try.prog 30 #[.pointer (some ⟨q, 0, none⟩)] W fun e w' => e = .returned (.string (t.ps.getD j ⟨#[]⟩)) ∧ ∃ n, w' = W.drewN n := by
    rcases hres with ⟨t', h1, hat⟩ | ⟨h1, _⟩
    · rw [HT.out] at h1; cases h1
      have hw := tmOf_wf HT.out
      have hz := HZ.out
      cases t with
      | leaf c => obtain ⟨p, rfl, h0, h1, h2⟩ := hat; exact ⟨p, none, 0, 0, rfl, rfl, h2, fun j hj => by omega⟩
      | un c x =>
        obtain ⟨p, a, xv, k, rfl, h0, h1, h2, h3, h4, h5⟩ := hat
        obtain ⟨q, rfl⟩ := tm_ptr0 h5
        simp only [Tm.tx, ByteArray.size_append] at hz
        refine ⟨p, some ⟨a, 0, none⟩, 1, k, rfl, rfl, h2, fun j hj => ?_⟩
        have : j = 0 := by omega
        subst this
        exact ⟨a, q, rfl, h4, fun W hb => text_walk x _ W hw (by omega) (tm_keep hb _ _ h5)⟩
      | bin c x y =>
        obtain ⟨p, a, xv, yv, k, rfl, h0, h1, h2, h3, h4, h5, h6, h7⟩ := hat
        obtain ⟨q, rfl⟩ := tm_ptr0 h6
        obtain ⟨r, rfl⟩ := tm_ptr0 h7
        simp only [Tm.tx, ByteArray.size_append] at hz
        refine ⟨p, some ⟨a, 0, none⟩, 2, k, rfl, rfl, h2, fun j hj => ?_⟩
        have : j = 0 ∨ j = 1 := by omega
        rcases this with rfl | rfl
        · exact ⟨a, q, rfl, h4, fun W hb => text_walk x _ W hw.1 (by omega) (tm_keep hb _ _ h6)⟩
        · exact ⟨a, r, rfl, h5, fun W hb => text_walk y _ W hw.2 (by omega) (tm_keep hb _ _ h7)⟩
      | loop c u x y =>
        obtain ⟨p, a, xv, yv, k, rfl, h0, h1, h2, h3, h4, h5, h6, h7⟩ := hat
        obtain ⟨q, rfl⟩ := tm_ptr0 h6
        obtain ⟨r, rfl⟩ := tm_ptr0 h7
        simp only [Tm.tx, ByteArray.size_append] at hz
        refine ⟨p, some ⟨a, 0, none⟩, 2, k, rfl, rfl, h2, fun j hj => ?_⟩
        have : j = 0 ∨ j = 1 := by omega
        rcases this with rfl | rfl
        · exact ⟨a, q, rfl, h4, fun W hb => text_walk x _ W hw.2.2.1 (by omega) (tm_keep hb _ _ h6)⟩
        · exact ⟨a, r, rfl, h5, fun W hb => text_walk y _ W hw.2.2.2 (by omega) (tm_keep hb _ _ h7)⟩
    · rw [HT.out] at h1; cases h1
  have hn2 : n ≤ 2 := by rw [hn]; cases t <;> simp [Tm.ps]
  have HN := Aside0.mk hn
  have HN2 := Aside0.mk hn2
  have HK := Aside0.mk hk
  have HR0 := Aside0.mk (show Kd.R Kd.string 9 w1 w.heap.size (fun k => k = w.heap.size ∨ w1.heap.size ≤ k) (.slice (some ⟨w.heap.size, 0, none⟩) 0 0) [] from (let h := Kd.R_below (own_empty w w.heap.size (Nat.le_refl _)) hb; ⟨fun k hk => .inl (Option.some.inj hk).symm, h.2.imp_ (fun _ _ hp => hp)⟩))
  have HE0 := Aside0.mk (show ∀ (p : Addr) (u : Value), w1.cell? p = some u → p.block ≠ w.heap.size from fun p u hp he => by
    have h1 := hb.block w.heap.size (by simp)
    have h2 : w1.heap[p.block]? = some (.cells #[] 9 (0, 0)) := by rw [he, h1]; exact blk_new w _
    simp [World.cell?, h2] at hp)
  have HB0 := Aside0.mk (show Below w.heap.size w w1 from ((Below.refl _ w).alloc (Nat.le_refl _) _).trans (hb.mono (by simp)))
  clear hn hn2 hk hb hres
  go_wp2
  go_loopg [3, 17] n (fun kq v3 v17 w' => ∃ i : Nat, v17 = .int .i64 (i : Int) ∧ Aside0 (kq + i = n) ∧ Aside0 (Kd.R Kd.string 9 w' w.heap.size (fun k => k = w.heap.size ∨ w1.heap.size ≤ k) v3 (t.ps.take i)) ∧ Aside0 (Below w.heap.size w w') ∧ Aside0 (w1.heap.size ≤ w'.heap.size) ∧ Aside0 (∀ (p : Addr) (u : Value), w1.cell? p = some u → w'.cell? p = some u))
  case atStart => exact ⟨0, rfl, ⟨by omega⟩, HR0, HB0, ⟨Nat.le_refl _⟩, ⟨fun _ _ h => h⟩⟩
  case round =>
    obtain ⟨i, rfl, HI, HO, HB, HSZ, HKP⟩ := hrel
    by_cases hi : i < n
    · have h1 : (i : Int) < (n : Int) := by omega
      have h0 : (0 : Int) ≤ (i : Int) := by omega
      obtain ⟨a, q, rfl, hc, hcall⟩ := HK.out i hi
      have hc' : wr.cell? ⟨a, i, none⟩ = some (.pointer (some ⟨q, 0, none⟩)) := HKP.out _ _ hc
      have HC := Aside0.mk hcall
      have HH := Aside0.mk hi
      clear hcall hc hi
      go_wp2_with fail
      refine (HC.out wr HKP.out).mono ?_
      rintro e w2 ⟨rfl, nd, rfl⟩
      obtain ⟨P, hP⟩ : ∃ P, P = t.ps.getD i ⟨#[]⟩ := ⟨_, rfl⟩
      rw [← hP]
      have HPT := Aside0.mk hP
      have HO2 := Aside0.mk (Kd.R_drewN HO.out nd)
      have HB2 := Aside0.mk (pw_below_drewN HB.out nd)
      have HLX := Aside0.mk (show (t.ps.take i).length ≤ 2 from by have := HN2.out; have := HN.out; simp; omega)
      clear hc' hP
      go_wp2_with (first | ((with_reducible refine gate_builtin (b := .append) (xs := #[.tmp 21, .tmp 24]) rfl ?_); at_builtin; refine Kd.R_append Kd.string (w0 := w) w.heap.size rfl (.tmp 21) (.tmp 24) 27 9 (.string ⟨#[]⟩) 16 rfl Try.underlying27 str_info rfl (by decide) (by omega) _ (t.ps.take i) P [.string P] (fun k => k = w.heap.size ∨ w1.heap.size ≤ k) (fun _ => False) rfl rfl ?aP (fun _ hk => hk.elim) ?aF ?aO ?aB ?aS ?aL ?_; (case aP => exact rfl); (case aF => exact fun k hk => .inr (Nat.le_trans HSZ.out hk)); (case aO => exact HO2.out); (case aB => exact HB2.out); (case aS => exact HB2.out.size); (case aL => have := HLX.out; omega); intro v4 w21 ho hb4 hg4 hat4; have HO3 := Aside0.mk ho; have HB3 := Aside0.mk hb4; have HG3 := Aside0.mk hg4; clear ho hb4 hg4 hat4))
      have HG4 := Aside0.mk (show wr.grownBy w21 u3.ownBlock from ⟨HG3.out.os, HG3.out.tape, HG3.out.output, HG3.out.size, HG3.out.block⟩)
      have HW := Aside0.mk (show wrap64 ((i : Int) + 1) = ((i + 1 : Nat) : Int) from by have := HN2.out; have := HH.out; rw [wrap64]; omega)
      go_roundg (gk - 1)
      case measure => have := HI.out; have := HH.out; omega
      case rel =>
        refine ⟨i + 1, by rw [HW.out], ⟨by have := HI.out; have := HH.out; omega⟩, ⟨?_⟩, HB3, ⟨Nat.le_trans HSZ.out HG4.out.size⟩, ⟨?_⟩⟩
        · have hl : i < t.ps.length := by have := HH.out; have := HN.out; omega
          have e1 : t.ps.take (i + 1) = t.ps.take i ++ [P] := by
            rw [List.take_add_one, HPT.out, List.getD_eq_getElem?_getD, List.getElem?_eq_getElem hl]; rfl
          rw [e1]; exact HO3.out
        · intro p u hp
          have h1 := HKP.out p u hp
          have h2 := World.block_lt_of_cell? wr _ h1
          have h3 := World.block_lt_of_cell? w1 _ hp
          refine (World.cell?_of_block (w := wr) (HG4.out.block p.block h2 fun he => ?_)).trans h1
          rcases HO.out.1 p.block he.symm with h4 | h4
          · exact HE0.out p u hp h4
          · omega
    · have h1 : (n : Int) ≤ (i : Int) := by omega
      have HE := Aside0.mk (show i = n from by have := HI.out; omega)
      clear hi
      go_wp2
      go_ret
      refine ⟨_, rfl, ?_, HB.out⟩
      have h := HO.out
      rw [HE.out, HN.out, List.take_of_length_le (Nat.le_refl _)] at h
      exact Kd.R_mono h (fun _ _ => trivial)
end Go.Proofs.YtpklhagedifglaaW.PrintMore
