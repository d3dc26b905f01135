/-
  Cut to what this claim uses.
-/
import Derived.Laws.IdiomStrings
import Derived.Test.YtjelhemaohjkdaaQTermL
namespace Go.Proofs.YtjelhemaohjkdaaW.PrintMore
set_option linter.unusedVariables false
set_option linter.unusedSimpArgs false
open Go.Proofs Go.Deep
open Go.RowKit Go.Proofs.YtjelhemaohjkdaaW.PrintWords
/-- One byte as a text. -/
theorem conv1 (W : World) (B : Nat) (hB : B = W.heap.size) (c : UInt8) : (convert 33 9 (.slice (some ⟨B, 0, none⟩) 1 1)).run Try.prog (W.alloc (.cells #[.int .u8 (c.toNat : Int)] 5)) = .ok (.string (ch c)) (W.alloc (.cells #[.int .u8 (c.toNat : Int)] 5)) := by
  subst hB
  exact run_convert_bytes_back (P := Try.prog) _ 33 9 5 ⟨W.heap.size, 0, none⟩ 1 [c] Try.underlying33 Try.underlying5 Try.underlying9 (fun j hj => by
    have : j = 0 := by simp at hj; omega
    subst this
    exact World.cell?_alloc_new _ _ _ _)
theorem nd_sign {W : World} {lo : Nat} {a c : Int} {A : Option Addr} {m k : Nat} {t : Tm} (h : NdAt W lo (ndV a c A m k) t) : (m = 0 ∧ c = (t.sg.toNat : Int) ∧ ∃ x, t = .leaf x) ∨ (m ≠ 0 ∧ a = (t.sg.toNat : Int)) := by
  cases t with
  | leaf x => obtain ⟨A', k', h⟩ := h; injection h with h; simp at h; exact .inl ⟨h.2.2.2.1, h.2.1, x, rfl⟩
  | un x y => obtain ⟨q, k', f0, f1, f2, h0, h, _⟩ := h; injection h with h; simp at h; exact .inr ⟨by omega, h.1⟩
  | bin x y z => obtain ⟨q, k', f0, f1, f2, f3, f4, f5, h0, h, _⟩ := h; injection h with h; simp at h; exact .inr ⟨by omega, h.1⟩
  | loop x u y z => obtain ⟨q, k', f0, f1, f2, f3, f4, f5, h0, h, _⟩ := h; injection h with h; simp at h; exact .inr ⟨by omega, h.1⟩
set_option maxHeartbeats 4000000 in
set_option maxRecDepth 100000 in
theorem spec_SignOf_walk (s : ByteArray) (w : World) (hs : s.size ≤ 1048576) : Calls Try.prog 16 #[.string s] w fun e w' => e = .returned (.string ((tmOf s.data.toList).elim ⟨#[]⟩ fun t => ch t.sg)) ∧ Below w.heap.size w w' := by
  have HS := Aside0.mk hs
  clear hs
  go_enter Try.func16, Try.ntmps16
  go_wp2_with fail
  refine (l5Read_walk s _ HS.out).mono ?_
  rintro e w1 ⟨a, c, A, m, k, rfl, hb, hs1, -⟩
  have HB := Aside0.mk hb
  clear hb
  unfold ndV
  cases ht : tmOf s.data.toList with
  | none =>
    have HT := Aside0.mk ht
    have e0 : (none : Option Tm).isSome = false := rfl
    rw [e0]
    go_wp2
    go_ret
    exact ⟨by rw [HT.out]; rfl, HB.out.alloc HB.out.size _⟩
  | some t =>
    have HT := Aside0.mk ht
    have e0 : (some t : Option Tm).isSome = true := rfl
    rw [e0]
    have hcv : ∀ o, (convert 33 9 (.slice (some ⟨w1.heap.size + 1, 0, none⟩) 1 1)).run Try.prog ((w1.alloc o).alloc (.cells #[.int .u8 (t.sg.toNat : Int)] 5)) = .ok (.string (ch t.sg)) ((w1.alloc o).alloc (.cells #[.int .u8 (t.sg.toNat : Int)] 5)) := fun o => conv1 (w1.alloc o) _ (by simp) t.sg
    rcases nd_sign (hs1 t ht) with ⟨rfl, rfl, -⟩ | ⟨h0, rfl⟩
    · clear hs1 ht
      go_wp2
      go_ret
      exact ⟨by rw [HT.out]; rfl, (HB.out.alloc HB.out.size _).alloc (Nat.le_trans HB.out.size (by simp)) _⟩
    · have h1 : ((m : Int) == 0) = false := by simp; omega
      clear hs1 ht h0
      go_wp2
      go_ret
      exact ⟨by rw [HT.out]; rfl, (HB.out.alloc HB.out.size _).alloc (Nat.le_trans HB.out.size (by simp)) _⟩
end Go.Proofs.YtjelhemaohjkdaaW.PrintMore
