/-
  Cut to what this claim uses.
-/
import Derived.Test.YteijndaldkkpfaaQSortA
namespace Go.Proofs.YteijndaldkkpfaaW.SortW
open Go.Proofs Go.Shelf Go.RowKit Go.Lib Go.Sort
open Go.Proofs.YteijndaldkkpfaaW.PrintWords Go.Proofs.YteijndaldkkpfaaW.PrintLast
set_option linter.unusedVariables false
set_option linter.unusedSimpArgs false
variable {α : Type} [Inhabited α]
set_option maxHeartbeats 16000000 in
set_option maxRecDepth 1000000 in
theorem insertion_walk (enc : α → Value) (cf : α → α → Int) (g : Nat) (cb : Array Value) (blk off cap a b N : Nat) (d0 d : Array α) (w0 w : World)
    (eg : ∀ args w, (callFunc g args).run Try.prog w = .ok (.enter g args) w) (hcmp : CmpLays1 Try.prog g cb enc cf blk off d0.size w0) (R : Row1 enc w0 blk off d0) (hs0 : d0.size = N) (hsd : d.size = N) (S : SW enc w0 blk off d w) (hab : a ≤ b) (hb : b ≤ N) (hsz : N < 4611686018427387904) :
    Calls Try.prog 101 #[.slice (some ⟨blk, off, none⟩) N cap, .int .i64 a, .int .i64 b, .func (.func g) #[] cb] w fun e w' => e = .returned (.tuple #[]) ∧ SW enc w0 blk off (Sort.insertionSort (ltOf cf) d a b) w' := by
  have mixed : Try.prog.follows .mixedOrders = true := by kernel_rfl
  have hcl0 := R.hO.cells
  simp only [Value.cells] at hcl0
  have hst := R.hO.store Try.prog
  have HC := Aside0.mk hcmp
  clear hcmp
  have S0 : Aside (SW enc w0 blk off d w) := S
  clear S
  go_enter Try.func101, Try.ntmps101
  go_wp2
  go_loopg [8] (b - a) (fun g1 vi wr => ∃ (i : Nat) (dk : Array α), vi = .int .i64 i ∧ a < i ∧ i ≤ b + 1 ∧ b + 1 - i ≤ g1 + 1 ∧ dk.size = N ∧ Aside (SW enc w0 blk off dk wr) ∧ Hid (insOuter (ltOf cf) a b i dk = insOuter (ltOf cf) a b (a + 1) d))
  case atStart => exact ⟨a + 1, d, by go_num, by omega, by omega, by omega, hsd, S0, rfl⟩
  case round =>
    clear S0
    obtain ⟨i, dk, rfl, hai, hib, hg1, hsk, S1, HO⟩ := hrel
    by_cases hlt : i < b
    · have hltz : (i : Int) < (b : Int) := by omega
      go_wp2
      go_loopg [9] i (fun g2 vj wr2 => ∃ (j : Nat) (dj : Array α), vj = .int .i64 j ∧ a ≤ j ∧ j ≤ i ∧ j ≤ g2 ∧ dj.size = N ∧ Aside (SW enc w0 blk off dj wr2) ∧ Hid (insInner (ltOf cf) a j dj = insInner (ltOf cf) a i dk))
      case atStart => exact ⟨i, dk, rfl, by omega, Nat.le_refl _, Nat.le_refl _, hsk, S1, rfl⟩
      case round =>
        clear S1
        obtain ⟨j, dj, rfl, haj, hji, hg2, hsj, SJ, HI⟩ := hrel
        have OUT := Aside0.mk (show (j ≤ a ∨ (ltOf cf) dj[j]! dj[j - 1]! = false) → insOuter (ltOf cf) a b (i + 1) dj = insOuter (ltOf cf) a b (a + 1) d from fun hs => by
          rw [← HO.out, insOuter_go _ _ _ _ _ hlt, ← HI.out, insInner_stop _ _ _ _ hs])
        by_cases hja : a < j
        · have hjaz : (a : Int) < (j : Int) := by omega
          obtain ⟨jp, hjp⟩ : ∃ q, q + 1 = j := ⟨j - 1, by omega⟩
          have zjp : (j : Int) = (jp : Int) + 1 := by omega
          have hjad : decide ((jp : Int) + 1 > (a : Int)) = true := decide_eq_true (by omega)
          have hjaz' : (a : Int) < (jp : Int) + 1 := by omega
          cases hlv : (ltOf cf) dj[j]! dj[j - 1]! with
          | true =>
            obtain ⟨iN2, hiN2⟩ : ∃ q, q = j := ⟨_, rfl⟩
            obtain ⟨jN2, hjN2⟩ : ∃ q, q = j - 1 := ⟨_, rfl⟩
            have ea2 : ((jp : Int) + 1).toNat = iN2 := by omega
            have pa2 : (0 : Int) ≤ (jp : Int) + 1 := by omega
            have ba2 : (jp : Int) + 1 < (N : Int) := by omega
            have ra2 : IntKind.i64.wrap ((jp : Int) + 1) = (jp : Int) + 1 := by rw [IntKind.wrap_i64]; omega
            have ec2 : ((jp : Int)).toNat = jN2 := by omega
            have pc2 : (0 : Int) ≤ (jp : Int) := by omega
            have bc2 : (jp : Int) < (N : Int) := by omega
            have rc2 : IntKind.i64.wrap ((jp : Int)) = (jp : Int) := by rw [IntKind.wrap_i64]; omega
            obtain ⟨x2, hx2⟩ : ∃ x, x = dj[j]! := ⟨_, rfl⟩
            obtain ⟨y2, hy2⟩ : ∃ x, x = dj[j - 1]! := ⟨_, rfl⟩
            have la2 := SJ.out.cl R (by omega : dj.size = d0.size) (j) (by omega)
            have lb2 := SJ.out.cl R (by omega : dj.size = d0.size) (j - 1) (by omega)
            rw [← hx2, ← hiN2] at la2
            rw [← hy2, ← hjN2] at lb2
            have hc2 := SJ.out.cmp HC.out (by omega : dj.size = d0.size) x2 y2
            have hv2 : cf x2 y2 < 0 := by rw [hx2, hy2]; exact of_decide_eq_true hlv
            have hd2 : decide (cf x2 y2 < 0) = true := decide_eq_true hv2
            clear hx2 hy2 hiN2 hjN2
            go_wp2_with fail
            go_quiet_grown (first | (go_at_fn g; refine Calls.grown_of (hc2 _ _)))
            have S2 : Aside (SW enc w0 blk off dj (grow (wr.drewN nq) osq)) := SJ.out.grown nq osq
            clear la2 lb2 hc2 SJ
            generalize grow (wr.drewN nq) osq = w2 at S2 ⊢
            clear nq osq
            clear ea2 ec2
            go_wp2_with fail
            obtain ⟨iN1, hiN1⟩ : ∃ q, q = j := ⟨_, rfl⟩
            obtain ⟨jN1, hjN1⟩ : ∃ q, q = j - 1 := ⟨_, rfl⟩
            have ea1 : ((jp : Int) + 1).toNat = iN1 := by omega
            have pa1 : (0 : Int) ≤ (jp : Int) + 1 := by omega
            have ba1 : (jp : Int) + 1 < (N : Int) := by omega
            have ra1 : IntKind.i64.wrap ((jp : Int) + 1) = (jp : Int) + 1 := by rw [IntKind.wrap_i64]; omega
            have ec1 : ((jp : Int)).toNat = jN1 := by omega
            have pc1 : (0 : Int) ≤ (jp : Int) := by omega
            have bc1 : (jp : Int) < (N : Int) := by omega
            have rc1 : IntKind.i64.wrap ((jp : Int)) = (jp : Int) := by rw [IntKind.wrap_i64]; omega
            obtain ⟨x1, hx1⟩ : ∃ x, x = dj[j]! := ⟨_, rfl⟩
            obtain ⟨y1, hy1⟩ : ∃ x, x = dj[j - 1]! := ⟨_, rfl⟩
            have S3 : Aside (SW enc w0 blk off (swp dj (j) (j - 1)) ((w2.setCell ⟨blk, off + iN1, none⟩ (enc y1)).setCell ⟨blk, off + jN1, none⟩ (enc x1)).drew) := by rw [hiN1, hjN1, hx1, hy1]; exact S2.out.swapped R (j) (j - 1) (by omega) (by omega)
            have ca1 := S2.out.c1 R (by omega : dj.size = d0.size) (j) (by omega)
            have cb1 := S2.out.c1 R (by omega : dj.size = d0.size) (j - 1) (by omega)
            have fa1 := S2.out.f1 R (by omega : dj.size = d0.size) (j) (by omega)
            have fb1 := S2.out.f1 R (by omega : dj.size = d0.size) (j - 1) (by omega)
            obtain ⟨u1, cc1⟩ := S2.out.c2 R (by omega : dj.size = d0.size) (j) (j - 1) (by omega) (by omega) (enc y1)
            rw [← hjN1, ← hiN1] at cc1
            rw [← hx1, ← hiN1] at ca1
            rw [← hy1, ← hjN1] at cb1
            rw [← hiN1] at fa1
            rw [← hjN1] at fb1
            clear S2 hx1 hy1 hiN1 hjN1
            go_wp2_with fail
            go_big_region_o
            clear ca1 cb1 cc1 fa1 fb1
            generalize ((w2.setCell ⟨blk, off + iN1, none⟩ (enc y1)).setCell ⟨blk, off + jN1, none⟩ (enc x1)).drew = w3 at S3 ⊢
            clear ea1 ec1
            go_wp2
            go_roundg (j - 1)
            case measure => omega
            case rel => exact ⟨j - 1, swp dj j (j - 1), by first | rfl | go_num | (congr 1; omega), by omega, by omega, Nat.le_refl _, by rw [size_swp]; exact hsj, S3, (show Hid _ from by rw [← HI.out, insInner_go (ltOf cf) a j dj hja hlv]; exact rfl)⟩
          | false =>
            obtain ⟨iN3, hiN3⟩ : ∃ q, q = j := ⟨_, rfl⟩
            obtain ⟨jN3, hjN3⟩ : ∃ q, q = j - 1 := ⟨_, rfl⟩
            have ea3 : ((jp : Int) + 1).toNat = iN3 := by omega
            have pa3 : (0 : Int) ≤ (jp : Int) + 1 := by omega
            have ba3 : (jp : Int) + 1 < (N : Int) := by omega
            have ra3 : IntKind.i64.wrap ((jp : Int) + 1) = (jp : Int) + 1 := by rw [IntKind.wrap_i64]; omega
            have ec3 : ((jp : Int)).toNat = jN3 := by omega
            have pc3 : (0 : Int) ≤ (jp : Int) := by omega
            have bc3 : (jp : Int) < (N : Int) := by omega
            have rc3 : IntKind.i64.wrap ((jp : Int)) = (jp : Int) := by rw [IntKind.wrap_i64]; omega
            obtain ⟨x3, hx3⟩ : ∃ x, x = dj[j]! := ⟨_, rfl⟩
            obtain ⟨y3, hy3⟩ : ∃ x, x = dj[j - 1]! := ⟨_, rfl⟩
            have la3 := SJ.out.cl R (by omega : dj.size = d0.size) (j) (by omega)
            have lb3 := SJ.out.cl R (by omega : dj.size = d0.size) (j - 1) (by omega)
            rw [← hx3, ← hiN3] at la3
            rw [← hy3, ← hjN3] at lb3
            have hc3 := SJ.out.cmp HC.out (by omega : dj.size = d0.size) x3 y3
            have hv3 : ¬ cf x3 y3 < 0 := by rw [hx3, hy3]; exact of_decide_eq_false hlv
            have hd3 : decide (cf x3 y3 < 0) = false := decide_eq_false hv3
            clear hx3 hy3 hiN3 hjN3
            go_wp2_with fail
            go_quiet_grown (first | (go_at_fn g; refine Calls.grown_of (hc3 _ _)))
            have S2 : Aside (SW enc w0 blk off dj (grow (wr.drewN nq) osq)) := SJ.out.grown nq osq
            clear la3 lb3 hc3 SJ
            generalize grow (wr.drewN nq) osq = w2 at S2 ⊢
            clear nq osq
            clear ea3 ec3
            go_wp2
            go_roundg (b - (i + 1))
            case measure => omega
            case rel => exact ⟨i + 1, dj, by go_num, by omega, by omega, by omega, hsj, S2, OUT.out (Or.inr hlv)⟩
        · have hjaz : decide ((j : Int) > (a : Int)) = false := decide_eq_false (by omega)
          have hjaz' : ¬ (a : Int) < (j : Int) := by omega
          go_wp2_with fail
          go_big_region_o
          have S2 : Aside (SW enc w0 blk off dj wr.drew) := SJ.out.drew
          clear SJ
          generalize wr.drew = w2 at S2 ⊢
          go_wp2
          go_roundg (b - (i + 1))
          case measure => omega
          case rel => exact ⟨i + 1, dj, by go_num, by omega, by omega, by omega, hsj, S2, OUT.out (Or.inl (by omega))⟩
    · have hltz : ¬ (i : Int) < (b : Int) := by omega
      go_wp2
      go_end0
      exact ⟨rfl, by unfold Sort.insertionSort; rw [← HO.out, insOuter_stop _ _ _ _ _ hlt]; exact S1.out⟩
end Go.Proofs.YteijndaldkkpfaaW.SortW
