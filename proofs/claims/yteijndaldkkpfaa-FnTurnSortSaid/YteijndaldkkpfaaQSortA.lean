/-
  Cut to what this claim uses.
-/
import Derived.Deep.LoopGhost
import Derived.Shelf.SlSortCmp.Kit1
import Derived.Sort.WalkA
import Derived.Sort.WalkB12
import Derived.Test.YteijndaldkkpfaaProg
import Derived.Test.YteijndaldkkpfaaQ0
import Derived.Test.YteijndaldkkpfaaQStab
namespace Go.Proofs.YteijndaldkkpfaaW.SortW
open Go.Proofs Go.Shelf Go.RowKit Go.Lib Go.Sort
open Go.Proofs.YteijndaldkkpfaaW.PrintWords Go.Proofs.YteijndaldkkpfaaW.PrintLast
set_option linter.unusedVariables false
set_option linter.unusedSimpArgs false
variable {α : Type} [Inhabited α]
set_option maxHeartbeats 4000000 in
set_option maxRecDepth 1000000 in
theorem swapRange_walk (enc : α → Value) (g : Nat) (cb : Array Value) (blk off cap a b n : Nat) (d0 d : Array α) (w0 w : World)
    (R : Row1 enc w0 blk off d0) (hs : d0.size = d.size) (S : SW enc w0 blk off d w) (ha : a + n ≤ d.size) (hb : b + n ≤ d.size) (hsz : d.size < 4611686018427387904) :
    Calls Try.prog 123 #[.slice (some ⟨blk, off, none⟩) d.size cap, .int .i64 a, .int .i64 b, .int .i64 n, .func (.func g) #[] cb] w fun e w' => e = .returned (.tuple #[]) ∧ SW enc w0 blk off (Stab.swapRange a b n 0 d) w' := by
  have mixed : Try.prog.follows .mixedOrders = true := by kernel_rfl
  have hcl0 := R.hO.cells
  simp only [Value.cells] at hcl0
  have hst := R.hO.store Try.prog
  have S0 : Aside (SW enc w0 blk off d w) := S
  clear S
  go_enter Try.func123, Try.ntmps123
  go_wp2
  go_loopg [10] n (fun kx s10 wr => ∃ (i : Nat) (dk : Array α), s10 = .int .i64 i ∧ i ≤ n ∧ n - i ≤ kx ∧ dk.size = d.size ∧ Aside (SW enc w0 blk off dk wr) ∧ Hid (Stab.swapRange a b n i dk = Stab.swapRange a b n 0 d))
  case atStart => exact ⟨0, d, rfl, Nat.zero_le _, Nat.le_refl _, rfl, S0, rfl⟩
  case round =>
    clear S0
    obtain ⟨i, dk, rfl, hin, hkx, hds, S1, HE⟩ := hrel
    by_cases hlt : i < n
    · have hltz : (i : Int) < (n : Int) := by omega
      go_wp2_with fail
      obtain ⟨iN, hiN⟩ : ∃ q, q = a + i := ⟨_, rfl⟩
      obtain ⟨jN, hjN⟩ : ∃ q, q = b + i := ⟨_, rfl⟩
      have ea : ((a : Int) + (i : Int)).toNat = iN := by omega
      have pa : (0 : Int) ≤ (a : Int) + (i : Int) := by omega
      have ba : (a : Int) + (i : Int) < (d.size : Int) := by omega
      have ra : IntKind.i64.wrap ((a : Int) + (i : Int)) = (a : Int) + (i : Int) := by rw [IntKind.wrap_i64]; omega
      have ec : ((b : Int) + (i : Int)).toNat = jN := by omega
      have pc : (0 : Int) ≤ (b : Int) + (i : Int) := by omega
      have bc : (b : Int) + (i : Int) < (d.size : Int) := by omega
      have rc : IntKind.i64.wrap ((b : Int) + (i : Int)) = (b : Int) + (i : Int) := by rw [IntKind.wrap_i64]; omega
      obtain ⟨x1, hx1⟩ : ∃ x, x = dk[a + i]! := ⟨_, rfl⟩
      obtain ⟨y1, hy1⟩ : ∃ x, x = dk[b + i]! := ⟨_, rfl⟩
      have S2 : Aside (SW enc w0 blk off (swp dk (a + i) (b + i)) ((wr.setCell ⟨blk, off + iN, none⟩ (enc y1)).setCell ⟨blk, off + jN, none⟩ (enc x1)).drew) := by rw [hiN, hjN, hx1, hy1]; exact S1.out.swapped R (a + i) (b + i) (by omega) (by omega)
      have c1a := S1.out.c1 R (by omega) (a + i) (by omega)
      have c1b := S1.out.c1 R (by omega) (b + i) (by omega)
      have f1a := S1.out.f1 R (by omega) (a + i) (by omega)
      have f1b := S1.out.f1 R (by omega) (b + i) (by omega)
      obtain ⟨u1, c1c⟩ := S1.out.c2 R (by omega) (a + i) (b + i) (by omega) (by omega) (enc y1)
      rw [← hjN, ← hiN] at c1c
      rw [← hx1, ← hiN] at c1a
      rw [← hy1, ← hjN] at c1b
      rw [← hiN] at f1a
      rw [← hjN] at f1b
      clear S1 hx1 hy1 hiN hjN
      go_wp2_with fail
      go_big_region_o
      clear c1a c1b c1c f1a f1b
      generalize ((wr.setCell ⟨blk, off + iN, none⟩ (enc y1)).setCell ⟨blk, off + jN, none⟩ (enc x1)).drew = w2 at S2 ⊢
      clear ea ec
      go_wp2
      go_roundg (n - (i + 1))
      case measure => omega
      case rel => exact ⟨i + 1, swp dk (a + i) (b + i), by go_num, by omega, Nat.le_refl _, by rw [size_swp]; exact hds, S2, (show Hid _ from (Stab.swapRange_go a b n i dk hlt).symm.trans HE.out)⟩
    · have hltz : ¬ (i : Int) < (n : Int) := by omega
      go_wp2
      go_end0
      refine ⟨rfl, ?_⟩
      rw [← HE.out, Stab.swapRange_end a b n i dk hlt]
      exact S1.out
set_option maxHeartbeats 4000000 in
set_option maxRecDepth 1000000 in
theorem rotate_walk (enc : α → Value) (g : Nat) (cb : Array Value) (blk off cap a m b : Nat) (d0 d : Array α) (w0 w : World)
    (R : Row1 enc w0 blk off d0) (hs : d0.size = d.size) (S : SW enc w0 blk off d w) (ha : a < m) (hm : m < b) (hb : b ≤ d.size) (hsz : d.size < 4611686018427387904) :
    Calls Try.prog 116 #[.slice (some ⟨blk, off, none⟩) d.size cap, .int .i64 a, .int .i64 m, .int .i64 b, .func (.func g) #[] cb] w fun e w' => e = .returned (.tuple #[]) ∧ SW enc w0 blk off (Stab.rotLoop m (m - a) (b - m) d) w' := by
  have mixed : Try.prog.follows .mixedOrders = true := by kernel_rfl
  have S0 : Aside (SW enc w0 blk off d w) := S
  clear S
  have HR : Aside (Row1 enc w0 blk off d0) := R
  clear R
  go_enter Try.func116, Try.ntmps116
  go_wp2
  go_loopg [10, 11] (b - a) (fun kx s10 s11 wr => ∃ (i j : Nat) (dk : Array α), s10 = .int .i64 i ∧ s11 = .int .i64 j ∧ 0 < i ∧ 0 < j ∧ i ≤ m ∧ m + j ≤ d.size ∧ i + j ≤ kx ∧ dk.size = d.size ∧ Aside (SW enc w0 blk off dk wr) ∧ Hid (Stab.rotLoop m i j dk = Stab.rotLoop m (m - a) (b - m) d))
  case atStart => exact ⟨m - a, b - m, d, by go_num, by go_num, by omega, by omega, by omega, by omega, by omega, rfl, S0, rfl⟩
  case round =>
    clear S0
    obtain ⟨i, j, dk, rfl, rfl, hi, hj, him, hjm, hkx, hds, S1, HE⟩ := hrel
    have e1 : ((m - i : Nat) : Int) = (m : Int) - (i : Int) := by omega
    rcases Nat.lt_trichotomy i j with hij | hij | hij
    · have h1 : ¬ ((i : Int) = (j : Int)) := by omega
      have h2 : ¬ ((j : Int) < (i : Int)) := by omega
      have hc := swapRange_walk enc g cb blk off cap (m - i) (m + j - i) i d0 dk w0 wr HR.out (by omega) S1.out (by omega) (by omega) (by omega)
      rw [e1, show ((m + j - i : Nat) : Int) = (m : Int) + (j : Int) - (i : Int) by omega, hds] at hc
      have HC := Aside0.mk hc
      clear hc S1 e1
      go_wp2_with fail
      refine HC.out.mono ?_
      rintro e w2 ⟨rfl, hS2⟩
      have S2 : Aside (SW enc w0 blk off _ _) := hS2
      clear hS2 HC
      go_wp2
      go_roundg j
      case measure => omega
      case rel => exact ⟨i, j - i, _, rfl, by go_num, hi, by omega, him, by omega, by omega, by rw [Stab.swapRange_size _ _ _ _ _ _ rfl]; exact hds, S2, (show Hid _ from (Stab.rotLoop_lt m i j dk ⟨hi, hj⟩ hij).symm.trans HE.out)⟩
    · subst hij
      have hc := swapRange_walk enc g cb blk off cap (m - i) m i d0 dk w0 wr HR.out (by omega) S1.out (by omega) (by omega) (by omega)
      rw [e1, hds] at hc
      have HC := Aside0.mk hc
      clear hc S1 e1
      go_wp2_with fail
      refine HC.out.mono ?_
      rintro e w2 ⟨rfl, hS2⟩
      go_wp2
      go_end0
      rw [← HE.out, Stab.rotLoop_eq m i i dk ⟨hi, hj⟩ rfl]
      exact ⟨rfl, hS2⟩
    · have h1 : ¬ ((i : Int) = (j : Int)) := by omega
      have h2 : ((j : Int) < (i : Int)) := by omega
      have hc := swapRange_walk enc g cb blk off cap (m - i) m j d0 dk w0 wr HR.out (by omega) S1.out (by omega) (by omega) (by omega)
      rw [e1, hds] at hc
      have HC := Aside0.mk hc
      clear hc S1 e1
      go_wp2_with fail
      refine HC.out.mono ?_
      rintro e w2 ⟨rfl, hS2⟩
      have S2 : Aside (SW enc w0 blk off _ _) := hS2
      clear hS2 HC
      go_wp2
      go_roundg i
      case measure => omega
      case rel => exact ⟨i - j, j, _, by go_num, rfl, by omega, hj, by omega, by omega, by omega, by rw [Stab.swapRange_size _ _ _ _ _ _ rfl]; exact hds, S2, (show Hid _ from (Stab.rotLoop_gt m i j dk ⟨hi, hj⟩ hij).symm.trans HE.out)⟩
end Go.Proofs.YteijndaldkkpfaaW.SortW
