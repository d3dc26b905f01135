/-
  Cut to what this claim uses.
-/
import Derived.Test.YteijndaldkkpfaaQSortB
namespace Go.Proofs.YteijndaldkkpfaaW.SortW
open Go.Proofs Go.Shelf Go.RowKit Go.Lib Go.Sort
open Go.Proofs.YteijndaldkkpfaaW.PrintWords Go.Proofs.YteijndaldkkpfaaW.PrintLast
set_option linter.unusedVariables false
set_option linter.unusedSimpArgs false
variable {α : Type} [Inhabited α]
set_option maxHeartbeats 16000000 in
set_option maxRecDepth 1000000 in
theorem symMerge_one_walk (enc : α → Value) (cf : α → α → Int) (g : Nat) (cb : Array Value) (blk off cap N : Nat) (d0 : Array α) (w0 : World)
    (eg : ∀ args w, (callFunc g args).run Try.prog w = .ok (.enter g args) w) (hcmp : CmpLays1 Try.prog g cb enc cf blk off d0.size w0) (R : Row1 enc w0 blk off d0) (hs0 : d0.size = N) (hsz : N < 4611686018427387904) (a m b : Nat) (d : Array α) (w : World) (hsd : d.size = N) (S : SW enc w0 blk off d w) (ham : a < m) (hmb : m < b) (hb : b ≤ N) (h1 : m - a = 1) :
    Calls Try.prog 102 #[.slice (some ⟨blk, off, none⟩) N cap, .int .i64 a, .int .i64 m, .int .i64 b, .func (.func g) #[] cb] w fun e w' => e = .returned (.tuple #[]) ∧ SW enc w0 blk off (Stab.symMerge (ltOf cf) a m b d) w' := by
  have mixed : Try.prog.follows .mixedOrders = true := by kernel_rfl
  have hcl0 := R.hO.cells
  simp only [Value.cells] at hcl0
  have hst := R.hO.store Try.prog
  have HC := Aside0.mk hcmp
  clear hcmp
  have S0 : Aside (SW enc w0 blk off d w) := S
  clear S
  have h1z : (m : Int) - (a : Int) = 1 := by omega
  go_enter Try.func102, Try.ntmps102
  go_wp2
  go_loopg [10, 11] (b - m) (fun kx s10 s11 wr => ∃ (i j : Nat), s10 = .int .i64 i ∧ s11 = .int .i64 j ∧ m ≤ i ∧ i ≤ j ∧ j ≤ b ∧ j - i ≤ kx ∧ Aside (SW enc w0 blk off d wr) ∧ Hid (Stab.bs1 (ltOf cf) d a i j = Stab.bs1 (ltOf cf) d a m b))
  case atStart => exact ⟨m, b, rfl, rfl, Nat.le_refl _, by omega, Nat.le_refl _, Nat.le_refl _, S0, rfl⟩
  case round =>
    clear S0
    obtain ⟨i, j, rfl, rfl, hmi, hij, hjb, hkx, S1, HE⟩ := hrel
    by_cases hlt : i < j
    · have hltz : (i : Int) < (j : Int) := by omega
      obtain ⟨h, hh⟩ : ∃ q, q = (i + j) / 2 := ⟨_, rfl⟩
      have zh : ((i : Int) + (j : Int)) / 2 = (h : Int) := by omega
      have hih : i ≤ h := by omega
      have hhj : h < j := by omega
      have HH := Aside0.mk hh
      clear hh
      cases hlv : (ltOf cf) d[h]! d[a]! with
      | true =>
        obtain ⟨iN4, hiN4⟩ : ∃ q, q = h := ⟨_, rfl⟩
        obtain ⟨jN4, hjN4⟩ : ∃ q, q = a := ⟨_, rfl⟩
        have ea4 : ((h : Int)).toNat = iN4 := by omega
        have pa4 : (0 : Int) ≤ (h : Int) := by omega
        have ba4 : (h : Int) < (N : Int) := by omega
        have ra4 : IntKind.i64.wrap ((h : Int)) = (h : Int) := by rw [IntKind.wrap_i64]; omega
        have ec4 : ((a : Int)).toNat = jN4 := by omega
        have pc4 : (0 : Int) ≤ (a : Int) := by omega
        have bc4 : (a : Int) < (N : Int) := by omega
        have rc4 : IntKind.i64.wrap ((a : Int)) = (a : Int) := by rw [IntKind.wrap_i64]; omega
        obtain ⟨x4, hx4⟩ : ∃ x, x = d[h]! := ⟨_, rfl⟩
        obtain ⟨y4, hy4⟩ : ∃ x, x = d[a]! := ⟨_, rfl⟩
        have la4 := S1.out.cl R (by omega : d.size = d0.size) (h) (by omega)
        have lb4 := S1.out.cl R (by omega : d.size = d0.size) (a) (by omega)
        rw [← hx4, ← hiN4] at la4
        rw [← hy4, ← hjN4] at lb4
        have hc4 := S1.out.cmp HC.out (by omega : d.size = d0.size) x4 y4
        have hv4 : cf x4 y4 < 0 := by rw [hx4, hy4]; exact of_decide_eq_true hlv
        have hd4 : decide (cf x4 y4 < 0) = true := decide_eq_true hv4
        clear hx4 hy4 hiN4 hjN4
        go_wp2_with fail
        go_quiet_grown (first | (go_at_fn g; refine Calls.grown_of (hc4 _ _)))
        have S2 : Aside (SW enc w0 blk off d (grow (wr.drewN nq) osq)) := S1.out.grown nq osq
        clear la4 lb4 hc4 S1
        generalize grow (wr.drewN nq) osq = w2 at S2 ⊢
        clear nq osq
        clear ea4 ec4
        go_wp2
        go_roundg (j - (h + 1))
        case measure => omega
        case rel => exact ⟨h + 1, j, by go_num, rfl, by omega, by omega, hjb, Nat.le_refl _, S2, (show Hid _ from by rw [HH.out] at hlv ⊢; exact (Stab.bs1_lt (ltOf cf) d a i j hlt hlv).symm.trans HE.out)⟩
      | false =>
        obtain ⟨iN5, hiN5⟩ : ∃ q, q = h := ⟨_, rfl⟩
        obtain ⟨jN5, hjN5⟩ : ∃ q, q = a := ⟨_, rfl⟩
        have ea5 : ((h : Int)).toNat = iN5 := by omega
        have pa5 : (0 : Int) ≤ (h : Int) := by omega
        have ba5 : (h : Int) < (N : Int) := by omega
        have ra5 : IntKind.i64.wrap ((h : Int)) = (h : Int) := by rw [IntKind.wrap_i64]; omega
        have ec5 : ((a : Int)).toNat = jN5 := by omega
        have pc5 : (0 : Int) ≤ (a : Int) := by omega
        have bc5 : (a : Int) < (N : Int) := by omega
        have rc5 : IntKind.i64.wrap ((a : Int)) = (a : Int) := by rw [IntKind.wrap_i64]; omega
        obtain ⟨x5, hx5⟩ : ∃ x, x = d[h]! := ⟨_, rfl⟩
        obtain ⟨y5, hy5⟩ : ∃ x, x = d[a]! := ⟨_, rfl⟩
        have la5 := S1.out.cl R (by omega : d.size = d0.size) (h) (by omega)
        have lb5 := S1.out.cl R (by omega : d.size = d0.size) (a) (by omega)
        rw [← hx5, ← hiN5] at la5
        rw [← hy5, ← hjN5] at lb5
        have hc5 := S1.out.cmp HC.out (by omega : d.size = d0.size) x5 y5
        have hv5 : ¬ cf x5 y5 < 0 := by rw [hx5, hy5]; exact of_decide_eq_false hlv
        have hd5 : decide (cf x5 y5 < 0) = false := decide_eq_false hv5
        clear hx5 hy5 hiN5 hjN5
        go_wp2_with fail
        go_quiet_grown (first | (go_at_fn g; refine Calls.grown_of (hc5 _ _)))
        have S2 : Aside (SW enc w0 blk off d (grow (wr.drewN nq) osq)) := S1.out.grown nq osq
        clear la5 lb5 hc5 S1
        generalize grow (wr.drewN nq) osq = w2 at S2 ⊢
        clear nq osq
        clear ea5 ec5
        go_wp2
        go_roundg (h - i)
        case measure => omega
        case rel => exact ⟨i, h, rfl, by go_num, hmi, by omega, by omega, Nat.le_refl _, S2, (show Hid _ from by rw [HH.out] at hlv ⊢; exact (Stab.bs1_ge (ltOf cf) d a i j hlt hlv).symm.trans HE.out)⟩
    · have hltz : ¬ (i : Int) < (j : Int) := by omega
      have HF := Aside0.mk (show Stab.bs1 (ltOf cf) d a m b = i from by rw [← HE.out, Stab.bs1_end _ _ _ _ _ hlt])
      have hib : i ≤ b := by omega
      clear HE hlt hij hjb hkx
      obtain ⟨e, he⟩ : ∃ q, q + 1 = i := ⟨i - 1, by omega⟩
      have ze : (i : Int) = (e : Int) + 1 := by omega
      go_wp2
      go_loopg [13] (e - a) (fun kx s13 wr => ∃ (k : Nat) (dk : Array α), s13 = .int .i64 k ∧ a ≤ k ∧ k ≤ e ∧ e - k ≤ kx ∧ dk.size = N ∧ Aside (SW enc w0 blk off dk wr) ∧ Hid (Stab.shiftUp e k dk = Stab.shiftUp e a d))
      case atStart => exact ⟨a, d, rfl, Nat.le_refl _, by omega, Nat.le_refl _, hsd, S1, rfl⟩
      case round =>
        clear S1
        obtain ⟨k, dk, rfl, hak, hke, hkx, hds, S1, HE⟩ := hrel
        by_cases hlt : k < e
        · have hltz : (k : Int) < (e : Int) := by omega
          have hltz2 : (k : Int) < (e : Int) + 1 - 1 := by omega
          go_wp2_with fail
          obtain ⟨iN6, hiN6⟩ : ∃ q, q = k := ⟨_, rfl⟩
          obtain ⟨jN6, hjN6⟩ : ∃ q, q = k + 1 := ⟨_, rfl⟩
          have ea6 : ((k : Int)).toNat = iN6 := by omega
          have pa6 : (0 : Int) ≤ (k : Int) := by omega
          have ba6 : (k : Int) < (N : Int) := by omega
          have ra6 : IntKind.i64.wrap ((k : Int)) = (k : Int) := by rw [IntKind.wrap_i64]; omega
          have ec6 : ((k : Int) + 1).toNat = jN6 := by omega
          have pc6 : (0 : Int) ≤ (k : Int) + 1 := by omega
          have bc6 : (k : Int) + 1 < (N : Int) := by omega
          have rc6 : IntKind.i64.wrap ((k : Int) + 1) = (k : Int) + 1 := by rw [IntKind.wrap_i64]; omega
          obtain ⟨x6, hx6⟩ : ∃ x, x = dk[k]! := ⟨_, rfl⟩
          obtain ⟨y6, hy6⟩ : ∃ x, x = dk[k + 1]! := ⟨_, rfl⟩
          have S3 : Aside (SW enc w0 blk off (swp dk (k) (k + 1)) ((wr.setCell ⟨blk, off + iN6, none⟩ (enc y6)).setCell ⟨blk, off + jN6, none⟩ (enc x6)).drew) := by rw [hiN6, hjN6, hx6, hy6]; exact S1.out.swapped R (k) (k + 1) (by omega) (by omega)
          have ca6 := S1.out.c1 R (by omega : dk.size = d0.size) (k) (by omega)
          have cb6 := S1.out.c1 R (by omega : dk.size = d0.size) (k + 1) (by omega)
          have fa6 := S1.out.f1 R (by omega : dk.size = d0.size) (k) (by omega)
          have fb6 := S1.out.f1 R (by omega : dk.size = d0.size) (k + 1) (by omega)
          obtain ⟨u6, cc6⟩ := S1.out.c2 R (by omega : dk.size = d0.size) (k) (k + 1) (by omega) (by omega) (enc y6)
          rw [← hjN6, ← hiN6] at cc6
          rw [← hx6, ← hiN6] at ca6
          rw [← hy6, ← hjN6] at cb6
          rw [← hiN6] at fa6
          rw [← hjN6] at fb6
          clear S1 hx6 hy6 hiN6 hjN6
          go_wp2_with fail
          go_big_region_o
          clear ca6 cb6 cc6 fa6 fb6
          generalize ((wr.setCell ⟨blk, off + iN6, none⟩ (enc y6)).setCell ⟨blk, off + jN6, none⟩ (enc x6)).drew = w3 at S3 ⊢
          clear ea6 ec6
          go_wp2
          go_roundg (e - (k + 1))
          case measure => omega
          case rel => exact ⟨k + 1, swp dk k (k + 1), by go_num, by omega, by omega, Nat.le_refl _, by rw [size_swp]; exact hds, S3, (show Hid _ from (Stab.shiftUp_go e k dk hlt).symm.trans HE.out)⟩
        · have hltz : ¬ (k : Int) < (e : Int) := by omega
          have hltz2 : ¬ (k : Int) < (e : Int) + 1 - 1 := by omega
          go_wp2
          (try simp only [Exit.inBlock, Exit.then]); refine bodyPost_ret (results_none rfl _ _ _) rfl ?_
          rw [Stab.symMerge_one _ _ _ _ _ ⟨ham, hmb⟩ h1, HF.out, show i - 1 = e by omega, ← HE.out, Stab.shiftUp_end e k dk hlt]
          exact ⟨rfl, S1.out⟩
set_option maxHeartbeats 16000000 in
set_option maxRecDepth 1000000 in
theorem symMerge_two_walk (enc : α → Value) (cf : α → α → Int) (g : Nat) (cb : Array Value) (blk off cap N : Nat) (d0 : Array α) (w0 : World)
    (eg : ∀ args w, (callFunc g args).run Try.prog w = .ok (.enter g args) w) (hcmp : CmpLays1 Try.prog g cb enc cf blk off d0.size w0) (R : Row1 enc w0 blk off d0) (hs0 : d0.size = N) (hsz : N < 4611686018427387904) (a m b : Nat) (d : Array α) (w : World) (hsd : d.size = N) (S : SW enc w0 blk off d w) (ham : a < m) (hmb : m < b) (hb : b ≤ N) (h1 : ¬ m - a = 1) (h2 : b - m = 1) :
    Calls Try.prog 102 #[.slice (some ⟨blk, off, none⟩) N cap, .int .i64 a, .int .i64 m, .int .i64 b, .func (.func g) #[] cb] w fun e w' => e = .returned (.tuple #[]) ∧ SW enc w0 blk off (Stab.symMerge (ltOf cf) a m b d) w' := by
  have mixed : Try.prog.follows .mixedOrders = true := by kernel_rfl
  have hcl0 := R.hO.cells
  simp only [Value.cells] at hcl0
  have hst := R.hO.store Try.prog
  have HC := Aside0.mk hcmp
  clear hcmp
  have S0 : Aside (SW enc w0 blk off d w) := S
  clear S
  have h1z : ¬ (m : Int) - (a : Int) = 1 := by omega
  have h1b : ((m : Int) - (a : Int) == 1) = false := by simp; omega
  have h2z : (b : Int) - (m : Int) = 1 := by omega
  go_enter Try.func102, Try.ntmps102
  go_wp2
  go_loopg [14, 15] (m - a) (fun kx s10 s11 wr => ∃ (i j : Nat), s10 = .int .i64 i ∧ s11 = .int .i64 j ∧ a ≤ i ∧ i ≤ j ∧ j ≤ m ∧ j - i ≤ kx ∧ Aside (SW enc w0 blk off d wr) ∧ Hid (Stab.bs2 (ltOf cf) d m i j = Stab.bs2 (ltOf cf) d m a m))
  case atStart => exact ⟨a, m, rfl, rfl, Nat.le_refl _, by omega, Nat.le_refl _, Nat.le_refl _, S0, rfl⟩
  case round =>
    clear S0
    obtain ⟨i, j, rfl, rfl, hai, hij, hjm, hkx, S1, HE⟩ := hrel
    by_cases hlt : i < j
    · have hltz : (i : Int) < (j : Int) := by omega
      obtain ⟨h, hh⟩ : ∃ q, q = (i + j) / 2 := ⟨_, rfl⟩
      have zh : ((i : Int) + (j : Int)) / 2 = (h : Int) := by omega
      have hih : i ≤ h := by omega
      have hhj : h < j := by omega
      have HH := Aside0.mk hh
      clear hh
      cases hlv : (ltOf cf) d[m]! d[h]! with
      | true =>
        obtain ⟨iN7, hiN7⟩ : ∃ q, q = m := ⟨_, rfl⟩
        obtain ⟨jN7, hjN7⟩ : ∃ q, q = h := ⟨_, rfl⟩
        have ea7 : ((m : Int)).toNat = iN7 := by omega
        have pa7 : (0 : Int) ≤ (m : Int) := by omega
        have ba7 : (m : Int) < (N : Int) := by omega
        have ra7 : IntKind.i64.wrap ((m : Int)) = (m : Int) := by rw [IntKind.wrap_i64]; omega
        have ec7 : ((h : Int)).toNat = jN7 := by omega
        have pc7 : (0 : Int) ≤ (h : Int) := by omega
        have bc7 : (h : Int) < (N : Int) := by omega
        have rc7 : IntKind.i64.wrap ((h : Int)) = (h : Int) := by rw [IntKind.wrap_i64]; omega
        obtain ⟨x7, hx7⟩ : ∃ x, x = d[m]! := ⟨_, rfl⟩
        obtain ⟨y7, hy7⟩ : ∃ x, x = d[h]! := ⟨_, rfl⟩
        have la7 := S1.out.cl R (by omega : d.size = d0.size) (m) (by omega)
        have lb7 := S1.out.cl R (by omega : d.size = d0.size) (h) (by omega)
        rw [← hx7, ← hiN7] at la7
        rw [← hy7, ← hjN7] at lb7
        have hc7 := S1.out.cmp HC.out (by omega : d.size = d0.size) x7 y7
        have hv7 : cf x7 y7 < 0 := by rw [hx7, hy7]; exact of_decide_eq_true hlv
        have hd7 : decide (cf x7 y7 < 0) = true := decide_eq_true hv7
        clear hx7 hy7 hiN7 hjN7
        go_wp2_with fail
        go_quiet_grown (first | (go_at_fn g; refine Calls.grown_of (hc7 _ _)))
        have S2 : Aside (SW enc w0 blk off d (grow (wr.drewN nq) osq)) := S1.out.grown nq osq
        clear la7 lb7 hc7 S1
        generalize grow (wr.drewN nq) osq = w2 at S2 ⊢
        clear nq osq
        clear ea7 ec7
        go_wp2
        go_roundg (h - i)
        case measure => omega
        case rel => exact ⟨i, h, rfl, by go_num, hai, by omega, by omega, Nat.le_refl _, S2, (show Hid _ from by rw [HH.out] at hlv ⊢; exact (Stab.bs2_lt (ltOf cf) d m i j hlt hlv).symm.trans HE.out)⟩
      | false =>
        obtain ⟨iN8, hiN8⟩ : ∃ q, q = m := ⟨_, rfl⟩
        obtain ⟨jN8, hjN8⟩ : ∃ q, q = h := ⟨_, rfl⟩
        have ea8 : ((m : Int)).toNat = iN8 := by omega
        have pa8 : (0 : Int) ≤ (m : Int) := by omega
        have ba8 : (m : Int) < (N : Int) := by omega
        have ra8 : IntKind.i64.wrap ((m : Int)) = (m : Int) := by rw [IntKind.wrap_i64]; omega
        have ec8 : ((h : Int)).toNat = jN8 := by omega
        have pc8 : (0 : Int) ≤ (h : Int) := by omega
        have bc8 : (h : Int) < (N : Int) := by omega
        have rc8 : IntKind.i64.wrap ((h : Int)) = (h : Int) := by rw [IntKind.wrap_i64]; omega
        obtain ⟨x8, hx8⟩ : ∃ x, x = d[m]! := ⟨_, rfl⟩
        obtain ⟨y8, hy8⟩ : ∃ x, x = d[h]! := ⟨_, rfl⟩
        have la8 := S1.out.cl R (by omega : d.size = d0.size) (m) (by omega)
        have lb8 := S1.out.cl R (by omega : d.size = d0.size) (h) (by omega)
        rw [← hx8, ← hiN8] at la8
        rw [← hy8, ← hjN8] at lb8
        have hc8 := S1.out.cmp HC.out (by omega : d.size = d0.size) x8 y8
        have hv8 : ¬ cf x8 y8 < 0 := by rw [hx8, hy8]; exact of_decide_eq_false hlv
        have hd8 : decide (cf x8 y8 < 0) = false := decide_eq_false hv8
        clear hx8 hy8 hiN8 hjN8
        go_wp2_with fail
        go_quiet_grown (first | (go_at_fn g; refine Calls.grown_of (hc8 _ _)))
        have S2 : Aside (SW enc w0 blk off d (grow (wr.drewN nq) osq)) := S1.out.grown nq osq
        clear la8 lb8 hc8 S1
        generalize grow (wr.drewN nq) osq = w2 at S2 ⊢
        clear nq osq
        clear ea8 ec8
        go_wp2
        go_roundg (j - (h + 1))
        case measure => omega
        case rel => exact ⟨h + 1, j, by go_num, rfl, by omega, by omega, hjm, Nat.le_refl _, S2, (show Hid _ from by rw [HH.out] at hlv ⊢; exact (Stab.bs2_ge (ltOf cf) d m i j hlt hlv).symm.trans HE.out)⟩
    · have hltz : ¬ (i : Int) < (j : Int) := by omega
      have HF := Aside0.mk (show Stab.bs2 (ltOf cf) d m a m = i from by rw [← HE.out, Stab.bs2_end _ _ _ _ _ hlt])
      have hib : i ≤ m := by omega
      clear HE hlt hkx hij hjm
      go_wp2
      go_loopg [17] (m - i) (fun kx s13 wr => ∃ (k : Nat) (dk : Array α), s13 = .int .i64 k ∧ i ≤ k ∧ k ≤ m ∧ k - i ≤ kx ∧ dk.size = N ∧ Aside (SW enc w0 blk off dk wr) ∧ Hid (Stab.shiftDn i k dk = Stab.shiftDn i m d))
      case atStart => exact ⟨m, d, rfl, by omega, Nat.le_refl _, Nat.le_refl _, hsd, S1, rfl⟩
      case round =>
        clear S1
        obtain ⟨k, dk, rfl, hik, hkm, hkx, hds, S1, HE⟩ := hrel
        by_cases hlt : i < k
        · obtain ⟨kp, hkp⟩ : ∃ q, q + 1 = k := ⟨k - 1, by omega⟩
          have zkp : (k : Int) = (kp : Int) + 1 := by omega
          have hltz : (i : Int) < (kp : Int) + 1 := by omega
          go_wp2_with fail
          obtain ⟨iN9, hiN9⟩ : ∃ q, q = k := ⟨_, rfl⟩
          obtain ⟨jN9, hjN9⟩ : ∃ q, q = k - 1 := ⟨_, rfl⟩
          have ea9 : ((kp : Int) + 1).toNat = iN9 := by omega
          have pa9 : (0 : Int) ≤ (kp : Int) + 1 := by omega
          have ba9 : (kp : Int) + 1 < (N : Int) := by omega
          have ra9 : IntKind.i64.wrap ((kp : Int) + 1) = (kp : Int) + 1 := by rw [IntKind.wrap_i64]; omega
          have ec9 : ((kp : Int)).toNat = jN9 := by omega
          have pc9 : (0 : Int) ≤ (kp : Int) := by omega
          have bc9 : (kp : Int) < (N : Int) := by omega
          have rc9 : IntKind.i64.wrap ((kp : Int)) = (kp : Int) := by rw [IntKind.wrap_i64]; omega
          obtain ⟨x9, hx9⟩ : ∃ x, x = dk[k]! := ⟨_, rfl⟩
          obtain ⟨y9, hy9⟩ : ∃ x, x = dk[k - 1]! := ⟨_, rfl⟩
          have S3 : Aside (SW enc w0 blk off (swp dk (k) (k - 1)) ((wr.setCell ⟨blk, off + iN9, none⟩ (enc y9)).setCell ⟨blk, off + jN9, none⟩ (enc x9)).drew) := by rw [hiN9, hjN9, hx9, hy9]; exact S1.out.swapped R (k) (k - 1) (by omega) (by omega)
          have ca9 := S1.out.c1 R (by omega : dk.size = d0.size) (k) (by omega)
          have cb9 := S1.out.c1 R (by omega : dk.size = d0.size) (k - 1) (by omega)
          have fa9 := S1.out.f1 R (by omega : dk.size = d0.size) (k) (by omega)
          have fb9 := S1.out.f1 R (by omega : dk.size = d0.size) (k - 1) (by omega)
          obtain ⟨u9, cc9⟩ := S1.out.c2 R (by omega : dk.size = d0.size) (k) (k - 1) (by omega) (by omega) (enc y9)
          rw [← hjN9, ← hiN9] at cc9
          rw [← hx9, ← hiN9] at ca9
          rw [← hy9, ← hjN9] at cb9
          rw [← hiN9] at fa9
          rw [← hjN9] at fb9
          clear S1 hx9 hy9 hiN9 hjN9
          go_wp2_with fail
          go_big_region_o
          clear ca9 cb9 cc9 fa9 fb9
          generalize ((wr.setCell ⟨blk, off + iN9, none⟩ (enc y9)).setCell ⟨blk, off + jN9, none⟩ (enc x9)).drew = w3 at S3 ⊢
          clear ea9 ec9
          go_wp2
          go_roundg (k - 1 - i)
          case measure => omega
          case rel => exact ⟨k - 1, swp dk k (k - 1), by first | rfl | go_num | (congr 1; omega), by omega, by omega, Nat.le_refl _, by rw [size_swp]; exact hds, S3, (show Hid _ from (Stab.shiftDn_go i k dk hlt).symm.trans HE.out)⟩
        · have hltz : ¬ (i : Int) < (k : Int) := by omega
          go_wp2
          (try simp only [Exit.inBlock, Exit.then]); refine bodyPost_ret (results_none rfl _ _ _) rfl ?_
          rw [Stab.symMerge_two _ _ _ _ _ ⟨ham, hmb⟩ h1 h2, HF.out, ← HE.out, Stab.shiftDn_end i k dk hlt]
          exact ⟨rfl, S1.out⟩
end Go.Proofs.YteijndaldkkpfaaW.SortW
