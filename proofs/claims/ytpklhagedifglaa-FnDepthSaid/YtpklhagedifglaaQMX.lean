/-
  Cut to what this claim uses.
-/
import Derived.BigRegion
import Derived.Deep.RegionHeld3
import Derived.Test.YtpklhagedifglaaQM3
import Derived.Test.YtpklhagedifglaaQTermT
namespace Go.Proofs.YtpklhagedifglaaW.PrintMore
set_option linter.unusedVariables false
set_option linter.unusedSimpArgs false
open Go.Proofs Go.Deep
open Go.RowKit Go.Proofs.YtpklhagedifglaaW.PrintWords
def ArrAt (W : World) (b : Nat) (F : Dp) : Prop := ∃ (arr : Array Value) (t : TypeId), W.heap[b]? = some (.cells arr t (0, 0)) ∧ arr.size = 256 ∧ ∀ c : UInt8, arr[c.toNat]? = some (.int .i64 (F c))
theorem arr_cell {W : World} {b : Nat} {F : Dp} (h : ArrAt W b F) (c : UInt8) : W.cell? ⟨b, c.toNat, none⟩ = some (.int .i64 (F c)) := by
  obtain ⟨arr, t, h1, h2, h3⟩ := h
  rw [blk_cell h1]; exact h3 c
theorem arr_frozen {W : World} {b : Nat} {F : Dp} (h : ArrAt W b F) (i : Nat) : W.frozen? ⟨b, i, none⟩ = false := by
  obtain ⟨arr, t, h1, h2, h3⟩ := h
  exact blk_frozen h1 i
theorem arr_lt {W : World} {b : Nat} {F : Dp} (h : ArrAt W b F) : b < W.heap.size := by
  obtain ⟨arr, t, h1, h2, h3⟩ := h
  exact blk_lt h1
theorem arr_below {W W' : World} {b : Nat} {F : Dp} (h : ArrAt W b F) (hb : Below W.heap.size W W') : ArrAt W' b F := by
  obtain ⟨arr, t, h1, h2, h3⟩ := h
  exact ⟨arr, t, blk_below h1 hb, h2, h3⟩
theorem arr_set {W : World} {b : Nat} {F : Dp} (h : ArrAt W b F) (u : UInt8) (x : Int) : ArrAt (W.setCell ⟨b, u.toNat, none⟩ (.int .i64 x)) b (updD F u x) := by
  obtain ⟨arr, t, h1, h2, h3⟩ := h
  refine ⟨_, t, blk_set h1 _ _, by rw [Array.size_setIfInBounds]; exact h2, fun c => ?_⟩
  have hu := u.toNat_lt
  rw [Array.getElem?_setIfInBounds]
  unfold updD
  by_cases hc : c = u
  · subst hc; rw [if_pos rfl, if_pos rfl, if_pos (by omega)]
  · rw [if_neg hc, if_neg (fun e => hc (UInt8.toNat_inj.1 e.symm)), h3 c]
/-- The array is as it was after a variable was turned and turned back. -/
theorem arr_back {W W1 W2 : World} {b : Nat} {F : Dp} (h : ArrAt W b F) (u : UInt8) (x : Int) (hb : Below W.heap.size W W1) (hb2 : Below W1.heap.size (W1.setCell ⟨b, u.toNat, none⟩ (.int .i64 x)) W2) : Below W.heap.size W (W2.setCell ⟨b, u.toNat, none⟩ (.int .i64 (F u))) := by
  obtain ⟨arr, t, h1, h2, h3⟩ := h
  have hl := blk_lt h1
  have k1 := blk_below h1 hb
  have k2 := blk_set k1 u.toNat (.int .i64 x)
  have k3 : W2.heap[b]? = _ := (hb2.block b (Nat.lt_of_lt_of_le hl hb.size)).trans k2
  have k4 := blk_set k3 u.toNat (.int .i64 (F u))
  have e : (arr.setIfInBounds u.toNat (.int .i64 x)).setIfInBounds u.toNat (.int .i64 (F u)) = arr := by
    apply Array.ext_getElem?
    intro i
    rw [Array.getElem?_setIfInBounds]
    by_cases hi : u.toNat = i
    · subst hi
      rw [if_pos rfl, if_pos (by rw [Array.size_setIfInBounds, h2]; exact u.toNat_lt), h3 u]
    · rw [if_neg hi, Array.getElem?_setIfInBounds_ne hi]
  rw [e] at k4
  have hs1 : (W1.setCell ⟨b, u.toNat, none⟩ (.int .i64 x)).heap.size = W1.heap.size := by simp [World.setCell]
  have hs2 : (W2.setCell ⟨b, u.toNat, none⟩ (.int .i64 (F u))).heap.size = W2.heap.size := by simp [World.setCell]
  refine ⟨hb2.os.trans hb.os, hb2.tape.trans hb.tape, hb2.output.trans hb.output, by rw [hs2]; exact Nat.le_trans hb.size (by have := hb2.size; rw [hs1] at this; exact this), fun k hk => ?_⟩
  by_cases hkb : k = b
  · subst hkb; exact k4.trans h1.symm
  · rw [Below.heap_setCell W2 ⟨b, u.toNat, none⟩ _ k hkb]
    exact (hb2.block k (Nat.lt_of_lt_of_le hk hb.size)).trans ((Below.heap_setCell W1 ⟨b, u.toNat, none⟩ _ k hkb).trans (hb.block k hk))
set_option maxHeartbeats 1000000 in
theorem one_walk (c : UInt8) (x : Int) (hc : isUn c = true) (w : World) : Calls Try.prog 47 #[.int .u8 (c.toNat : Int), .int .i64 x] w fun e w' => e = .returned (.int .i64 (sd1 c x)) ∧ w' = w := by
  rcases isUn_cases hc with rfl | rfl | rfl | rfl | rfl | rfl | rfl
  all_goals
    clear hc
    go_enter Try.func47, Try.ntmps47
    go_wp2
    all_goals
      go_ret
      refine ⟨?_, rfl⟩
      first | (simp_all [sd1]; done) | (simp_all [sd1]; omega) | skip
set_option maxHeartbeats 1000000 in
theorem two_walk (c : UInt8) (x y : Int) (hc : isBin c = true) (w : World) : Calls Try.prog 48 #[.int .u8 (c.toNat : Int), .int .i64 x, .int .i64 y] w fun e w' => e = .returned (.int .i64 (sd2 c x y)) ∧ w' = w := by
  rcases isBin_cases hc with rfl | rfl | rfl | rfl | rfl | rfl | rfl
  all_goals
    clear hc
    go_enter Try.func48, Try.ntmps48
    go_wp2
    all_goals
      go_ret
      refine ⟨?_, rfl⟩
      first | (simp_all [sd2]; done) | (simp_all [sd2]; omega) | skip
end Go.Proofs.YtpklhagedifglaaW.PrintMore
namespace Go.Proofs.YtpklhagedifglaaW.PrintMore
set_option linter.unusedVariables false
set_option linter.unusedSimpArgs false
open Go.Proofs Go.Deep
open Go.RowKit Go.Proofs.YtpklhagedifglaaW.PrintWords
def xphi5 (b h : Nat) (c : UInt8) (x : Int) : Nat → Value → World → Prop
  | 0, v, _ => v = .pointer (some ⟨b, 0, none⟩)
  | 1, v, _ => v = .pointer (some ⟨h, 1, none⟩)
  | 2, v, _ => v = .int .u8 (c.toNat : Int)
  | 3, v, _ => v = .pointer (some ⟨b, 0, none⟩)
  | 4, v, _ => v = .pointer (some ⟨b, c.toNat, none⟩)
  | 5, v, _ => v = .int .i64 x
  | 6, v, _ => v = .int .i64 x
  | _, _, _ => True
set_option maxHeartbeats 4000000 in
set_option maxRecDepth 100000 in
theorem sdepth_leaf (w : World) (b : Nat) (F : Dp) (c : UInt8) (A : Option Addr) (k : Nat) (ha : ArrAt w b F) :
    Calls Try.prog 25 #[.pointer (some ⟨b, 0, none⟩), ndV (if isDig c = true then 48 else 97) (c.toNat : Int) A 0 k] w fun e w' => e = .returned (.int .i64 (if isDig c = true then 0 else F c)) ∧ Below w.heap.size w w' := by
  have hb := arr_cell ha c
  have hlt := c.toNat_lt
  clear ha
  unfold ndV
  cases hd : isDig c with
  | true =>
    clear hd
    rw [if_pos rfl, if_pos rfl]
    go_enter Try.func25, Try.ntmps25
    go_wp2
    go_ret
    exact ⟨rfl, (Below.refl _ w).alloc (Nat.le_refl _) _⟩
  | false =>
    clear hd
    rw [if_neg (by decide), if_neg (by decide)]
    obtain ⟨h, hh⟩ : ∃ h, h = w.heap.size := ⟨_, rfl⟩
    obtain ⟨x, hx⟩ : ∃ x, x = F c := ⟨_, rfl⟩
    rw [← hx] at hb
    obtain ⟨W1, hW1⟩ : ∃ W1, W1 = w.alloc (.cells #[.int .u8 97, .int .u8 (c.toNat : Int), .slice A 0 k] 45) := ⟨_, rfl⟩
    have HB := Aside0.mk (show Below w.heap.size w W1 from by rw [hW1]; exact (Below.refl _ w).alloc (Nat.le_refl _) _)
    have hb2 : W1.cell? ⟨b, c.toNat, none⟩ = some (.int .i64 x) := by rw [hW1]; exact cell_alloc_keep _ _ _ _ hb
    have g1 : W1.cell? ⟨h, 1, none⟩ = some (.int .u8 (c.toNat : Int)) := by rw [hW1, hh]; exact World.cell?_alloc_new _ _ _ _
    have HW := Aside0.mk hW1
    have HH := Aside0.mk hh
    have i0 : (0 : Int) ≤ (c.toNat : Int) := by omega
    have i1 : (c.toNat : Int) < 256 := by omega
    have HX := Aside0.mk hx
    clear hW1 hh hb hx
    go_enter Try.func25, Try.ntmps25
    go_wp2
    rw [← HW.out, ← HH.out]
    refine region_phi2 (xphi5 b h c x) [0, 3] (by kernel_rfl) (by kernel_rfl) (by kernel_rfl) ?_ ⟨?_, ?_, ?_, ?_, ?_, ?_, ?_, trivial⟩ ?_
    · intro i v V V' hV
      unfold xphi5
      split <;> first | exact id | (skip)
    · intro b_ V hdf hb hB ha K hK
      have b0 : b_.eval (.tmp 0) = .pointer (some ⟨b, 0, none⟩) := (hb 0 (by decide)).trans rfl
      clear ha hb hdf
      simp only [Act.eval, Array.getD_eq_getD_getElem?] at b0
      go_simp
      exact hK _ _ (Below.refl _ V) rfl
    · intro b_ V hdf hb hB ha K hK
      have b3 : b_.eval (.tmp 3) = .pointer (some ⟨h, 0, none⟩) := (hb 3 (by decide)).trans rfl
      clear ha hb hdf
      simp only [Act.eval, Array.getD_eq_getD_getElem?] at b3
      go_simp
      exact hK _ _ (Below.refl _ V) rfl
    · intro b_ V hdf hb hB ha K hK
      have e1 : b_.eval (.tmp 17) = .pointer (some ⟨h, 1, none⟩) := ha 1 17 rfl rfl
      have xg1 := cell_keep hB _ _ g1
      clear ha hb hdf
      simp only [Act.eval, Array.getD_eq_getD_getElem?] at e1
      go_simp
      exact hK _ _ (Below.refl _ V) rfl
    · intro b_ V hdf hb hB ha K hK
      have e0 : b_.eval (.tmp 16) = .pointer (some ⟨b, 0, none⟩) := ha 0 16 rfl rfl
      clear ha hb hdf
      simp only [Act.eval, Array.getD_eq_getD_getElem?] at e0
      go_simp
      exact hK _ _ (Below.refl _ V) rfl
    · intro b_ V hdf hb hB ha K hK
      have e2 : b_.eval (.tmp 18) = .int .u8 (c.toNat : Int) := ha 2 18 rfl rfl
      have e3 : b_.eval (.tmp 19) = .pointer (some ⟨b, 0, none⟩) := ha 3 19 rfl rfl
      clear ha hb hdf
      simp only [Act.eval, Array.getD_eq_getD_getElem?] at e2 e3
      go_simp
      exact hK _ _ (Below.refl _ V) rfl
    · intro b_ V hdf hb hB ha K hK
      have e4 : b_.eval (.tmp 20) = .pointer (some ⟨b, c.toNat, none⟩) := ha 4 20 rfl rfl
      have xhb2 := cell_keep hB _ _ hb2
      clear ha hb hdf
      simp only [Act.eval, Array.getD_eq_getD_getElem?] at e4
      go_simp
      exact hK _ _ (Below.refl _ V) rfl
    · intro b_ V hdf hb hB ha K hK
      have e5 : b_.eval (.tmp 21) = .int .i64 x := ha 5 21 rfl rfl
      clear ha hb hdf
      simp only [Act.eval, Array.getD_eq_getD_getElem?] at e5
      go_simp
      exact hK _ _ (Below.refl _ V) rfl
    · intro b_ V hdf hsz hb hB ha
      have hB2 := HB.out.trans (hB.mono HB.out.size)
      have hsz' : b_.tmps.size = 93 := hsz.trans rfl
      have hdf' : b_.defers = [] := hdf.trans rfl
      obtain ⟨f_, hf_, hlit_⟩ := act_lit b_ 93 hsz' hdf'
      have ef4 : f_ 4 = .int .i64 x := (hf_ 4).trans (ha 6 4 rfl)
      simp only [show List.range 93 = [0, 1, 2, 3, 4, 5, 6, 7, 8, 9, 10, 11, 12, 13, 14, 15, 16, 17, 18, 19, 20, 21, 22, 23, 24, 25, 26, 27, 28, 29, 30, 31, 32, 33, 34, 35, 36, 37, 38, 39, 40, 41, 42, 43, 44, 45, 46, 47, 48, 49, 50, 51, 52, 53, 54, 55, 56, 57, 58, 59, 60, 61, 62, 63, 64, 65, 66, 67, 68, 69, 70, 71, 72, 73, 74, 75, 76, 77, 78, 79, 80, 81, 82, 83, 84, 85, 86, 87, 88, 89, 90, 91, 92] from rfl, List.map_cons, List.map_nil, ef4] at hlit_
      clear ha hb hf_ hsz hdf hsz' hdf' ef4
      subst hlit_
      have hE := HX.out
      clear hb2 g1
      go_wp2
      refine bodyPost_ret (results_tmp rfl _ _ _) rfl ⟨?_, hB2⟩
      rw [hE]; rfl
def xphi7 (b h q k : Nat) (c : UInt8) (x a0 c0 : Int) (A0 : Option Addr) (m0 k0 : Nat) : Nat → Value → World → Prop
  | 0, v, _ => v = .pointer (some ⟨h, 0, none⟩)
  | 1, v, _ => v = .int .u8 (c.toNat : Int)
  | 2, v, _ => v = .pointer (some ⟨b, 0, none⟩)
  | 3, v, _ => v = .pointer (some ⟨h, 2, none⟩)
  | 4, v, _ => v = .slice (some ⟨q, 0, none⟩) 1 k
  | 5, v, _ => v = .pointer (some ⟨q, 0, none⟩)
  | 6, v, _ => v = .agg #[.int .u8 a0, .int .u8 c0, .slice A0 m0 k0]
  | 7, v, _ => v = .int .i64 x
  | 8, v, _ => v = .int .i64 (sd1 c x)
  | 9, v, _ => v = .int .i64 (sd1 c x)
  | _, _, _ => True
set_option maxHeartbeats 8000000 in
set_option maxRecDepth 100000 in
theorem sdepth_un (w : World) (b : Nat) (c : UInt8) (hc : isUn c = true) (q k : Nat) (a0 c0 : Int) (A0 : Option Addr) (m0 k0 : Nat) (x : Int)
    (h0 : w.cell? ⟨q, 0, none⟩ = some (.int .u8 a0)) (h1 : w.cell? ⟨q, 1, none⟩ = some (.int .u8 c0)) (h2 : w.cell? ⟨q, 2, none⟩ = some (.slice A0 m0 k0))
    (ihx : ∀ V, Below w.heap.size w V → Calls Try.prog 25 #[.pointer (some ⟨b, 0, none⟩), ndV a0 c0 A0 m0 k0] V fun e w' => e = .returned (.int .i64 x) ∧ Below V.heap.size V w') :
    Calls Try.prog 25 #[.pointer (some ⟨b, 0, none⟩), ndV (c.toNat : Int) 0 (some ⟨q, 0, none⟩) 1 k] w fun e w' => e = .returned (.int .i64 (sd1 c x)) ∧ Below w.heap.size w w' := by
  have IHX := Aside0.mk ihx
  have HC := Aside0.mk hc
  obtain ⟨h, hh⟩ : ∃ h, h = w.heap.size := ⟨_, rfl⟩
  obtain ⟨W1, hW1⟩ : ∃ W1, W1 = w.alloc (.cells #[.int .u8 (c.toNat : Int), .int .u8 0, .slice (some ⟨q, 0, none⟩) 1 k] 45) := ⟨_, rfl⟩
  have HB := Aside0.mk (show Below w.heap.size w W1 from by rw [hW1]; exact (Below.refl _ w).alloc (Nat.le_refl _) _)
  have g0 : W1.cell? ⟨h, 0, none⟩ = some (.int .u8 (c.toNat : Int)) := by rw [hW1, hh]; exact World.cell?_alloc_new _ _ _ _
  have g2 : W1.cell? ⟨h, 2, none⟩ = some (.slice (some ⟨q, 0, none⟩) 1 k) := by rw [hW1, hh]; exact World.cell?_alloc_new _ _ _ _
  have k0_ := cell_keep HB.out _ _ h0
  have k1_ := cell_keep HB.out _ _ h1
  have k2_ := cell_keep HB.out _ _ h2
  have HW := Aside0.mk hW1
  have HH := Aside0.mk hh
  clear hW1 hh ihx hc h0 h1 h2
  unfold ndV
  go_enter Try.func25, Try.ntmps25
  go_wp2
  rw [← HW.out, ← HH.out]
  refine region_phi2 (xphi7 b h q k c x a0 c0 A0 m0 k0) [0, 3] (by kernel_rfl) (by kernel_rfl) (by kernel_rfl) ?_ ⟨?_, ?_, ?_, ?_, ?_, ?_, ?_, ?_, ?_, ?_, trivial⟩ ?_
  · intro i v V V' hV
    unfold xphi7
    split <;> first | exact id | (skip)
  · intro b_ V hdf hb hB ha K hK
    have b3 : b_.eval (.tmp 3) = .pointer (some ⟨h, 0, none⟩) := (hb 3 (by decide)).trans rfl
    clear ha hb hdf
    simp only [Act.eval, Array.getD_eq_getD_getElem?] at b3
    go_simp
    exact hK _ _ (Below.refl _ V) rfl
  · intro b_ V hdf hb hB ha K hK
    have e0 : b_.eval (.tmp 24) = .pointer (some ⟨h, 0, none⟩) := ha 0 24 rfl rfl
    have xg0 := cell_keep hB _ _ g0
    clear ha hb hdf
    simp only [Act.eval, Array.getD_eq_getD_getElem?] at e0
    go_simp
    exact hK _ _ (Below.refl _ V) rfl
  · intro b_ V hdf hb hB ha K hK
    have b0 : b_.eval (.tmp 0) = .pointer (some ⟨b, 0, none⟩) := (hb 0 (by decide)).trans rfl
    clear ha hb hdf
    simp only [Act.eval, Array.getD_eq_getD_getElem?] at b0
    go_simp
    exact hK _ _ (Below.refl _ V) rfl
  · intro b_ V hdf hb hB ha K hK
    have b3 : b_.eval (.tmp 3) = .pointer (some ⟨h, 0, none⟩) := (hb 3 (by decide)).trans rfl
    clear ha hb hdf
    simp only [Act.eval, Array.getD_eq_getD_getElem?] at b3
    go_simp
    exact hK _ _ (Below.refl _ V) rfl
  · intro b_ V hdf hb hB ha K hK
    have e3 : b_.eval (.tmp 27) = .pointer (some ⟨h, 2, none⟩) := ha 3 27 rfl rfl
    have xg2 := cell_keep hB _ _ g2
    clear ha hb hdf
    simp only [Act.eval, Array.getD_eq_getD_getElem?] at e3
    go_simp
    exact hK _ _ (Below.refl _ V) rfl
  · intro b_ V hdf hb hB ha K hK
    have e4 : b_.eval (.tmp 28) = .slice (some ⟨q, 0, none⟩) 1 k := ha 4 28 rfl rfl
    clear ha hb hdf
    simp only [Act.eval, Array.getD_eq_getD_getElem?] at e4
    go_simp
    exact hK _ _ (Below.refl _ V) rfl
  · intro b_ V hdf hb hB ha K hK
    have e5 : b_.eval (.tmp 29) = .pointer (some ⟨q, 0, none⟩) := ha 5 29 rfl rfl
    have xk0_ := cell_keep hB _ _ k0_
    have xk1_ := cell_keep hB _ _ k1_
    have xk2_ := cell_keep hB _ _ k2_
    clear ha hb hdf
    simp only [Act.eval, Array.getD_eq_getD_getElem?] at e5
    go_simp
    exact hK _ _ (Below.refl _ V) rfl
  · intro b_ V hdf hb hB ha K hK
    have e2 : b_.eval (.tmp 26) = .pointer (some ⟨b, 0, none⟩) := ha 2 26 rfl rfl
    have e6 : b_.eval (.tmp 30) = .agg #[.int .u8 a0, .int .u8 c0, .slice A0 m0 k0] := ha 6 30 rfl rfl
    clear ha hb hdf
    simp only [Act.eval, Array.getD_eq_getD_getElem?] at e2 e6
    go_simp
    have hW : Below w.heap.size w V := HB.out.trans (hB.mono HB.out.size)
    have hc := IHX.out V hW
    unfold ndV at hc
    refine hc.mono ?_
    intro e W2 hr
    obtain ⟨he, hb2⟩ := hr
    subst he
    exact hK (.int .i64 x) W2 hb2 rfl
  · intro b_ V hdf hb hB ha K hK
    have e1 : b_.eval (.tmp 25) = .int .u8 (c.toNat : Int) := ha 1 25 rfl rfl
    have e7 : b_.eval (.tmp 31) = .int .i64 x := ha 7 31 rfl rfl
    clear ha hb hdf
    simp only [Act.eval, Array.getD_eq_getD_getElem?] at e1 e7
    go_simp
    refine (one_walk c x HC.out V).mono ?_
    intro e W2 hr
    obtain ⟨he, hw⟩ := hr
    subst he
    rw [hw]
    exact hK (.int .i64 (sd1 c x)) V (Below.refl _ V) rfl
  · intro b_ V hdf hb hB ha K hK
    have e8 : b_.eval (.tmp 32) = .int .i64 (sd1 c x) := ha 8 32 rfl rfl
    clear ha hb hdf
    simp only [Act.eval, Array.getD_eq_getD_getElem?] at e8
    go_simp
    exact hK _ _ (Below.refl _ V) rfl
  · intro b_ V hdf hsz hb hB ha
    have hB2 := HB.out.trans (hB.mono HB.out.size)
    have hsz' : b_.tmps.size = 93 := hsz.trans rfl
    have hdf' : b_.defers = [] := hdf.trans rfl
    obtain ⟨f_, hf_, hlit_⟩ := act_lit b_ 93 hsz' hdf'
    have ef4 : f_ 4 = .int .i64 (sd1 c x) := (hf_ 4).trans (ha 9 4 rfl)
    simp only [show List.range 93 = [0, 1, 2, 3, 4, 5, 6, 7, 8, 9, 10, 11, 12, 13, 14, 15, 16, 17, 18, 19, 20, 21, 22, 23, 24, 25, 26, 27, 28, 29, 30, 31, 32, 33, 34, 35, 36, 37, 38, 39, 40, 41, 42, 43, 44, 45, 46, 47, 48, 49, 50, 51, 52, 53, 54, 55, 56, 57, 58, 59, 60, 61, 62, 63, 64, 65, 66, 67, 68, 69, 70, 71, 72, 73, 74, 75, 76, 77, 78, 79, 80, 81, 82, 83, 84, 85, 86, 87, 88, 89, 90, 91, 92] from rfl, List.map_cons, List.map_nil, ef4] at hlit_
    clear ha hb hf_ hsz hdf hsz' hdf' ef4
    subst hlit_
    go_wp2
    refine bodyPost_ret (results_tmp rfl _ _ _) rfl ⟨rfl, hB2⟩
def xphi10 (b h q k : Nat) (c : UInt8) (x y a1 c1 : Int) (A1 : Option Addr) (m1 k1 : Nat) : Nat → Value → World → Prop
  | 0, v, _ => v = .pointer (some ⟨h, 0, none⟩)
  | 1, v, _ => v = .int .u8 (c.toNat : Int)
  | 2, v, _ => v = .int .i64 x
  | 3, v, _ => v = .pointer (some ⟨b, 0, none⟩)
  | 4, v, _ => v = .pointer (some ⟨h, 2, none⟩)
  | 5, v, _ => v = .slice (some ⟨q, 0, none⟩) 2 k
  | 6, v, _ => v = .pointer (some ⟨q, 3, none⟩)
  | 7, v, _ => v = .agg #[.int .u8 a1, .int .u8 c1, .slice A1 m1 k1]
  | 8, v, _ => v = .int .i64 y
  | 9, v, _ => v = .int .i64 (sd2 c x y)
  | 10, v, _ => v = .int .i64 (sd2 c x y)
  | _, _, _ => True
set_option maxHeartbeats 8000000 in
set_option maxRecDepth 100000 in
theorem sdepth_bin (w : World) (b : Nat) (c : UInt8) (hc : isBin c = true) (q k : Nat) (a0 c0 : Int) (A0 : Option Addr) (m0 k0 : Nat) (a1 c1 : Int) (A1 : Option Addr) (m1 k1 : Nat) (x y : Int)
    (h0 : w.cell? ⟨q, 0, none⟩ = some (.int .u8 a0)) (h1 : w.cell? ⟨q, 1, none⟩ = some (.int .u8 c0)) (h2 : w.cell? ⟨q, 2, none⟩ = some (.slice A0 m0 k0)) (h3 : w.cell? ⟨q, 3, none⟩ = some (.int .u8 a1)) (h4 : w.cell? ⟨q, 4, none⟩ = some (.int .u8 c1)) (h5 : w.cell? ⟨q, 5, none⟩ = some (.slice A1 m1 k1))
    (ihx : ∀ V, Below w.heap.size w V → Calls Try.prog 25 #[.pointer (some ⟨b, 0, none⟩), ndV a0 c0 A0 m0 k0] V fun e w' => e = .returned (.int .i64 x) ∧ Below V.heap.size V w')
    (ihy : ∀ V, Below w.heap.size w V → Calls Try.prog 25 #[.pointer (some ⟨b, 0, none⟩), ndV a1 c1 A1 m1 k1] V fun e w' => e = .returned (.int .i64 y) ∧ Below V.heap.size V w') :
    Calls Try.prog 25 #[.pointer (some ⟨b, 0, none⟩), ndV (c.toNat : Int) 0 (some ⟨q, 0, none⟩) 2 k] w fun e w' => e = .returned (.int .i64 (sd2 c x y)) ∧ Below w.heap.size w w' := by
  have IHX := Aside0.mk ihx
  have IHY := Aside0.mk ihy
  have HC := Aside0.mk hc
  obtain ⟨h, hh⟩ : ∃ h, h = w.heap.size := ⟨_, rfl⟩
  obtain ⟨W0, hW0⟩ : ∃ W0, W0 = w.alloc (.cells #[.int .u8 (c.toNat : Int), .int .u8 (0), .slice (some ⟨q, 0, none⟩) 2 k] 45) := ⟨_, rfl⟩
  have HB0 := Aside0.mk (show Below w.heap.size w W0 from by rw [hW0]; exact (Below.refl _ w).alloc (Nat.le_refl _) _)
  have G0 := Aside0.mk (show W0.cell? ⟨h, 0, none⟩ = some (.int .u8 (c.toNat : Int)) from by rw [hW0, hh]; exact World.cell?_alloc_new _ _ _ _)
  have G1 := Aside0.mk (show W0.cell? ⟨h, 1, none⟩ = some (.int .u8 (0)) from by rw [hW0, hh]; exact World.cell?_alloc_new _ _ _ _)
  have G2 := Aside0.mk (show W0.cell? ⟨h, 2, none⟩ = some (.slice (some ⟨q, 0, none⟩) 2 k) from by rw [hW0, hh]; exact World.cell?_alloc_new _ _ _ _)
  have k0_ := cell_keep HB0.out _ _ h0
  have k1_ := cell_keep HB0.out _ _ h1
  have k2_ := cell_keep HB0.out _ _ h2
  have K3 := Aside0.mk (cell_keep HB0.out _ _ h3)
  have K4 := Aside0.mk (cell_keep HB0.out _ _ h4)
  have K5 := Aside0.mk (cell_keep HB0.out _ _ h5)
  have g0 := G0.out
  have g1 := G1.out
  have g2 := G2.out
  rw [hW0, hh] at g0 g1 g2
  rw [hW0] at k0_ k1_ k2_
  have HW := Aside0.mk hW0
  have HH := Aside0.mk hh
  clear hW0 hh ihx ihy hc h0 h1 h2 h3 h4 h5
  unfold ndV
  go_enter Try.func25, Try.ntmps25
  go_wp2_with fail
  rw [← HW.out]
  have hc := IHX.out W0 HB0.out
  unfold ndV at hc
  refine hc.mono ?_
  rintro e W1 ⟨rfl, hb1⟩
  have HB1 := Aside0.mk hb1
  have HB := Aside0.mk (HB0.out.trans (hb1.mono HB0.out.size))
  clear hc hb1 k0_ k1_ k2_ g0 g1 g2
  rw [← HH.out]
  have g0 := cell_keep HB1.out _ _ G0.out
  have g1 := cell_keep HB1.out _ _ G1.out
  have g2 := cell_keep HB1.out _ _ G2.out
  have k3_ := cell_keep HB1.out _ _ K3.out
  have k4_ := cell_keep HB1.out _ _ K4.out
  have k5_ := cell_keep HB1.out _ _ K5.out
  go_wp2
  refine region_phi2 (xphi10 b h q k c x y a1 c1 A1 m1 k1) [0, 3, 5] (by kernel_rfl) (by kernel_rfl) (by kernel_rfl) ?_ ⟨?_, ?_, ?_, ?_, ?_, ?_, ?_, ?_, ?_, ?_, ?_, trivial⟩ ?_
  · intro i v V V' hV
    unfold xphi10
    split <;> first | exact id | (skip)
  · intro b_ V hdf hb hB ha K hK
    have b3 : b_.eval (.tmp 3) = .pointer (some ⟨h, 0, none⟩) := (hb 3 (by decide)).trans rfl
    clear ha hb hdf
    simp only [Act.eval, Array.getD_eq_getD_getElem?] at b3
    go_simp
    exact hK _ _ (Below.refl _ V) rfl
  · intro b_ V hdf hb hB ha K hK
    have e0 : b_.eval (.tmp 42) = .pointer (some ⟨h, 0, none⟩) := ha 0 42 rfl rfl
    have xg0 := cell_keep hB _ _ g0
    clear ha hb hdf
    simp only [Act.eval, Array.getD_eq_getD_getElem?] at e0
    go_simp
    exact hK _ _ (Below.refl _ V) rfl
  · intro b_ V hdf hb hB ha K hK
    have b5 : b_.eval (.tmp 5) = .int .i64 x := (hb 5 (by decide)).trans rfl
    clear ha hb hdf
    simp only [Act.eval, Array.getD_eq_getD_getElem?] at b5
    go_simp
    exact hK _ _ (Below.refl _ V) rfl
  · intro b_ V hdf hb hB ha K hK
    have b0 : b_.eval (.tmp 0) = .pointer (some ⟨b, 0, none⟩) := (hb 0 (by decide)).trans rfl
    clear ha hb hdf
    simp only [Act.eval, Array.getD_eq_getD_getElem?] at b0
    go_simp
    exact hK _ _ (Below.refl _ V) rfl
  · intro b_ V hdf hb hB ha K hK
    have b3 : b_.eval (.tmp 3) = .pointer (some ⟨h, 0, none⟩) := (hb 3 (by decide)).trans rfl
    clear ha hb hdf
    simp only [Act.eval, Array.getD_eq_getD_getElem?] at b3
    go_simp
    exact hK _ _ (Below.refl _ V) rfl
  · intro b_ V hdf hb hB ha K hK
    have e4 : b_.eval (.tmp 46) = .pointer (some ⟨h, 2, none⟩) := ha 4 46 rfl rfl
    have xg2 := cell_keep hB _ _ g2
    clear ha hb hdf
    simp only [Act.eval, Array.getD_eq_getD_getElem?] at e4
    go_simp
    exact hK _ _ (Below.refl _ V) rfl
  · intro b_ V hdf hb hB ha K hK
    have e5 : b_.eval (.tmp 47) = .slice (some ⟨q, 0, none⟩) 2 k := ha 5 47 rfl rfl
    clear ha hb hdf
    simp only [Act.eval, Array.getD_eq_getD_getElem?] at e5
    go_simp
    exact hK _ _ (Below.refl _ V) rfl
  · intro b_ V hdf hb hB ha K hK
    have e6 : b_.eval (.tmp 48) = .pointer (some ⟨q, 3, none⟩) := ha 6 48 rfl rfl
    have xk3_ := cell_keep hB _ _ k3_
    have xk4_ := cell_keep hB _ _ k4_
    have xk5_ := cell_keep hB _ _ k5_
    clear ha hb hdf
    simp only [Act.eval, Array.getD_eq_getD_getElem?] at e6
    go_simp
    exact hK _ _ (Below.refl _ V) rfl
  · intro b_ V hdf hb hB ha K hK
    have e3 : b_.eval (.tmp 45) = .pointer (some ⟨b, 0, none⟩) := ha 3 45 rfl rfl
    have e7 : b_.eval (.tmp 49) = .agg #[.int .u8 a1, .int .u8 c1, .slice A1 m1 k1] := ha 7 49 rfl rfl
    clear ha hb hdf
    simp only [Act.eval, Array.getD_eq_getD_getElem?] at e3 e7
    go_simp
    have hW : Below w.heap.size w V := HB.out.trans (hB.mono HB.out.size)
    have hc := IHY.out V hW
    unfold ndV at hc
    refine hc.mono ?_
    intro e W2 hr
    obtain ⟨he, hb2⟩ := hr
    subst he
    exact hK (.int .i64 y) W2 hb2 rfl
  · intro b_ V hdf hb hB ha K hK
    have e1 : b_.eval (.tmp 43) = .int .u8 (c.toNat : Int) := ha 1 43 rfl rfl
    have e2 : b_.eval (.tmp 44) = .int .i64 x := ha 2 44 rfl rfl
    have e8 : b_.eval (.tmp 50) = .int .i64 y := ha 8 50 rfl rfl
    clear ha hb hdf
    simp only [Act.eval, Array.getD_eq_getD_getElem?] at e1 e2 e8
    go_simp
    refine (two_walk c x y HC.out V).mono ?_
    intro e W2 hr
    obtain ⟨he, hw⟩ := hr
    subst he
    rw [hw]
    exact hK (.int .i64 (sd2 c x y)) V (Below.refl _ V) rfl
  · intro b_ V hdf hb hB ha K hK
    have e9 : b_.eval (.tmp 51) = .int .i64 (sd2 c x y) := ha 9 51 rfl rfl
    clear ha hb hdf
    simp only [Act.eval, Array.getD_eq_getD_getElem?] at e9
    go_simp
    exact hK _ _ (Below.refl _ V) rfl
  · intro b_ V hdf hsz hb hB ha
    have hB2 := HB.out.trans (hB.mono HB.out.size)
    have hsz' : b_.tmps.size = 93 := hsz.trans rfl
    have hdf' : b_.defers = [] := hdf.trans rfl
    obtain ⟨f_, hf_, hlit_⟩ := act_lit b_ 93 hsz' hdf'
    have ef4 : f_ 4 = .int .i64 (sd2 c x y) := (hf_ 4).trans (ha 10 4 rfl)
    simp only [show List.range 93 = [0, 1, 2, 3, 4, 5, 6, 7, 8, 9, 10, 11, 12, 13, 14, 15, 16, 17, 18, 19, 20, 21, 22, 23, 24, 25, 26, 27, 28, 29, 30, 31, 32, 33, 34, 35, 36, 37, 38, 39, 40, 41, 42, 43, 44, 45, 46, 47, 48, 49, 50, 51, 52, 53, 54, 55, 56, 57, 58, 59, 60, 61, 62, 63, 64, 65, 66, 67, 68, 69, 70, 71, 72, 73, 74, 75, 76, 77, 78, 79, 80, 81, 82, 83, 84, 85, 86, 87, 88, 89, 90, 91, 92] from rfl, List.map_cons, List.map_nil, ef4] at hlit_
    clear ha hb hf_ hsz hdf hsz' hdf' ef4
    subst hlit_
    go_wp2
    refine bodyPost_ret (results_tmp rfl _ _ _) rfl ⟨rfl, hB2⟩
def xphi13 (b h : Nat) (u : UInt8) (z : Int) : Nat → Value → World → Prop
  | 0, v, _ => v = .pointer (some ⟨b, 0, none⟩)
  | 1, v, _ => v = .pointer (some ⟨h, 1, none⟩)
  | 2, v, _ => v = .int .u8 (u.toNat : Int)
  | 3, v, _ => v = .pointer (some ⟨b, 0, none⟩)
  | 4, v, _ => v = .pointer (some ⟨b, u.toNat, none⟩)
  | 5, v, _ => v = .int .i64 z
  | 6, v, _ => v = .int .i64 z
  | _, _, _ => True
def xphi14 (b h : Nat) (u : UInt8) (x : Int) : Nat → Value → World → Prop
  | 0, v, _ => v = .pointer (some ⟨b, 0, none⟩)
  | 1, v, _ => v = .pointer (some ⟨h, 1, none⟩)
  | 2, v, _ => v = .int .u8 (u.toNat : Int)
  | 3, v, _ => v = .int .i64 x
  | 4, v, _ => v = .int .i64 (wrap64 (x - 1))
  | 5, v, _ => v = .pointer (some ⟨b, 0, none⟩)
  | 6, v, _ => v = .pointer (some ⟨b, u.toNat, none⟩)
  | _, _, _ => True
def xphi16 (b h : Nat) (u : UInt8) (z : Int) : Nat → Value → World → Prop
  | 0, v, _ => v = .pointer (some ⟨b, 0, none⟩)
  | 1, v, _ => v = .pointer (some ⟨h, 1, none⟩)
  | 2, v, _ => v = .int .u8 (u.toNat : Int)
  | 3, v, _ => v = .int .i64 z
  | 4, v, _ => v = .pointer (some ⟨b, 0, none⟩)
  | 5, v, _ => v = .pointer (some ⟨b, u.toNat, none⟩)
  | _, _, _ => True
theorem far_cell {W : World} {b i : Nat} {v u : Value} {p : Addr} (h : W.cell? p = some u) (hp : p.block ≠ b) : (W.setCell ⟨b, i, none⟩ v).cell? p = some u := (World.cell?_setCell_far W ⟨b, i, none⟩ p v (fun e => hp e.symm)).trans h
set_option maxHeartbeats 16000000 in
set_option maxRecDepth 100000 in
theorem sdepth_loop (w : World) (b : Nat) (F : Dp) (ha : ArrAt w b F) (c u : UInt8) (hc : c = 91 ∨ c = 123) (hu : ¬ (u.toNat : Int) = 0) (q k : Nat) (hqb : q < b) (a0 c0 : Int) (A0 : Option Addr) (m0 k0 : Nat) (a1 c1 : Int) (A1 : Option Addr) (m1 k1 : Nat) (x y : Int)
    (h0 : w.cell? ⟨q, 0, none⟩ = some (.int .u8 a0)) (h1 : w.cell? ⟨q, 1, none⟩ = some (.int .u8 c0)) (h2 : w.cell? ⟨q, 2, none⟩ = some (.slice A0 m0 k0)) (h3 : w.cell? ⟨q, 3, none⟩ = some (.int .u8 a1)) (h4 : w.cell? ⟨q, 4, none⟩ = some (.int .u8 c1)) (h5 : w.cell? ⟨q, 5, none⟩ = some (.slice A1 m1 k1))
    (ihx : ∀ V, Below w.heap.size w V → Calls Try.prog 25 #[.pointer (some ⟨b, 0, none⟩), ndV a0 c0 A0 m0 k0] V fun e w' => e = .returned (.int .i64 x) ∧ Below V.heap.size V w')
    (ihy : 1 ≤ x → ∀ V, ArrAt V b (updD F u (wrap64 (x - 1))) → (∀ k, k < b → V.heap[k]? = w.heap[k]?) → Calls Try.prog 25 #[.pointer (some ⟨b, 0, none⟩), ndV a1 c1 A1 m1 k1] V fun e w' => e = .returned (.int .i64 y) ∧ Below V.heap.size V w') :
    Calls Try.prog 25 #[.pointer (some ⟨b, 0, none⟩), ndV (c.toNat : Int) (u.toNat : Int) (some ⟨q, 0, none⟩) 2 k] w fun e w' => e = .returned (.int .i64 (sdl c x y)) ∧ Below w.heap.size w w' := by
  have IHX := Aside0.mk ihx
  have IHY := Aside0.mk ihy
  have HC := Aside0.mk hc
  have HA := Aside0.mk ha
  have HBL := Aside0.mk (arr_lt ha)
  have HQB := Aside0.mk (show q ≠ b from by omega)
  have hu0 : ((u.toNat : Int) == 0) = false := by simp; omega
  have hult := u.toNat_lt
  have i0 : (0 : Int) ≤ (u.toNat : Int) := by omega
  have i1 : (u.toNat : Int) < 256 := by omega
  obtain ⟨z, hz⟩ : ∃ z, z = F u := ⟨_, rfl⟩
  obtain ⟨h, hh⟩ : ∃ h, h = w.heap.size := ⟨_, rfl⟩
  obtain ⟨W0, hW0⟩ : ∃ W0, W0 = w.alloc (.cells #[.int .u8 (c.toNat : Int), .int .u8 ((u.toNat : Int)), .slice (some ⟨q, 0, none⟩) 2 k] 45) := ⟨_, rfl⟩
  have HB0 := Aside0.mk (show Below w.heap.size w W0 from by rw [hW0]; exact (Below.refl _ w).alloc (Nat.le_refl _) _)
  have G0 := Aside0.mk (show W0.cell? ⟨h, 0, none⟩ = some (.int .u8 (c.toNat : Int)) from by rw [hW0, hh]; exact World.cell?_alloc_new _ _ _ _)
  have G1 := Aside0.mk (show W0.cell? ⟨h, 1, none⟩ = some (.int .u8 ((u.toNat : Int))) from by rw [hW0, hh]; exact World.cell?_alloc_new _ _ _ _)
  have G2 := Aside0.mk (show W0.cell? ⟨h, 2, none⟩ = some (.slice (some ⟨q, 0, none⟩) 2 k) from by rw [hW0, hh]; exact World.cell?_alloc_new _ _ _ _)
  have k0_ := cell_keep HB0.out _ _ h0
  have k1_ := cell_keep HB0.out _ _ h1
  have k2_ := cell_keep HB0.out _ _ h2
  have K3 := Aside0.mk (cell_keep HB0.out _ _ h3)
  have K4 := Aside0.mk (cell_keep HB0.out _ _ h4)
  have K5 := Aside0.mk (cell_keep HB0.out _ _ h5)
  have g0 := G0.out
  have g1 := G1.out
  have g2 := G2.out
  rw [hW0, hh] at g0 g1 g2
  rw [hW0] at k0_ k1_ k2_
  have HW := Aside0.mk hW0
  have HH := Aside0.mk hh
  have HHB := Aside0.mk (show h ≠ b from by have := HBL.out; omega)
  have HZ := Aside0.mk hz.symm
  clear hW0 hh ihx ihy hc h0 h1 h2 h3 h4 h5 ha hu hqb hz hult
  unfold ndV
  go_enter Try.func25, Try.ntmps25
  go_wp2_with fail
  rw [← HW.out]
  have hc := IHX.out W0 HB0.out
  unfold ndV at hc
  refine hc.mono ?_
  rintro e W1 ⟨rfl, hb1⟩
  have HB1 := Aside0.mk hb1
  have HB := Aside0.mk (HB0.out.trans (hb1.mono HB0.out.size))
  clear hc hb1 k0_ k1_ k2_ g0 g1 g2
  rw [← HH.out]
  have g0 := cell_keep HB1.out _ _ G0.out
  have g1 := cell_keep HB1.out _ _ G1.out
  have g2 := cell_keep HB1.out _ _ G2.out
  have k3_ := cell_keep HB1.out _ _ K3.out
  have k4_ := cell_keep HB1.out _ _ K4.out
  have k5_ := cell_keep HB1.out _ _ K5.out
  have HA1 := Aside0.mk (arr_below HA.out HB.out)
  have hza := arr_cell HA1.out u
  rw [HZ.out] at hza
  by_cases hd : x < 1
  · have HD := Aside0.mk hd
    go_wp2
    go_ret
    exact ⟨by rw [sdl, if_pos (by have := HD.out; omega)]; rfl, HB.out⟩
  have HD := Aside0.mk (show 1 ≤ x from by omega)
  have hd' : ¬ x < 1 := hd
  clear hd
  go_wp2
  clear hd'
  refine region_phi2 (xphi13 b h u z) [0, 3, 5] (by kernel_rfl) (by kernel_rfl) (by kernel_rfl) ?_ ⟨?_, ?_, ?_, ?_, ?_, ?_, ?_, trivial⟩ ?_
  · intro i v V V' hV
    unfold xphi13
    split <;> first | exact id | (skip)
  · intro b_ V hdf hb hB ha K hK
    have b0 : b_.eval (.tmp 0) = .pointer (some ⟨b, 0, none⟩) := (hb 0 (by decide)).trans rfl
    clear ha hb hdf
    simp only [Act.eval, Array.getD_eq_getD_getElem?] at b0
    go_simp
    exact hK _ _ (Below.refl _ V) rfl
  · intro b_ V hdf hb hB ha K hK
    have b3 : b_.eval (.tmp 3) = .pointer (some ⟨h, 0, none⟩) := (hb 3 (by decide)).trans rfl
    clear ha hb hdf
    simp only [Act.eval, Array.getD_eq_getD_getElem?] at b3
    go_simp
    exact hK _ _ (Below.refl _ V) rfl
  · intro b_ V hdf hb hB ha K hK
    have e1 : b_.eval (.tmp 55) = .pointer (some ⟨h, 1, none⟩) := ha 1 55 rfl rfl
    have xg1 := cell_keep hB _ _ g1
    clear ha hb hdf
    simp only [Act.eval, Array.getD_eq_getD_getElem?] at e1
    go_simp
    exact hK _ _ (Below.refl _ V) rfl
  · intro b_ V hdf hb hB ha K hK
    have e0 : b_.eval (.tmp 54) = .pointer (some ⟨b, 0, none⟩) := ha 0 54 rfl rfl
    clear ha hb hdf
    simp only [Act.eval, Array.getD_eq_getD_getElem?] at e0
    go_simp
    exact hK _ _ (Below.refl _ V) rfl
  · intro b_ V hdf hb hB ha K hK
    have e3 : b_.eval (.tmp 57) = .pointer (some ⟨b, 0, none⟩) := ha 3 57 rfl rfl
    have e2 : b_.eval (.tmp 56) = .int .u8 (u.toNat : Int) := ha 2 56 rfl rfl
    clear ha hb hdf
    simp only [Act.eval, Array.getD_eq_getD_getElem?] at e3 e2
    go_simp
    exact hK _ _ (Below.refl _ V) rfl
  · intro b_ V hdf hb hB ha K hK
    have e4 : b_.eval (.tmp 58) = .pointer (some ⟨b, u.toNat, none⟩) := ha 4 58 rfl rfl
    have xhza := cell_keep hB _ _ hza
    clear ha hb hdf
    simp only [Act.eval, Array.getD_eq_getD_getElem?] at e4
    go_simp
    exact hK _ _ (Below.refl _ V) rfl
  · intro b_ V hdf hb hB ha K hK
    have e5 : b_.eval (.tmp 59) = .int .i64 z := ha 5 59 rfl rfl
    clear ha hb hdf
    simp only [Act.eval, Array.getD_eq_getD_getElem?] at e5
    go_simp
    exact hK _ _ (Below.refl _ V) rfl
  · intro b_ V hdf hsz hb hB ha
    have HBW3 := Aside0.mk (HB.out.trans (hB.mono HB.out.size))
    have HA3 := Aside0.mk (arr_below HA1.out hB)
    have g0 := cell_keep hB _ _ g0
    have g1 := cell_keep hB _ _ g1
    have g2 := cell_keep hB _ _ g2
    have k3_ := cell_keep hB _ _ k3_
    have k4_ := cell_keep hB _ _ k4_
    have k5_ := cell_keep hB _ _ k5_
    clear hza
    have hsz' : b_.tmps.size = 93 := hsz.trans rfl
    have hdf' : b_.defers = [] := hdf.trans rfl
    obtain ⟨f_, hf_, hlit_⟩ := act_lit b_ 93 hsz' hdf'
    have ef6 : f_ 6 = .int .i64 z := (hf_ 6).trans (ha 6 6 rfl)
    have ef0 : f_ 0 = .pointer (some ⟨b, 0, none⟩) := (hf_ 0).trans ((hb 0 (by decide)).trans rfl)
    have ef3 : f_ 3 = .pointer (some ⟨h, 0, none⟩) := (hf_ 3).trans ((hb 3 (by decide)).trans rfl)
    have ef5 : f_ 5 = .int .i64 x := (hf_ 5).trans ((hb 5 (by decide)).trans rfl)
    simp only [show List.range 93 = [0, 1, 2, 3, 4, 5, 6, 7, 8, 9, 10, 11, 12, 13, 14, 15, 16, 17, 18, 19, 20, 21, 22, 23, 24, 25, 26, 27, 28, 29, 30, 31, 32, 33, 34, 35, 36, 37, 38, 39, 40, 41, 42, 43, 44, 45, 46, 47, 48, 49, 50, 51, 52, 53, 54, 55, 56, 57, 58, 59, 60, 61, 62, 63, 64, 65, 66, 67, 68, 69, 70, 71, 72, 73, 74, 75, 76, 77, 78, 79, 80, 81, 82, 83, 84, 85, 86, 87, 88, 89, 90, 91, 92] from rfl, List.map_cons, List.map_nil, ef6, ef0, ef3, ef5] at hlit_
    clear ha hb hf_ hsz hdf hsz' hdf' ef6 ef0 ef3 ef5
    subst hlit_
    clear hB
    go_wp2
    refine region_phi3 (xphi14 b h u x) [0, 3, 5, 6] 7 _ rfl (by kernel_rfl) (by kernel_rfl) (by kernel_rfl) (by kernel_rfl) ?_ ⟨fun _ => ?_, fun _ => ?_, fun _ => ?_, fun _ => ?_, fun _ => ?_, fun _ => ?_, fun _ => ?_, fun h => absurd rfl h, trivial⟩ ?_
    · intro i v V V' hV
      unfold xphi14
      split <;> first | exact id | (skip)
    · intro b_ V hdf hb hB ha K hK
      have b0 : b_.eval (.tmp 0) = .pointer (some ⟨b, 0, none⟩) := (hb 0 (by decide)).trans rfl
      clear ha hb hdf
      simp only [Act.eval, Array.getD_eq_getD_getElem?] at b0
      go_simp
      exact hK _ _ (Below.refl _ V) rfl
    · intro b_ V hdf hb hB ha K hK
      have b3 : b_.eval (.tmp 3) = .pointer (some ⟨h, 0, none⟩) := (hb 3 (by decide)).trans rfl
      clear ha hb hdf
      simp only [Act.eval, Array.getD_eq_getD_getElem?] at b3
      go_simp
      exact hK _ _ (Below.refl _ V) rfl
    · intro b_ V hdf hb hB ha K hK
      have e1 : b_.eval (.tmp 61) = .pointer (some ⟨h, 1, none⟩) := ha 1 61 rfl rfl
      have xg1 := cell_keep hB _ _ g1
      clear ha hb hdf
      simp only [Act.eval, Array.getD_eq_getD_getElem?] at e1
      go_simp
      exact hK _ _ (Below.refl _ V) rfl
    · intro b_ V hdf hb hB ha K hK
      have b5 : b_.eval (.tmp 5) = .int .i64 x := (hb 5 (by decide)).trans rfl
      clear ha hb hdf
      simp only [Act.eval, Array.getD_eq_getD_getElem?] at b5
      go_simp
      exact hK _ _ (Below.refl _ V) rfl
    · intro b_ V hdf hb hB ha K hK
      have e3 : b_.eval (.tmp 63) = .int .i64 x := ha 3 63 rfl rfl
      clear ha hb hdf
      simp only [Act.eval, Array.getD_eq_getD_getElem?] at e3
      go_simp
      refine hK _ _ (Below.refl _ V) ?_
      show Value.int .i64 _ = Value.int .i64 _
      rw [show IntKind.i64.wrap (x - 1) = wrap64 (x - 1) from by rw [IntKind.wrap_i64, wrap64]]
    · intro b_ V hdf hb hB ha K hK
      have e0 : b_.eval (.tmp 60) = .pointer (some ⟨b, 0, none⟩) := ha 0 60 rfl rfl
      clear ha hb hdf
      simp only [Act.eval, Array.getD_eq_getD_getElem?] at e0
      go_simp
      exact hK _ _ (Below.refl _ V) rfl
    · intro b_ V hdf hb hB ha K hK
      have e5 : b_.eval (.tmp 65) = .pointer (some ⟨b, 0, none⟩) := ha 5 65 rfl rfl
      have e2 : b_.eval (.tmp 62) = .int .u8 (u.toNat : Int) := ha 2 62 rfl rfl
      clear ha hb hdf
      simp only [Act.eval, Array.getD_eq_getD_getElem?] at e5 e2
      go_simp
      exact hK _ _ (Below.refl _ V) rfl
    · intro b_ V hdf hsz hb hB ha K hK
      have HBW4 := Aside0.mk (HBW3.out.trans (hB.mono HBW3.out.size))
      have hA4 := arr_below HA3.out hB
      have fz := arr_frozen hA4 u.toNat
      have cu_ := arr_cell hA4 u
      have g0 := far_cell (v := .int .i64 (wrap64 (x - 1))) (i := u.toNat) (cell_keep hB _ _ g0) HHB.out
      have g1 := far_cell (v := .int .i64 (wrap64 (x - 1))) (i := u.toNat) (cell_keep hB _ _ g1) HHB.out
      have g2 := far_cell (v := .int .i64 (wrap64 (x - 1))) (i := u.toNat) (cell_keep hB _ _ g2) HHB.out
      have k3_ := far_cell (v := .int .i64 (wrap64 (x - 1))) (i := u.toNat) (cell_keep hB _ _ k3_) HQB.out
      have k4_ := far_cell (v := .int .i64 (wrap64 (x - 1))) (i := u.toNat) (cell_keep hB _ _ k4_) HQB.out
      have k5_ := far_cell (v := .int .i64 (wrap64 (x - 1))) (i := u.toNat) (cell_keep hB _ _ k5_) HQB.out
      have HA5 := Aside0.mk (arr_set hA4 u (wrap64 (x - 1)))
      have hsz' : b_.tmps.size = 93 := hsz.trans rfl
      have hdf' : b_.defers = [] := hdf.trans rfl
      obtain ⟨f_, hf_, hlit_⟩ := act_lit b_ 93 hsz' hdf'
      have ef64 : f_ 64 = .int .i64 (wrap64 (x - 1)) := (hf_ 64).trans (ha 4 64 (by decide) rfl)
      have ef66 : f_ 66 = .pointer (some ⟨b, u.toNat, none⟩) := (hf_ 66).trans (ha 6 66 (by decide) rfl)
      have ef0 : f_ 0 = .pointer (some ⟨b, 0, none⟩) := (hf_ 0).trans ((hb 0 (by decide)).trans rfl)
      have ef3 : f_ 3 = .pointer (some ⟨h, 0, none⟩) := (hf_ 3).trans ((hb 3 (by decide)).trans rfl)
      have ef5 : f_ 5 = .int .i64 x := (hf_ 5).trans ((hb 5 (by decide)).trans rfl)
      have ef6 : f_ 6 = .int .i64 z := (hf_ 6).trans ((hb 6 (by decide)).trans rfl)
      simp only [show List.range 93 = [0, 1, 2, 3, 4, 5, 6, 7, 8, 9, 10, 11, 12, 13, 14, 15, 16, 17, 18, 19, 20, 21, 22, 23, 24, 25, 26, 27, 28, 29, 30, 31, 32, 33, 34, 35, 36, 37, 38, 39, 40, 41, 42, 43, 44, 45, 46, 47, 48, 49, 50, 51, 52, 53, 54, 55, 56, 57, 58, 59, 60, 61, 62, 63, 64, 65, 66, 67, 68, 69, 70, 71, 72, 73, 74, 75, 76, 77, 78, 79, 80, 81, 82, 83, 84, 85, 86, 87, 88, 89, 90, 91, 92] from rfl, List.map_cons, List.map_nil, ef64, ef66, ef0, ef3, ef5, ef6] at hlit_
      clear ha hb hf_ hsz hdf hsz' hdf' ef64 ef66 ef0 ef3 ef5 ef6
      subst hlit_
      go_simp
      refine hK _ _ ?_
      clear hK cu_ fz hA4 hB
      have ih_ := IHY.out (by have := HD.out; omega) _ HA5.out (fun k hk => (Below.heap_setCell V ⟨b, u.toNat, none⟩ _ k (by simp; omega)).trans (HBW4.out.block k (Nat.lt_trans hk HBL.out)))
      unfold ndV at ih_
      go_wp2_with fail
      refine ih_.mono ?_
      rintro e W6 ⟨rfl, hb6⟩
      have HB67 := Aside0.mk hb6
      have HA6 := Aside0.mk (arr_below HA5.out hb6)
      have g0 := cell_keep hb6 _ _ g0
      have g1 := cell_keep hb6 _ _ g1
      clear hb6 ih_
      go_wp2
      refine region_phi3 (xphi16 b h u z) [0, 3, 5, 6, 7] 6 _ rfl (by kernel_rfl) (by kernel_rfl) (by kernel_rfl) (by kernel_rfl) ?_ ⟨fun _ => ?_, fun _ => ?_, fun _ => ?_, fun _ => ?_, fun _ => ?_, fun _ => ?_, fun h => absurd rfl h, trivial⟩ ?_
      · intro i v V V' hV
        unfold xphi16
        split <;> first | exact id | (skip)
      · intro b_ V hdf hb hB ha K hK
        have b0 : b_.eval (.tmp 0) = .pointer (some ⟨b, 0, none⟩) := (hb 0 (by decide)).trans rfl
        clear ha hb hdf
        simp only [Act.eval, Array.getD_eq_getD_getElem?] at b0
        go_simp
        exact hK _ _ (Below.refl _ V) rfl
      · intro b_ V hdf hb hB ha K hK
        have b3 : b_.eval (.tmp 3) = .pointer (some ⟨h, 0, none⟩) := (hb 3 (by decide)).trans rfl
        clear ha hb hdf
        simp only [Act.eval, Array.getD_eq_getD_getElem?] at b3
        go_simp
        exact hK _ _ (Below.refl _ V) rfl
      · intro b_ V hdf hb hB ha K hK
        have e1 : b_.eval (.tmp 74) = .pointer (some ⟨h, 1, none⟩) := ha 1 74 rfl rfl
        have xg1 := cell_keep hB _ _ g1
        clear ha hb hdf
        simp only [Act.eval, Array.getD_eq_getD_getElem?] at e1
        go_simp
        exact hK _ _ (Below.refl _ V) rfl
      · intro b_ V hdf hb hB ha K hK
        have b6 : b_.eval (.tmp 6) = .int .i64 z := (hb 6 (by decide)).trans rfl
        clear ha hb hdf
        simp only [Act.eval, Array.getD_eq_getD_getElem?] at b6
        go_simp
        exact hK _ _ (Below.refl _ V) rfl
      · intro b_ V hdf hb hB ha K hK
        have e0 : b_.eval (.tmp 73) = .pointer (some ⟨b, 0, none⟩) := ha 0 73 rfl rfl
        clear ha hb hdf
        simp only [Act.eval, Array.getD_eq_getD_getElem?] at e0
        go_simp
        exact hK _ _ (Below.refl _ V) rfl
      · intro b_ V hdf hb hB ha K hK
        have e4 : b_.eval (.tmp 77) = .pointer (some ⟨b, 0, none⟩) := ha 4 77 rfl rfl
        have e2 : b_.eval (.tmp 75) = .int .u8 (u.toNat : Int) := ha 2 75 rfl rfl
        clear ha hb hdf
        simp only [Act.eval, Array.getD_eq_getD_getElem?] at e4 e2
        go_simp
        exact hK _ _ (Below.refl _ V) rfl
      · intro b_ V hdf hsz hb hB ha K hK
        have fz := arr_frozen (arr_below HA6.out hB) u.toNat
        have cu_ := arr_cell (arr_below HA6.out hB) u
        have hb67_ := HB67.out.trans (hB.mono HB67.out.size)
        have hsz' : b_.tmps.size = 93 := hsz.trans rfl
        have hdf' : b_.defers = [] := hdf.trans rfl
        obtain ⟨f_, hf_, hlit_⟩ := act_lit b_ 93 hsz' hdf'
        have ef76 : f_ 76 = .int .i64 z := (hf_ 76).trans (ha 3 76 (by decide) rfl)
        have ef78 : f_ 78 = .pointer (some ⟨b, u.toNat, none⟩) := (hf_ 78).trans (ha 5 78 (by decide) rfl)
        have ef0 : f_ 0 = .pointer (some ⟨b, 0, none⟩) := (hf_ 0).trans ((hb 0 (by decide)).trans rfl)
        have ef3 : f_ 3 = .pointer (some ⟨h, 0, none⟩) := (hf_ 3).trans ((hb 3 (by decide)).trans rfl)
        have ef5 : f_ 5 = .int .i64 x := (hf_ 5).trans ((hb 5 (by decide)).trans rfl)
        have ef6 : f_ 6 = .int .i64 z := (hf_ 6).trans ((hb 6 (by decide)).trans rfl)
        have ef7 : f_ 7 = .int .i64 y := (hf_ 7).trans ((hb 7 (by decide)).trans rfl)
        simp only [show List.range 93 = [0, 1, 2, 3, 4, 5, 6, 7, 8, 9, 10, 11, 12, 13, 14, 15, 16, 17, 18, 19, 20, 21, 22, 23, 24, 25, 26, 27, 28, 29, 30, 31, 32, 33, 34, 35, 36, 37, 38, 39, 40, 41, 42, 43, 44, 45, 46, 47, 48, 49, 50, 51, 52, 53, 54, 55, 56, 57, 58, 59, 60, 61, 62, 63, 64, 65, 66, 67, 68, 69, 70, 71, 72, 73, 74, 75, 76, 77, 78, 79, 80, 81, 82, 83, 84, 85, 86, 87, 88, 89, 90, 91, 92] from rfl, List.map_cons, List.map_nil, ef76, ef78, ef0, ef3, ef5, ef6, ef7] at hlit_
        clear ha hb hf_ hsz hdf hsz' hdf' ef76 ef78 ef0 ef3 ef5 ef6 ef7
        subst hlit_
        go_simp
        refine hK _ _ ?_
        clear hK cu_ fz
        have HB8 := Aside0.mk (arr_back HA.out u (wrap64 (x - 1)) HBW4.out (hb67_.mono (by simp [World.setCell])))
        rw [HZ.out] at HB8
        have g0 := far_cell (v := .int .i64 z) (i := u.toNat) (cell_keep hB _ _ g0) HHB.out
        clear hB hb67_
        rcases HC.out with rfl | rfl
        · by_cases t0 : y < 0
          · have HT := Aside0.mk t0
            go_wp2
            refine bodyPost_ret (results_tmp rfl _ _ _) rfl ⟨?_, HB8.out⟩
            rw [sdl, if_neg (by have := HD.out; omega), if_neg (by have := HT.out; omega), if_neg (fun h => absurd h.1 (by decide))]; rfl
          · by_cases t2 : y ≤ 2
            · have HT := Aside0.mk (And.intro t0 t2)
              go_wp2
              refine bodyPost_ret (results_tmp rfl _ _ _) rfl ⟨?_, HB8.out⟩
              rw [sdl, if_neg (by have := HD.out; omega), if_pos ⟨rfl, by have := HT.out; omega⟩, show wrap64 (y + 1) = y + 1 from by have := HT.out; rw [wrap64]; omega]; rfl
            · have HT := Aside0.mk t2
              go_wp2
              refine bodyPost_ret (results_tmp rfl _ _ _) rfl ⟨?_, HB8.out⟩
              rw [sdl, if_neg (by have := HD.out; omega), if_neg (by have := HT.out; omega), if_neg (fun h => absurd h.1 (by decide))]; rfl
        · by_cases t0 : y = 0
          · have HT := Aside0.mk t0
            go_wp2
            refine bodyPost_ret (results_tmp rfl _ _ _) rfl ⟨?_, HB8.out⟩
            rw [sdl, if_neg (by have := HD.out; omega), if_neg (fun h => absurd h.1 (by decide)), if_pos ⟨rfl, by first | rfl | exact HT.out⟩]; rfl
          · have HT := Aside0.mk t0
            go_wp2
            refine bodyPost_ret (results_tmp rfl _ _ _) rfl ⟨?_, HB8.out⟩
            rw [sdl, if_neg (by have := HD.out; omega), if_neg (fun h => absurd h.1 (by decide)), if_neg (by have := HT.out; omega)]; rfl
end Go.Proofs.YtpklhagedifglaaW.PrintMore
namespace Go.Proofs.YtpklhagedifglaaW.PrintMore
set_option linter.unusedVariables false
set_option linter.unusedSimpArgs false
open Go.Proofs Go.Deep
open Go.RowKit Go.Proofs.YtpklhagedifglaaW.PrintWords
theorem cell_blk {W V : World} {p : Addr} {u : Value} (h : ∀ k, k < V.heap.size → W.heap[k]? = V.heap[k]?) (hc : V.cell? p = some u) : W.cell? p = some u := (World.cell?_of_block (w := V) (h p.block (World.block_lt_of_cell? V _ hc))).trans hc
theorem sdepth_walk (V : World) (lo : Nat) : ∀ (t : Tm) (v : Value) (W : World) (b : Nat) (F : Dp), t.ok → NdAt V lo v t → V.heap.size ≤ b → (∀ k, k < V.heap.size → W.heap[k]? = V.heap[k]?) → ArrAt W b F → Calls Try.prog 25 #[.pointer (some ⟨b, 0, none⟩), v] W fun e w' => e = .returned (.int .i64 (t.dp F)) ∧ Below W.heap.size W w' := by
  intro t
  induction t with
  | leaf c =>
    rintro v W b F hw ⟨A, k, rfl⟩ hb hW ha
    exact sdepth_leaf W b F c A k ha
  | un c x ih =>
    rintro v W b F hw h hb hW ha
    rcases nd_parts h with ⟨_, _, _, h, _⟩ | ⟨c', x', q, k, a0, c0, A0, m0, k0, e, rfl, h0, h1, h2, hx⟩ | ⟨_, _, _, _, _, _, _, _, _, _, _, _, _, _, _, _, (h | ⟨_, h, _⟩), _⟩
    · cases h
    · cases e
      exact sdepth_un W b c hw.1 q k a0 c0 A0 m0 k0 _ (cell_blk hW h0) (cell_blk hW h1) (cell_blk hW h2) (fun U hU => ih _ U b F hw.2 hx hb (fun k hk => (hU.block k (by have := arr_lt ha; omega)).trans (hW k hk)) (arr_below ha hU))
    · cases h.1
    · cases h
  | bin c x y ih1 ih2 =>
    rintro v W b F hw h hb hW ha
    rcases nd_parts h with ⟨_, _, _, h, _⟩ | ⟨_, _, _, _, _, _, _, _, _, h, _⟩ | ⟨c', u, x', y', q, k, a0, c0, A0, m0, k0, a1, c1, A1, m1, k1, (⟨e, rfl⟩ | ⟨_, hz, _⟩), rfl, h0, h1, h2, h3, h4, h5, hx, hy⟩
    · cases h
    · cases h
    · cases e
      exact sdepth_bin W b c hw.1 q k a0 c0 A0 m0 k0 a1 c1 A1 m1 k1 _ _ (cell_blk hW h0) (cell_blk hW h1) (cell_blk hW h2) (cell_blk hW h3) (cell_blk hW h4) (cell_blk hW h5)
        (fun U hU => ih1 _ U b F hw.2.1 hx hb (fun k hk => (hU.block k (by have := arr_lt ha; omega)).trans (hW k hk)) (arr_below ha hU))
        (fun U hU => ih2 _ U b F hw.2.2 hy hb (fun k hk => (hU.block k (by have := arr_lt ha; omega)).trans (hW k hk)) (arr_below ha hU))
    · cases hz
  | loop c u x y ih1 ih2 =>
    rintro v W b F hw h hb hW ha
    rcases nd_parts h with ⟨_, _, _, h, _⟩ | ⟨_, _, _, _, _, _, _, _, _, h, _⟩ | ⟨c', u', x', y', q, k, a0, c0, A0, m0, k0, a1, c1, A1, m1, k1, (⟨hz, _⟩ | ⟨z, e, rfl⟩), rfl, h0, h1, h2, h3, h4, h5, hx, hy⟩
    · cases h
    · cases h
    · cases hz
    · cases e
      exact sdepth_loop W b F ha c u hw.1 (bound_nz hw.2.1) q k (by have := World.block_lt_of_cell? V _ h0; simp at this; omega) a0 c0 A0 m0 k0 a1 c1 A1 m1 k1 _ _ (cell_blk hW h0) (cell_blk hW h1) (cell_blk hW h2) (cell_blk hW h3) (cell_blk hW h4) (cell_blk hW h5)
        (fun U hU => ih1 _ U b F hw.2.2.1 hx hb (fun k hk => (hU.block k (by have := arr_lt ha; omega)).trans (hW k hk)) (arr_below ha hU))
        (fun _ U hU hk => ih2 _ U b _ hw.2.2.2 hy hb (fun k hk' => (hk k (by omega)).trans (hW k hk')) hU)
def ArrI (W : World) (b i : Nat) : Prop := ∃ (arr : Array Value) (t : TypeId), W.heap[b]? = some (.cells arr t (0, 0)) ∧ arr.size = 256 ∧ ∀ c : Nat, c < 256 → arr[c]? = some (.int .i64 (if c < i then -1 else 0))
theorem arrI_cell {W : World} {b i : Nat} (h : ArrI W b i) (c : Nat) (hc : c < 256) : W.cell? ⟨b, c, none⟩ = some (.int .i64 (if c < i then -1 else 0)) := by
  obtain ⟨arr, t, h1, h2, h3⟩ := h
  rw [blk_cell h1]; exact h3 c hc
theorem arrI_frozen {W : World} {b i : Nat} (h : ArrI W b i) (c : Nat) : W.frozen? ⟨b, c, none⟩ = false := by
  obtain ⟨arr, t, h1, h2, h3⟩ := h
  exact blk_frozen h1 c
theorem arrI_set {W : World} {b i : Nat} (h : ArrI W b i) : ArrI (W.setCell ⟨b, i, none⟩ (.int .i64 (-1))) b (i + 1) := by
  obtain ⟨arr, t, h1, h2, h3⟩ := h
  refine ⟨_, t, blk_set h1 _ _, by rw [Array.size_setIfInBounds]; exact h2, fun c hc => ?_⟩
  rw [Array.getElem?_setIfInBounds]
  by_cases hci : i = c
  · subst hci; rw [if_pos rfl, if_pos (by omega), if_pos (by omega)]
  · rw [if_neg hci, h3 c hc]
    by_cases h4 : c < i
    · rw [if_pos h4, if_pos (by omega)]
    · rw [if_neg h4, if_neg (by omega)]
theorem arrI_all {W : World} {b : Nat} (h : ArrI W b 256) : ArrAt W b (fun _ => -1) := by
  obtain ⟨arr, t, h1, h2, h3⟩ := h
  refine ⟨arr, t, h1, h2, fun c => ?_⟩
  have := c.toNat_lt
  rw [h3 c.toNat (by omega), if_pos (by omega)]
set_option maxRecDepth 100000 in
theorem zero_arr : Try.zeroCells82.size = 256 ∧ ∀ c, c < 256 → Try.zeroCells82[c]? = some (.int .i64 0) := by
  have e : Try.zeroCells82 = Array.replicate 256 (.int .i64 0) := by first | rfl | kernel_rfl | decide
  rw [e]
  exact ⟨by simp, fun c hc => by simp [Array.getElem?_replicate, hc]⟩
set_option maxHeartbeats 4000000 in
set_option maxRecDepth 100000 in
theorem start_walk (w : World) : Calls Try.prog 24 #[] w fun e w' => ∃ b, e = .returned (.pointer (some ⟨b, 0, none⟩)) ∧ w.heap.size ≤ b ∧ ArrAt w' b F0 ∧ Below w.heap.size w w' := by
  go_enter Try.func24, Try.ntmps24
  go_wp2
  obtain ⟨b, hb⟩ : ∃ b, b = w.heap.size := ⟨_, rfl⟩
  have HB := Aside0.mk hb
  have HI0 := Aside0.mk (show ArrI (w.alloc (.cells Try.zeroCells82 82)) b 0 from ⟨_, _, by rw [hb]; exact blk_new w _, zero_arr.1, fun c hc => by rw [if_neg (by omega)]; exact zero_arr.2 c hc⟩)
  have HB0 := Aside0.mk (show Below w.heap.size w (w.alloc (.cells Try.zeroCells82 82)) from (Below.refl _ w).alloc (Nat.le_refl _) _)
  rw [← hb]
  clear hb
  go_loopg [5] 256 (fun kq v5 w' => ∃ i : Nat, v5 = .int .i64 (i : Int) ∧ Aside0 (kq + i = 256) ∧ Aside0 (ArrI w' b i) ∧ Aside0 (Below w.heap.size w w'))
  case atStart => exact ⟨0, rfl, ⟨rfl⟩, HI0, HB0⟩
  case round =>
    obtain ⟨i, rfl, HI, HA, HBW⟩ := hrel
    by_cases hi : i < 256
    · have h1 : (i : Int) < 256 := by omega
      have h0 : (0 : Int) ≤ (i : Int) := by omega
      have hc := arrI_cell HA.out i hi
      have hf := arrI_frozen HA.out i
      have HH := Aside0.mk hi
      have HA2 := Aside0.mk (arrI_set HA.out)
      have HB2 := Aside0.mk (show Below w.heap.size w (wr.setCell ⟨b, i, none⟩ (.int .i64 (-1))) from below_set HBW.out (by rw [← HB.out]; exact Nat.le_refl _))
      have HW := Aside0.mk (show wrap64 ((i : Int) + 1) = ((i + 1 : Nat) : Int) from by rw [wrap64]; omega)
      clear hi
      go_wp2
      go_roundg (gk - 1)
      case measure => have := HI.out; have := HH.out; omega
      case rel =>
        refine ⟨i + 1, ?_, ⟨by have := HI.out; have := HH.out; omega⟩, HA2, HB2⟩
        have := HH.out
        have e1 : IntKind.i64.wrap ((i : Int) + 1) = ((i + 1 : Nat) : Int) := by rw [IntKind.wrap_i64]; omega
        have e2 : wrap64 ((i : Int) + 1) = ((i + 1 : Nat) : Int) := by rw [wrap64]; omega
        first | (rw [← e1]; done) | (rw [← e2]; done) | (simp [e1]; done) | (simp [e2]; done) | (show Value.int .i64 _ = _; rw [e1]; done) | (show Value.int .i64 _ = _; rw [e2])
    · have h1 : (256 : Int) ≤ (i : Int) := by omega
      have HE := Aside0.mk (show i = 256 from by have := HI.out; omega)
      clear hi
      have hA := arrI_all (HE.out ▸ HA.out)
      have hA1 := arr_set hA 97 1
      have hA2 := arr_set hA1 98 2
      have c1 : wr.cell? ⟨b, 97, none⟩ = _ := arr_cell hA 97
      have f1 := arr_frozen hA 97
      have c2 : (wr.setCell ⟨b, 97, none⟩ (.int .i64 1)).cell? ⟨b, 98, none⟩ = _ := arr_cell hA1 98
      have f2 : (wr.setCell ⟨b, 97, none⟩ (.int .i64 1)).frozen? ⟨b, 98, none⟩ = _ := arr_frozen hA1 98
      have HA2 := Aside0.mk (show ArrAt ((wr.setCell ⟨b, 97, none⟩ (.int .i64 1)).setCell ⟨b, 98, none⟩ (.int .i64 2)) b _ from hA2)
      have HB2 := Aside0.mk (show Below w.heap.size w ((wr.setCell ⟨b, 97, none⟩ (.int .i64 1)).setCell ⟨b, 98, none⟩ (.int .i64 2)) from below_set (below_set HBW.out (by rw [← HB.out]; exact Nat.le_refl _)) (by rw [← HB.out]; exact Nat.le_refl _))
      clear hA hA1 hA2
      go_wp2
      go_ret
      refine ⟨b, rfl, by rw [← HB.out]; exact Nat.le_refl _, ?_, HB2.out⟩
      have e : F0 = updD (updD (fun _ => -1) 97 1) 98 2 := by unfold F0; rw [envF_upd, envF_upd]; rfl
      rw [e]; exact HA2.out
--PHI
def x3phi (h : Nat) (a c : Int) (A : Option Addr) (m k : Nat) (x : Int) : Nat → Value → World → Prop
  | 0, v, V => ∃ b : Nat, v = .pointer (some ⟨b, 0, none⟩) ∧ (h ≤ b ∧ ArrAt V b F0)
  | 1, v, _ => v = .agg #[.int .u8 a, .int .u8 c, .slice A m k]
  | 2, v, _ => v = .int .i64 x
  | 3, v, _ => v = .int .i64 x
  | _, _, _ => True
set_option maxHeartbeats 2000000 in
set_option maxRecDepth 100000 in
theorem spec_DepthOfTerm_walk (s : ByteArray) (w : World) (hs : s.size ≤ 1048576) : Calls Try.prog 7 #[.string s] w fun e w' => e = .returned (.int .i64 ((tmOf s.data.toList).elim (-1) fun t => t.dp F0)) ∧ Below w.heap.size w w' := by
  have HS := Aside0.mk hs
  clear hs
  go_enter Try.func7, Try.ntmps7
  go_wp2_with fail
  refine (l5Read_walk s _ HS.out).mono ?_
  rintro e w1 ⟨a', c', A', m', k', rfl, hb, hs1, hs2⟩
  have HB := Aside0.mk hb
  clear hb
  unfold ndV at *
  cases ht : tmOf s.data.toList with
  | none =>
    have HT := Aside0.mk ht
    clear hs1 hs2
    have e0 : (none : Option Tm).isSome = false := rfl
    rw [e0]
    go_wp2
    go_ret
    exact ⟨by rw [HT.out]; rfl, HB.out.alloc HB.out.size _⟩
  | some t =>
    have HT := Aside0.mk ht
    have HN := Aside0.mk (hs1 t ht)
    clear hs1 hs2
    have e0 : (some t : Option Tm).isSome = true := rfl
    rw [e0]
    go_wp2
--TAIL
    obtain ⟨U, hU⟩ : ∃ U, U = w1.alloc (.cells #[.int .u8 a', .int .u8 c', .slice A' m' k'] 45) := ⟨_, rfl⟩
    have n0 : U.cell? ⟨w1.heap.size, 0, none⟩ = some (.int .u8 a') := by rw [hU]; exact World.cell?_alloc_new _ _ _ _
    have n1 : U.cell? ⟨w1.heap.size, 1, none⟩ = some (.int .u8 c') := by rw [hU]; exact World.cell?_alloc_new _ _ _ _
    have n2 : U.cell? ⟨w1.heap.size, 2, none⟩ = some (.slice A' m' k') := by rw [hU]; exact World.cell?_alloc_new _ _ _ _
    have HBU := Aside0.mk (show Below w.heap.size w U from by rw [hU]; exact HB.out.alloc HB.out.size _)
    have HU := Aside0.mk hU
    clear hU ht e0
    rw [← HU.out]
    refine region_phi2 (x3phi U.heap.size a' c' A' m' k' (t.dp F0)) [3] (by kernel_rfl) (by kernel_rfl) (by kernel_rfl) ?_ ⟨?_, ?_, ?_, ?_, trivial⟩ ?_
    · intro i v V V' hV
      unfold x3phi
      split <;> first | exact id | (rintro ⟨B, e, hc, hd⟩; exact ⟨B, e, hc, arr_below hd hV⟩)
    · intro b_ V hdf hb hB ha K hK
      clear ha hb hdf
      go_simp
      refine (start_walk V).mono ?_
      intro e W2 hr
      obtain ⟨b, he, hb1, hb2, hb3⟩ := hr
      subst he
      exact hK (.pointer (some ⟨b, 0, none⟩)) W2 hb3 ⟨b, rfl, Nat.le_trans hB.size hb1, hb2⟩
    · intro b_ V hdf hb hB ha K hK
      have b3 : b_.eval (.tmp 3) = .pointer (some ⟨w1.heap.size, 0, none⟩) := (hb 3 (by decide)).trans rfl
      have xn0 := cell_keep hB _ _ n0
      have xn1 := cell_keep hB _ _ n1
      have xn2 := cell_keep hB _ _ n2
      clear ha hb hdf
      simp only [Act.eval, Array.getD_eq_getD_getElem?] at b3
      go_simp
      exact hK _ _ (Below.refl _ V) rfl
    · intro b_ V hdf hb hB ha K hK
      obtain ⟨b, e0, c0⟩ : ∃ b : Nat, b_.eval (.tmp 12) = .pointer (some ⟨b, 0, none⟩) ∧ (U.heap.size ≤ b ∧ ArrAt V b F0) := ha 0 12 rfl rfl
      have e1 : b_.eval (.tmp 13) = .agg #[.int .u8 a', .int .u8 c', .slice A' m' k'] := ha 1 13 rfl rfl
      clear ha hb hdf
      simp only [Act.eval, Array.getD_eq_getD_getElem?] at e0 e1
      go_simp
      refine (sdepth_walk w1 _ t _ V b F0 (tmOf_ok HT.out) HN.out (Nat.le_trans (by rw [HU.out]; simp) c0.1) (fun k hk => (hB.block k (Nat.lt_of_lt_of_le hk (by rw [HU.out]; simp))).trans (by rw [HU.out]; exact Below.heap_alloc _ _ k hk)) c0.2).mono ?_
      intro e W2 hr
      obtain ⟨he, hb2⟩ := hr
      subst he
      exact hK (.int .i64 (t.dp F0)) W2 hb2 rfl
    · intro b_ V hdf hb hB ha K hK
      have e2 : b_.eval (.tmp 14) = .int .i64 (t.dp F0) := ha 2 14 rfl rfl
      clear ha hb hdf
      simp only [Act.eval, Array.getD_eq_getD_getElem?] at e2
      go_simp
      exact hK _ _ (Below.refl _ V) rfl
    · intro b_ V hdf hsz hb hB ha
      have hB2 := HBU.out.trans (hB.mono HBU.out.size)
      have hsz' : b_.tmps.size = 15 := hsz.trans rfl
      have hdf' : b_.defers = [] := hdf.trans rfl
      obtain ⟨f_, hf_, hlit_⟩ := act_lit b_ 15 hsz' hdf'
      have ef2 : f_ 2 = .int .i64 (t.dp F0) := (hf_ 2).trans (ha 3 2 rfl)
      simp only [show List.range 15 = [0, 1, 2, 3, 4, 5, 6, 7, 8, 9, 10, 11, 12, 13, 14] from rfl, List.map_cons, List.map_nil, ef2] at hlit_
      clear ha hb hf_ hsz hdf hsz' hdf' ef2
      subst hlit_
      have HTT := HT.out
      go_wp2
      refine bodyPost_ret (results_tmp rfl _ _ _) rfl ⟨?_, hB2⟩
      first | rfl | (rw [HTT]; rfl)
set_option maxHeartbeats 1000000 in
theorem spec_IsFunction_walk (s : ByteArray) (w : World) (hs : s.size ≤ 1048576) : Calls Try.prog 9 #[.string s] w fun e w' => e = .returned (.bool (decide (0 ≤ (tmOf s.data.toList).elim (-1) fun t => t.dp F0))) ∧ Below w.heap.size w w' := by
  have HS := Aside0.mk hs
  clear hs
  go_enter Try.func9, Try.ntmps9
  go_wp2_with fail
  refine (spec_DepthOfTerm_walk s _ HS.out).mono ?_
  rintro e w1 ⟨rfl, hb⟩
  have HB := Aside0.mk hb
  clear hb
  go_wp2
  go_ret
  exact ⟨rfl, HB.out⟩
end Go.Proofs.YtpklhagedifglaaW.PrintMore
