/-
  Cut to what this claim uses.
-/
import Derived.BigRegion
import Derived.Deep.RegionHeld3
import Derived.Test.YtpklhagedifglaaQTermQ
namespace Go.Proofs.YtpklhagedifglaaW.PrintMore
set_option linter.unusedVariables false
set_option linter.unusedSimpArgs false
open Go.Proofs Go.Deep
open Go.RowKit Go.Proofs.YtpklhagedifglaaW.PrintWords Go.Proofs.YtpklhagedifglaaW.PrintLast Go.Proofs.YtpklhagedifglaaW.PrintMore
set_option maxHeartbeats 8000000 in
set_option maxRecDepth 100000 in
theorem l5text_leaf (w : World) (a : Int) (s c : UInt8) (ha : a = (s.toNat : Int)) (A : Option Addr) (k : Nat) :
    Calls Try.prog 35 #[ndV a (c.toNat : Int) A 0 k] w fun e w' => e = .returned (.string (ch c)) ∧ Below w.heap.size w w' := by
  subst ha
  have cv0 : ∀ o, (convert 22 9 (.slice (some ⟨w.heap.size + 1, 0, none⟩) 1 1)).run Try.prog ((w.alloc o).alloc (.cells #[.int .u8 (s.toNat : Int)] 5)) = .ok (.string (ch s)) ((w.alloc o).alloc (.cells #[.int .u8 (s.toNat : Int)] 5)) := fun o => conv1 (w.alloc o) _ (by simp) s
  have cv1 : ∀ o o', (convert 22 9 (.slice (some ⟨w.heap.size + 1 + 1, 0, none⟩) 1 1)).run Try.prog (((w.alloc o).alloc o').alloc (.cells #[.int .u8 (c.toNat : Int)] 5)) = .ok (.string (ch c)) (((w.alloc o).alloc o').alloc (.cells #[.int .u8 (c.toNat : Int)] 5)) := fun o o' => conv1 ((w.alloc o).alloc o') _ (by simp) c
  have G0 : ∀ o, ((w.alloc (.cells #[.int .u8 (s.toNat : Int), .int .u8 (c.toNat : Int), .slice A 0 k] 45)).alloc o).cell? ⟨w.heap.size, 1, none⟩ = some (.int .u8 (c.toNat : Int)) := fun o => cell_alloc_keep _ _ _ _ (World.cell?_alloc_new _ _ _ _)
  have G2 : ∀ o, ((w.alloc (.cells #[.int .u8 (s.toNat : Int), .int .u8 (c.toNat : Int), .slice A 0 k] 45)).alloc o).cell? ⟨w.heap.size, 2, none⟩ = some (.slice A 0 k) := fun o => cell_alloc_keep _ _ _ _ (World.cell?_alloc_new _ _ _ _)
  unfold ndV
  go_enter Try.func35, Try.ntmps35
  go_wp2
  go_ret
  exact ⟨rfl, (((Below.refl _ w).alloc (Nat.le_refl _) _).alloc (by simp) _).alloc (by simp; omega) _⟩
set_option maxHeartbeats 8000000 in
set_option maxRecDepth 100000 in
theorem l5text_un (w : World) (c : UInt8) (q k : Nat) (a0 c0 : Int) (A0 : Option Addr) (m0 k0 : Nat) (sx : ByteArray)
    (h0 : w.cell? ⟨q, 0, none⟩ = some (.int .u8 a0)) (h1 : w.cell? ⟨q, 1, none⟩ = some (.int .u8 c0)) (h2 : w.cell? ⟨q, 2, none⟩ = some (.slice A0 m0 k0)) (hs : sx.size ≤ 9223372036854775000)
    (ihx : ∀ V, Below w.heap.size w V → Calls Try.prog 35 #[ndV a0 c0 A0 m0 k0] V fun e w' => e = .returned (.string sx) ∧ Below V.heap.size V w') :
    Calls Try.prog 35 #[ndV (c.toNat : Int) 0 (some ⟨q, 0, none⟩) 1 k] w fun e w' => e = .returned (.string (ch c ++ sx)) ∧ Below w.heap.size w w' := by
  have cv0 : ∀ o, (convert 22 9 (.slice (some ⟨w.heap.size + 1, 0, none⟩) 1 1)).run Try.prog ((w.alloc o).alloc (.cells #[.int .u8 (c.toNat : Int)] 5)) = .ok (.string (ch c)) ((w.alloc o).alloc (.cells #[.int .u8 (c.toNat : Int)] 5)) := fun o => conv1 (w.alloc o) _ (by simp) c
  have G2 : ∀ o, ((w.alloc (.cells #[.int .u8 (c.toNat : Int), .int .u8 0, .slice (some ⟨q, 0, none⟩) 1 k] 45)).alloc o).cell? ⟨w.heap.size, 2, none⟩ = some (.slice (some ⟨q, 0, none⟩) 1 k) := fun o => cell_alloc_keep _ _ _ _ (World.cell?_alloc_new _ _ _ _)
  have k0' : ∀ o o', ((w.alloc o).alloc o').cell? ⟨q, 0, none⟩ = some (.int .u8 a0) := fun o o' => cell_alloc_keep _ _ _ _ (cell_alloc_keep _ _ _ _ h0)
  have k1' : ∀ o o', ((w.alloc o).alloc o').cell? ⟨q, 1, none⟩ = some (.int .u8 c0) := fun o o' => cell_alloc_keep _ _ _ _ (cell_alloc_keep _ _ _ _ h1)
  have k2' : ∀ o o', ((w.alloc o).alloc o').cell? ⟨q, 2, none⟩ = some (.slice A0 m0 k0) := fun o o' => cell_alloc_keep _ _ _ _ (cell_alloc_keep _ _ _ _ h2)
  have f1 : ∀ sc : ByteArray, sc = ch c → (9223372036854775807 < sc.size + sx.size) = False := fun sc h => eq_false (by have : sc.size = 1 := (by rw [h]; rfl); omega)
  have f1' : (9223372036854775807 < (ch c).size + sx.size) = False := f1 _ rfl
  have f1'' : (9223372036854775807 < 1 + sx.size) = False := eq_false (by omega)
  have IHX := Aside0.mk ihx
  clear h0 h1 h2 ihx f1 hs
  unfold ndV
  go_enter Try.func35, Try.ntmps35
  go_wp2_with fail
  refine (IHX.out _ (below_alloc (below_alloc (Below.refl _ w) _) _)).mono ?_
  rintro e w2 ⟨rfl, hb⟩
  have HB := Aside0.mk (show Below w.heap.size w w2 from (below_alloc (below_alloc (Below.refl _ w) _) _).trans (hb.mono (by simp; omega)))
  clear hb
  go_wp2
  go_ret
  exact ⟨rfl, HB.out⟩
set_option maxHeartbeats 16000000 in
set_option maxRecDepth 100000 in
theorem l5text_bin (w : World) (c : UInt8) (q k : Nat) (a0 c0 : Int) (A0 : Option Addr) (m0 k0 : Nat) (a1 c1 : Int) (A1 : Option Addr) (m1 k1 : Nat) (sx sy : ByteArray)
    (h0 : w.cell? ⟨q, 0, none⟩ = some (.int .u8 a0)) (h1 : w.cell? ⟨q, 1, none⟩ = some (.int .u8 c0)) (h2 : w.cell? ⟨q, 2, none⟩ = some (.slice A0 m0 k0)) (h3 : w.cell? ⟨q, 3, none⟩ = some (.int .u8 a1)) (h4 : w.cell? ⟨q, 4, none⟩ = some (.int .u8 c1)) (h5 : w.cell? ⟨q, 5, none⟩ = some (.slice A1 m1 k1))
    (hs : sx.size + sy.size ≤ 9223372036854775000)
    (ihx : ∀ V, Below w.heap.size w V → Calls Try.prog 35 #[ndV a0 c0 A0 m0 k0] V fun e w' => e = .returned (.string sx) ∧ Below V.heap.size V w')
    (ihy : ∀ V, Below w.heap.size w V → Calls Try.prog 35 #[ndV a1 c1 A1 m1 k1] V fun e w' => e = .returned (.string sy) ∧ Below V.heap.size V w') :
    Calls Try.prog 35 #[ndV (c.toNat : Int) 0 (some ⟨q, 0, none⟩) 2 k] w fun e w' => e = .returned (.string (⟨#[40]⟩ ++ sx ++ ch c ++ sy ++ ⟨#[41]⟩)) ∧ Below w.heap.size w w' := by
  obtain ⟨W1, hW1⟩ : ∃ W1, W1 = (w.alloc (.cells #[.int .u8 (c.toNat : Int), .int .u8 0, .slice (some ⟨q, 0, none⟩) 2 k] 45)).alloc (.cells #[.int .u8 (c.toNat : Int)] 5) := ⟨_, rfl⟩
  have HB := Aside0.mk (show Below w.heap.size w W1 from by rw [hW1]; exact ((Below.refl _ w).alloc (Nat.le_refl _) _).alloc (by simp) _)
  have HW := Aside0.mk hW1
  have IHX := Aside0.mk ihx
  have IHY := Aside0.mk ihy
  have cv0 : ∀ o, (convert 22 9 (.slice (some ⟨w.heap.size + 1, 0, none⟩) 1 1)).run Try.prog ((w.alloc o).alloc (.cells #[.int .u8 (c.toNat : Int)] 5)) = .ok (.string (ch c)) ((w.alloc o).alloc (.cells #[.int .u8 (c.toNat : Int)] 5)) := fun o => conv1 (w.alloc o) _ (by simp) c
  have G0 := Aside0.mk (show W1.cell? ⟨w.heap.size, 0, none⟩ = some (.int .u8 (c.toNat : Int)) from by rw [hW1]; exact cell_alloc_keep _ _ _ _ (World.cell?_alloc_new _ _ _ _))
  have G2 := Aside0.mk (show W1.cell? ⟨w.heap.size, 2, none⟩ = some (.slice (some ⟨q, 0, none⟩) 2 k) from by rw [hW1]; exact cell_alloc_keep _ _ _ _ (World.cell?_alloc_new _ _ _ _))
  have k0' := Aside0.mk (cell_keep HB.out _ _ h0)
  have k1' := Aside0.mk (cell_keep HB.out _ _ h1)
  have k2' := Aside0.mk (cell_keep HB.out _ _ h2)
  have k3' := Aside0.mk (cell_keep HB.out _ _ h3)
  have k4' := Aside0.mk (cell_keep HB.out _ _ h4)
  have k5' := Aside0.mk (cell_keep HB.out _ _ h5)
  have HS := Aside0.mk hs
  clear h0 h1 h2 h3 h4 h5 hW1 ihx ihy hs
  unfold ndV
  go_enter Try.func35, Try.ntmps35
  go_wp2
  rw [← HW.out]
  obtain ⟨sc, hsc⟩ : ∃ sc, sc = ch c := ⟨_, rfl⟩
  rw [← hsc]
  have z1 : sc.size = 1 := by rw [hsc]; rfl
  have hs := HS.out
  have f1 : (9223372036854775807 < 1 + sx.size) = False := eq_false (by omega)
  have f2 : (9223372036854775807 < 1 + sx.size + sc.size) = False := eq_false (by omega)
  have f3 : (9223372036854775807 < 1 + sx.size + sc.size + sy.size) = False := eq_false (by omega)
  have f4 : (9223372036854775807 < 1 + sx.size + sc.size + sy.size + 1) = False := eq_false (by omega)
  have HSC := Aside0.mk hsc
  clear hs z1 hsc HS cv0
  have g0 := G0.out
  have g2 := G2.out
  have h0 := k0'.out
  have h1 := k1'.out
  have h2 := k2'.out
  have h3 := k3'.out
  have h4 := k4'.out
  have h5 := k5'.out
  clear G0 G2 k0' k1' k2' k3' k4' k5'
  have hB := HB.out
  go_region_held3 (fun w' => w'.cell? ⟨w.heap.size, 0, none⟩ = some (.int .u8 (c.toNat : Int)) ∧ w'.cell? ⟨w.heap.size, 2, none⟩ = some (.slice (some ⟨q, 0, none⟩) 2 k) ∧ w'.cell? ⟨q, 0, none⟩ = some (.int .u8 a0) ∧ w'.cell? ⟨q, 1, none⟩ = some (.int .u8 c0) ∧ w'.cell? ⟨q, 2, none⟩ = some (.slice A0 m0 k0) ∧ w'.cell? ⟨q, 3, none⟩ = some (.int .u8 a1) ∧ w'.cell? ⟨q, 4, none⟩ = some (.int .u8 c1) ∧ w'.cell? ⟨q, 5, none⟩ = some (.slice A1 m1 k1))
    (refine ⟨?_, ?_, ?_, ?_, ?_, ?_, ?_, ?_⟩ <;> first | assumption | exact cell_alloc_keep _ _ _ _ (by assumption))
    (first
      | (go_at_call_of 35 (Value.agg #[.int .u8 a0, .int .u8 c0, .slice A0 m0 k0]); refine (IHX.out _ (by repeat (first | assumption | apply below_alloc | apply below_drew1))).mono ?_; rintro e W2 ⟨rfl, hb⟩; have s0 := cell_keep hb ⟨w.heap.size, 0, none⟩ (.int .u8 (c.toNat : Int)) (by first | assumption | exact cell_alloc_keep _ _ _ _ (by assumption)); have s1 := cell_keep hb ⟨w.heap.size, 2, none⟩ (.slice (some ⟨q, 0, none⟩) 2 k) (by first | assumption | exact cell_alloc_keep _ _ _ _ (by assumption)); have s2 := cell_keep hb ⟨q, 0, none⟩ (.int .u8 a0) (by first | assumption | exact cell_alloc_keep _ _ _ _ (by assumption)); have s3 := cell_keep hb ⟨q, 1, none⟩ (.int .u8 c0) (by first | assumption | exact cell_alloc_keep _ _ _ _ (by assumption)); have s4 := cell_keep hb ⟨q, 2, none⟩ (.slice A0 m0 k0) (by first | assumption | exact cell_alloc_keep _ _ _ _ (by assumption)); have s5 := cell_keep hb ⟨q, 3, none⟩ (.int .u8 a1) (by first | assumption | exact cell_alloc_keep _ _ _ _ (by assumption)); have s6 := cell_keep hb ⟨q, 4, none⟩ (.int .u8 c1) (by first | assumption | exact cell_alloc_keep _ _ _ _ (by assumption)); have s7 := cell_keep hb ⟨q, 5, none⟩ (.slice A1 m1 k1) (by first | assumption | exact cell_alloc_keep _ _ _ _ (by assumption)); have hBW2 : Below w.heap.size w W2 := by (refine Below.trans (b := _) ?_ (hb.mono ?_); (repeat (first | assumption | apply below_alloc | apply below_drew1)); (exact Below.size (by repeat (first | assumption | apply below_alloc | apply below_drew1)))))
      | (go_at_call_of 35 (Value.agg #[.int .u8 a1, .int .u8 c1, .slice A1 m1 k1]); refine (IHY.out _ (by repeat (first | assumption | apply below_alloc | apply below_drew1))).mono ?_; rintro e W3 ⟨rfl, hb⟩; have t0 := cell_keep hb ⟨w.heap.size, 0, none⟩ (.int .u8 (c.toNat : Int)) (by first | assumption | exact cell_alloc_keep _ _ _ _ (by assumption)); have t1 := cell_keep hb ⟨w.heap.size, 2, none⟩ (.slice (some ⟨q, 0, none⟩) 2 k) (by first | assumption | exact cell_alloc_keep _ _ _ _ (by assumption)); have t2 := cell_keep hb ⟨q, 0, none⟩ (.int .u8 a0) (by first | assumption | exact cell_alloc_keep _ _ _ _ (by assumption)); have t3 := cell_keep hb ⟨q, 1, none⟩ (.int .u8 c0) (by first | assumption | exact cell_alloc_keep _ _ _ _ (by assumption)); have t4 := cell_keep hb ⟨q, 2, none⟩ (.slice A0 m0 k0) (by first | assumption | exact cell_alloc_keep _ _ _ _ (by assumption)); have t5 := cell_keep hb ⟨q, 3, none⟩ (.int .u8 a1) (by first | assumption | exact cell_alloc_keep _ _ _ _ (by assumption)); have t6 := cell_keep hb ⟨q, 4, none⟩ (.int .u8 c1) (by first | assumption | exact cell_alloc_keep _ _ _ _ (by assumption)); have t7 := cell_keep hb ⟨q, 5, none⟩ (.slice A1 m1 k1) (by first | assumption | exact cell_alloc_keep _ _ _ _ (by assumption)); have hBW3 : Below w.heap.size w W3 := by (refine Below.trans (b := _) ?_ (hb.mono ?_); (repeat (first | assumption | apply below_alloc | apply below_drew1)); (exact Below.size (by repeat (first | assumption | apply below_alloc | apply below_drew1))))))
  all_goals
    go_wp2
    go_ret
    refine ⟨by rw [← HSC.out]; rfl, by repeat (first | assumption | apply below_alloc | apply below_drew1)⟩
end Go.Proofs.YtpklhagedifglaaW.PrintMore
