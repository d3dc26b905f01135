/-
  Cut to what this claim uses.
-/
import Derived.BigRegion
import Derived.Deep.RegionHeld3
import Derived.Test.YtpklhagedifglaaQInv
namespace Go.Proofs.YtpklhagedifglaaW.PrintMore
set_option linter.unusedVariables false
set_option linter.unusedSimpArgs false
open Go.Proofs Go.Deep
open Go.RowKit Go.Proofs.YtpklhagedifglaaW.PrintWords
/-- What a cell holds, as a byte. -/
def isU8 : Option Value → Bool
  | some (.int .u8 d) => decide (0 ≤ d ∧ d < 256)
  | _ => false
def chV : Option Value → ByteArray
  | some (.int .u8 d) => ch (UInt8.ofNat d.toNat)
  | _ => ⟨#[]⟩
theorem isU8_u8 (c : UInt8) : isU8 (some (.int .u8 (c.toNat : Int))) = true := by have := c.toNat_lt; simp [isU8]; omega
theorem chV_u8 (c : UInt8) : chV (some (.int .u8 (c.toNat : Int))) = ch c := by simp [chV]
theorem convV (V : World) (B : Nat) (h : isU8 (V.cell? ⟨B, 0, none⟩) = true) : (convert 22 9 (.slice (some ⟨B, 0, none⟩) 1 1)).run Try.prog V = .ok (.string (chV (V.cell? ⟨B, 0, none⟩))) V := by
  cases hc : V.cell? ⟨B, 0, none⟩ with
  | none => rw [hc] at h; cases h
  | some v =>
    rw [hc] at h
    unfold isU8 at h
    split at h
    · rename_i d he
      cases he
      simp at h
      have hd : d = ((UInt8.ofNat d.toNat).toNat : Int) := by simp; omega
      have := run_convert_bytes_back (P := Try.prog) V 22 9 5 ⟨B, 0, none⟩ 1 [UInt8.ofNat d.toNat] Try.underlying22 Try.underlying5 Try.underlying9 (fun j hj => by
        have : j = 0 := by simp at hj; omega
        subst this
        show V.cell? ⟨B, 0, none⟩ = _
        rw [hc, List.getElem_cons_zero, ← hd])
      exact this
    · cases h
theorem wadd2 (c : UInt8) (hc : c = 91 ∨ c = 123) : IntKind.u8.wrap ((c.toNat : Int) + 2) = ((c + 2).toNat : Int) := by rcases hc with rfl | rfl <;> decide
def lphi (h : Nat) (sc su se sx sy : ByteArray) (c u d : UInt8) (q k : Nat) (a0 c0 : Int) (A0 : Option Addr) (m0 k0 : Nat) (a1 c1 : Int) (A1 : Option Addr) (m1 k1 : Nat) : Nat → Value → World → Prop
  | 0, v, _ => v = .string (sc)
  | 1, v, _ => v = .pointer (some ⟨h, 1, none⟩)
  | 2, v, _ => v = .int .u8 (u.toNat : Int)
  | 3, v, V => ∃ B, v = .slice (some ⟨B, 0, none⟩) 1 1 ∧ V.cell? ⟨B, 0, none⟩ = some (.int .u8 (u.toNat : Int))
  | 4, v, _ => v = .string (su)
  | 5, v, _ => v = .string (sc ++ su)
  | 6, v, _ => v = .string (sc ++ su ++ ⟨#[58]⟩)
  | 7, v, _ => v = .pointer (some ⟨h, 2, none⟩)
  | 8, v, _ => v = .slice (some ⟨q, 0, none⟩) 2 k
  | 9, v, _ => v = .pointer (some ⟨q, 0, none⟩)
  | 10, v, _ => v = .agg #[.int .u8 a0, .int .u8 c0, .slice A0 m0 k0]
  | 11, v, _ => v = .string (sx)
  | 12, v, _ => v = .string (sc ++ su ++ ⟨#[58]⟩ ++ sx)
  | 13, v, _ => v = .string (sc ++ su ++ ⟨#[58]⟩ ++ sx ++ ⟨#[62]⟩)
  | 14, v, _ => v = .pointer (some ⟨h, 2, none⟩)
  | 15, v, _ => v = .slice (some ⟨q, 0, none⟩) 2 k
  | 16, v, _ => v = .pointer (some ⟨q, 3, none⟩)
  | 17, v, _ => v = .agg #[.int .u8 a1, .int .u8 c1, .slice A1 m1 k1]
  | 18, v, _ => v = .string (sy)
  | 19, v, _ => v = .string (sc ++ su ++ ⟨#[58]⟩ ++ sx ++ ⟨#[62]⟩ ++ sy)
  | 20, v, _ => v = .pointer (some ⟨h, 0, none⟩)
  | 21, v, _ => v = .int .u8 (c.toNat : Int)
  | 22, v, _ => v = .int .u8 (d.toNat : Int)
  | 23, v, V => ∃ B, v = .slice (some ⟨B, 0, none⟩) 1 1 ∧ V.cell? ⟨B, 0, none⟩ = some (.int .u8 (d.toNat : Int))
  | 24, v, _ => v = .string (se)
  | 25, v, _ => v = .string (sc ++ su ++ ⟨#[58]⟩ ++ sx ++ ⟨#[62]⟩ ++ sy ++ se)
  | 26, v, _ => v = .string (sc ++ su ++ ⟨#[58]⟩ ++ sx ++ ⟨#[62]⟩ ++ sy ++ se)
  | _, _, _ => True
set_option maxHeartbeats 16000000 in
set_option maxRecDepth 100000 in
theorem l5text_loop (w : World) (c u : UInt8) (hc : c = 91 ∨ c = 123) (hu : ¬ (u.toNat : Int) = 0) (q k : Nat) (a0 c0 : Int) (A0 : Option Addr) (m0 k0 : Nat) (a1 c1 : Int) (A1 : Option Addr) (m1 k1 : Nat) (sx sy : ByteArray)
    (h0 : w.cell? ⟨q, 0, none⟩ = some (.int .u8 a0)) (h1 : w.cell? ⟨q, 1, none⟩ = some (.int .u8 c0)) (h2 : w.cell? ⟨q, 2, none⟩ = some (.slice A0 m0 k0)) (h3 : w.cell? ⟨q, 3, none⟩ = some (.int .u8 a1)) (h4 : w.cell? ⟨q, 4, none⟩ = some (.int .u8 c1)) (h5 : w.cell? ⟨q, 5, none⟩ = some (.slice A1 m1 k1))
    (hs : sx.size + sy.size ≤ 9223372036854775000)
    (ihx : ∀ V, Below w.heap.size w V → Calls Try.prog 35 #[ndV a0 c0 A0 m0 k0] V fun e w' => e = .returned (.string sx) ∧ Below V.heap.size V w')
    (ihy : ∀ V, Below w.heap.size w V → Calls Try.prog 35 #[ndV a1 c1 A1 m1 k1] V fun e w' => e = .returned (.string sy) ∧ Below V.heap.size V w') :
    Calls Try.prog 35 #[ndV (c.toNat : Int) (u.toNat : Int) (some ⟨q, 0, none⟩) 2 k] w fun e w' => e = .returned (.string (ch c ++ ch u ++ ⟨#[58]⟩ ++ sx ++ ⟨#[62]⟩ ++ sy ++ ch (c + 2))) ∧ Below w.heap.size w w' := by
  obtain ⟨W1, hW1⟩ : ∃ W1, W1 = (w.alloc (.cells #[.int .u8 (c.toNat : Int), .int .u8 (u.toNat : Int), .slice (some ⟨q, 0, none⟩) 2 k] 45)).alloc (.cells #[.int .u8 (c.toNat : Int)] 5) := ⟨_, rfl⟩
  have HB := Aside0.mk (show Below w.heap.size w W1 from by rw [hW1]; exact ((Below.refl _ w).alloc (Nat.le_refl _) _).alloc (by simp) _)
  have HW := Aside0.mk hW1
  have IHX := Aside0.mk ihx
  have IHY := Aside0.mk ihy
  have cv0 : ∀ o, (convert 22 9 (.slice (some ⟨w.heap.size + 1, 0, none⟩) 1 1)).run Try.prog ((w.alloc o).alloc (.cells #[.int .u8 (c.toNat : Int)] 5)) = .ok (.string (ch c)) ((w.alloc o).alloc (.cells #[.int .u8 (c.toNat : Int)] 5)) := fun o => conv1 (w.alloc o) _ (by simp) c
  have hu0 : ((u.toNat : Int) != 0) = true := by simp; omega
  have G0 := Aside0.mk (show W1.cell? ⟨w.heap.size, 0, none⟩ = some (.int .u8 (c.toNat : Int)) from by rw [hW1]; exact cell_alloc_keep _ _ _ _ (World.cell?_alloc_new _ _ _ _))
  have G1 := Aside0.mk (show W1.cell? ⟨w.heap.size, 1, none⟩ = some (.int .u8 (u.toNat : Int)) from by rw [hW1]; exact cell_alloc_keep _ _ _ _ (World.cell?_alloc_new _ _ _ _))
  have G2 := Aside0.mk (show W1.cell? ⟨w.heap.size, 2, none⟩ = some (.slice (some ⟨q, 0, none⟩) 2 k) from by rw [hW1]; exact cell_alloc_keep _ _ _ _ (World.cell?_alloc_new _ _ _ _))
  have k0' := Aside0.mk (cell_keep HB.out _ _ h0)
  have k1' := Aside0.mk (cell_keep HB.out _ _ h1)
  have k2' := Aside0.mk (cell_keep HB.out _ _ h2)
  have k3' := Aside0.mk (cell_keep HB.out _ _ h3)
  have k4' := Aside0.mk (cell_keep HB.out _ _ h4)
  have k5' := Aside0.mk (cell_keep HB.out _ _ h5)
  have HC := Aside0.mk hc
  have HS := Aside0.mk hs
  clear h0 h1 h2 h3 h4 h5 hW1 ihx ihy hc hu hs
  unfold ndV
  go_enter Try.func35, Try.ntmps35
  go_wp2
  rw [← HW.out]
  obtain ⟨sc, hsc⟩ : ∃ sc, sc = ch c := ⟨_, rfl⟩
  obtain ⟨su, hsu⟩ : ∃ su, su = ch u := ⟨_, rfl⟩
  obtain ⟨se, hse⟩ : ∃ se, se = ch (c + 2) := ⟨_, rfl⟩
  rw [← hsc]
  have z1 : sc.size = 1 := by rw [hsc]; rfl
  have z2 : su.size = 1 := by rw [hsu]; rfl
  have z3 : se.size = 1 := by rw [hse]; rfl
  have cu : chV (some (.int .u8 (u.toNat : Int))) = su := by rw [hsu]; exact chV_u8 u
  obtain ⟨d, hd⟩ : ∃ d, d = c + 2 := ⟨_, rfl⟩
  have ce : chV (some (.int .u8 (d.toNat : Int))) = se := by rw [hse, ← hd]; exact chV_u8 d
  have iu := isU8_u8 u
  have ie := isU8_u8 d
  have wa : IntKind.u8.wrap ((c.toNat : Int) + 2) = (d.toNat : Int) := by rw [hd]; exact wadd2 c HC.out
  have wa' : ((c.toNat : Int) + 2) % 256 = (d.toNat : Int) := by rw [← wa, IntKind.wrap_u8]
  have hs := HS.out
  have f1 := cat_ok sc su (by omega)
  have f2 : (9223372036854775807 < sc.size + su.size + 1) = False := eq_false (by omega)
  have f3 : (9223372036854775807 < sc.size + su.size + 1 + sx.size) = False := eq_false (by omega)
  have f4 : (9223372036854775807 < sc.size + su.size + 1 + sx.size + 1) = False := eq_false (by omega)
  have f5 : (9223372036854775807 < sc.size + su.size + 1 + sx.size + 1 + sy.size) = False := eq_false (by omega)
  have f6 : (9223372036854775807 < sc.size + su.size + 1 + sx.size + 1 + sy.size + se.size) = False := eq_false (by omega)
  have HSC := Aside0.mk hsc
  have HSU := Aside0.mk hsu
  have HSE := Aside0.mk hse
  clear hs z1 z2 z3 hsc hsu hse hd HC HS cv0 hu0
  have g0 := G0.out
  have g1 := G1.out
  have g2 := G2.out
  have h0 := k0'.out
  have h1 := k1'.out
  have h2 := k2'.out
  have h3 := k3'.out
  have h4 := k4'.out
  have h5 := k5'.out
  clear k0' k1' k2' k3' k4' k5' G0 G1 G2
  refine region_phi (lphi w.heap.size sc su se sx sy c u d q k a0 c0 A0 m0 k0 a1 c1 A1 m1 k1) [1, 3] (by kernel_rfl) (by kernel_rfl) (by kernel_rfl) ?_ ⟨?_, ?_, ?_, ?_, ?_, ?_, ?_, ?_, ?_, ?_, ?_, ?_, ?_, ?_, ?_, ?_, ?_, ?_, ?_, ?_, ?_, ?_, ?_, ?_, ?_, ?_, ?_, trivial⟩ ?_
  · intro i v V V' hV
    unfold lphi
    split <;> first | exact id | (rintro ⟨B, e, hc⟩; exact ⟨B, e, cell_keep hV _ _ hc⟩)
  · intro b V hdf hb hB ha K hK
    have b3 : b.eval (.tmp 3) = .string sc := (hb 3 (by decide)).trans rfl
    clear ha hb hdf
    simp only [Act.eval, Array.getD_eq_getD_getElem?] at b3
    go_simp
    exact hK _ _ (Below.refl _ V) rfl
  · intro b V hdf hb hB ha K hK
    have b1 : b.eval (.tmp 1) = .pointer (some ⟨w.heap.size, 0, none⟩) := (hb 1 (by decide)).trans rfl
    clear ha hb hdf
    simp only [Act.eval, Array.getD_eq_getD_getElem?] at b1
    go_simp
    exact hK _ _ (Below.refl _ V) rfl
  · intro b V hdf hb hB ha K hK
    have e1 : b.eval (.tmp 34) = .pointer (some ⟨w.heap.size, 1, none⟩) := ha 1 34 rfl rfl
    have xg1 := cell_keep hB _ _ g1
    clear ha hb hdf
    simp only [Act.eval, Array.getD_eq_getD_getElem?] at e1
    go_simp
    exact hK _ _ (Below.refl _ V) rfl
  · intro b V hdf hb hB ha K hK
    have e2 : b.eval (.tmp 35) = .int .u8 (u.toNat : Int) := ha 2 35 rfl rfl
    clear ha hb hdf
    simp only [Act.eval, Array.getD_eq_getD_getElem?] at e2
    go_simp
    refine hK _ _ ?_ ⟨_, rfl, ?_⟩
    · exact (Below.refl _ V).alloc (Nat.le_refl _) _
    · exact World.cell?_alloc_new _ _ _ _
  · intro b V hdf hb hB ha K hK
    obtain ⟨B, e3, cb⟩ : ∃ B, b.eval (.tmp 36) = .slice (some ⟨B, 0, none⟩) 1 1 ∧ V.cell? ⟨B, 0, none⟩ = some (.int .u8 (u.toNat : Int)) := ha 3 36 rfl rfl
    clear ha hb hdf
    simp only [Act.eval, Array.getD_eq_getD_getElem?] at e3
    have cv := convV V B (by rw [cb]; exact iu)
    rw [cb] at cv
    rw [cu] at cv
    go_simp
    exact hK _ _ (Below.refl _ V) rfl
  · intro b V hdf hb hB ha K hK
    have e0 : b.eval (.tmp 33) = .string (sc) := ha 0 33 rfl rfl
    have e4 : b.eval (.tmp 37) = .string (su) := ha 4 37 rfl rfl
    clear ha hb hdf
    simp only [Act.eval, Array.getD_eq_getD_getElem?] at e0 e4
    go_simp
    exact hK _ _ (Below.refl _ V) rfl
  · intro b V hdf hb hB ha K hK
    have e5 : b.eval (.tmp 38) = .string (sc ++ su) := ha 5 38 rfl rfl
    clear ha hb hdf
    simp only [Act.eval, Array.getD_eq_getD_getElem?] at e5
    go_simp
    exact hK _ _ (Below.refl _ V) rfl
  · intro b V hdf hb hB ha K hK
    have b1 : b.eval (.tmp 1) = .pointer (some ⟨w.heap.size, 0, none⟩) := (hb 1 (by decide)).trans rfl
    clear ha hb hdf
    simp only [Act.eval, Array.getD_eq_getD_getElem?] at b1
    go_simp
    exact hK _ _ (Below.refl _ V) rfl
  · intro b V hdf hb hB ha K hK
    have e7 : b.eval (.tmp 40) = .pointer (some ⟨w.heap.size, 2, none⟩) := ha 7 40 rfl rfl
    have xg2 := cell_keep hB _ _ g2
    clear ha hb hdf
    simp only [Act.eval, Array.getD_eq_getD_getElem?] at e7
    go_simp
    exact hK _ _ (Below.refl _ V) rfl
  · intro b V hdf hb hB ha K hK
    have e8 : b.eval (.tmp 41) = .slice (some ⟨q, 0, none⟩) 2 k := ha 8 41 rfl rfl
    clear ha hb hdf
    simp only [Act.eval, Array.getD_eq_getD_getElem?] at e8
    go_simp
    exact hK _ _ (Below.refl _ V) rfl
  · intro b V hdf hb hB ha K hK
    have e9 : b.eval (.tmp 42) = .pointer (some ⟨q, 0, none⟩) := ha 9 42 rfl rfl
    have xh0 := cell_keep hB _ _ h0
    have xh1 := cell_keep hB _ _ h1
    have xh2 := cell_keep hB _ _ h2
    clear ha hb hdf
    simp only [Act.eval, Array.getD_eq_getD_getElem?] at e9
    go_simp
    exact hK _ _ (Below.refl _ V) rfl
  · intro b V hdf hb hB ha K hK
    have e10 : b.eval (.tmp 43) = .agg #[.int .u8 a0, .int .u8 c0, .slice A0 m0 k0] := ha 10 43 rfl rfl
    clear ha hb hdf
    simp only [Act.eval, Array.getD_eq_getD_getElem?] at e10
    go_simp
    have hW : Below w.heap.size w V := HB.out.trans (hB.mono HB.out.size)
    have hc := IHX.out V hW
    unfold ndV at hc
    refine hc.mono ?_
    intro e W2 hr
    obtain ⟨he, hb2⟩ := hr
    subst he
    have hz := hK (.string sx) W2 hb2 rfl
    exact hz
  · intro b V hdf hb hB ha K hK
    have e6 : b.eval (.tmp 39) = .string (sc ++ su ++ ⟨#[58]⟩) := ha 6 39 rfl rfl
    have e11 : b.eval (.tmp 44) = .string (sx) := ha 11 44 rfl rfl
    clear ha hb hdf
    simp only [Act.eval, Array.getD_eq_getD_getElem?] at e6 e11
    go_simp
    exact hK _ _ (Below.refl _ V) rfl
  · intro b V hdf hb hB ha K hK
    have e12 : b.eval (.tmp 45) = .string (sc ++ su ++ ⟨#[58]⟩ ++ sx) := ha 12 45 rfl rfl
    clear ha hb hdf
    simp only [Act.eval, Array.getD_eq_getD_getElem?] at e12
    go_simp
    exact hK _ _ (Below.refl _ V) rfl
  · intro b V hdf hb hB ha K hK
    have b1 : b.eval (.tmp 1) = .pointer (some ⟨w.heap.size, 0, none⟩) := (hb 1 (by decide)).trans rfl
    clear ha hb hdf
    simp only [Act.eval, Array.getD_eq_getD_getElem?] at b1
    go_simp
    exact hK _ _ (Below.refl _ V) rfl
  · intro b V hdf hb hB ha K hK
    have e14 : b.eval (.tmp 47) = .pointer (some ⟨w.heap.size, 2, none⟩) := ha 14 47 rfl rfl
    have xg2 := cell_keep hB _ _ g2
    clear ha hb hdf
    simp only [Act.eval, Array.getD_eq_getD_getElem?] at e14
    go_simp
    exact hK _ _ (Below.refl _ V) rfl
  · intro b V hdf hb hB ha K hK
    have e15 : b.eval (.tmp 48) = .slice (some ⟨q, 0, none⟩) 2 k := ha 15 48 rfl rfl
    clear ha hb hdf
    simp only [Act.eval, Array.getD_eq_getD_getElem?] at e15
    go_simp
    exact hK _ _ (Below.refl _ V) rfl
  · intro b V hdf hb hB ha K hK
    have e16 : b.eval (.tmp 49) = .pointer (some ⟨q, 3, none⟩) := ha 16 49 rfl rfl
    have xh3 := cell_keep hB _ _ h3
    have xh4 := cell_keep hB _ _ h4
    have xh5 := cell_keep hB _ _ h5
    clear ha hb hdf
    simp only [Act.eval, Array.getD_eq_getD_getElem?] at e16
    go_simp
    exact hK _ _ (Below.refl _ V) rfl
  · intro b V hdf hb hB ha K hK
    have e17 : b.eval (.tmp 50) = .agg #[.int .u8 a1, .int .u8 c1, .slice A1 m1 k1] := ha 17 50 rfl rfl
    clear ha hb hdf
    simp only [Act.eval, Array.getD_eq_getD_getElem?] at e17
    go_simp
    have hW : Below w.heap.size w V := HB.out.trans (hB.mono HB.out.size)
    have hc := IHY.out V hW
    unfold ndV at hc
    refine hc.mono ?_
    intro e W2 hr
    obtain ⟨he, hb2⟩ := hr
    subst he
    have hz := hK (.string sy) W2 hb2 rfl
    exact hz
  · intro b V hdf hb hB ha K hK
    have e13 : b.eval (.tmp 46) = .string (sc ++ su ++ ⟨#[58]⟩ ++ sx ++ ⟨#[62]⟩) := ha 13 46 rfl rfl
    have e18 : b.eval (.tmp 51) = .string (sy) := ha 18 51 rfl rfl
    clear ha hb hdf
    simp only [Act.eval, Array.getD_eq_getD_getElem?] at e13 e18
    go_simp
    exact hK _ _ (Below.refl _ V) rfl
  · intro b V hdf hb hB ha K hK
    have b1 : b.eval (.tmp 1) = .pointer (some ⟨w.heap.size, 0, none⟩) := (hb 1 (by decide)).trans rfl
    clear ha hb hdf
    simp only [Act.eval, Array.getD_eq_getD_getElem?] at b1
    go_simp
    exact hK _ _ (Below.refl _ V) rfl
  · intro b V hdf hb hB ha K hK
    have e20 : b.eval (.tmp 53) = .pointer (some ⟨w.heap.size, 0, none⟩) := ha 20 53 rfl rfl
    have xg0 := cell_keep hB _ _ g0
    clear ha hb hdf
    simp only [Act.eval, Array.getD_eq_getD_getElem?] at e20
    go_simp
    exact hK _ _ (Below.refl _ V) rfl
  · intro b V hdf hb hB ha K hK
    have e21 : b.eval (.tmp 54) = .int .u8 (c.toNat : Int) := ha 21 54 rfl rfl
    clear ha hb hdf
    simp only [Act.eval, Array.getD_eq_getD_getElem?] at e21
    go_simp
    exact hK _ _ (Below.refl _ V) rfl
  · intro b V hdf hb hB ha K hK
    have e22 : b.eval (.tmp 55) = .int .u8 (d.toNat : Int) := ha 22 55 rfl rfl
    clear ha hb hdf
    simp only [Act.eval, Array.getD_eq_getD_getElem?] at e22
    go_simp
    refine hK _ _ ?_ ⟨_, rfl, ?_⟩
    · exact (Below.refl _ V).alloc (Nat.le_refl _) _
    · exact World.cell?_alloc_new _ _ _ _
  · intro b V hdf hb hB ha K hK
    obtain ⟨B, e23, cb⟩ : ∃ B, b.eval (.tmp 56) = .slice (some ⟨B, 0, none⟩) 1 1 ∧ V.cell? ⟨B, 0, none⟩ = some (.int .u8 (d.toNat : Int)) := ha 23 56 rfl rfl
    clear ha hb hdf
    simp only [Act.eval, Array.getD_eq_getD_getElem?] at e23
    have cv := convV V B (by rw [cb]; exact ie)
    rw [cb] at cv
    rw [ce] at cv
    go_simp
    exact hK _ _ (Below.refl _ V) rfl
  · intro b V hdf hb hB ha K hK
    have e19 : b.eval (.tmp 52) = .string (sc ++ su ++ ⟨#[58]⟩ ++ sx ++ ⟨#[62]⟩ ++ sy) := ha 19 52 rfl rfl
    have e24 : b.eval (.tmp 57) = .string (se) := ha 24 57 rfl rfl
    clear ha hb hdf
    simp only [Act.eval, Array.getD_eq_getD_getElem?] at e19 e24
    go_simp
    exact hK _ _ (Below.refl _ V) rfl
  · intro b V hdf hb hB ha K hK
    have e25 : b.eval (.tmp 58) = .string (sc ++ su ++ ⟨#[58]⟩ ++ sx ++ ⟨#[62]⟩ ++ sy ++ se) := ha 25 58 rfl rfl
    clear ha hb hdf
    simp only [Act.eval, Array.getD_eq_getD_getElem?] at e25
    go_simp
    exact hK _ _ (Below.refl _ V) rfl
  · intro b V hdf hb hB ha
    have e2 : b.eval (.tmp 2) = .string (sc ++ su ++ ⟨#[58]⟩ ++ sx ++ ⟨#[62]⟩ ++ sy ++ se) := ha 26 2 rfl
    have hB2 := HB.out.trans (hB.mono HB.out.size)
    clear ha hb
    go_wp2
    refine bodyPost_ret (v := .string (ch c ++ ch u ++ ⟨#[58]⟩ ++ sx ++ ⟨#[62]⟩ ++ sy ++ ch (c + 2))) ?_ hdf ⟨rfl, hB2⟩
    have e2' : b.tmps.getD 2 undef = .string (ch c ++ ch u ++ ⟨#[58]⟩ ++ sx ++ ⟨#[62]⟩ ++ sy ++ ch (c + 2)) := by rw [← HSC.out, ← HSU.out, ← HSE.out]; exact e2
    rw [← e2']
    exact results_tmp rfl _ _ _
end Go.Proofs.YtpklhagedifglaaW.PrintMore
