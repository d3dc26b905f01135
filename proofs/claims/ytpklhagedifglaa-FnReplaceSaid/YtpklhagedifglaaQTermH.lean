/-
  Cut to what this claim uses.
-/
import Derived.Test.YtpklhagedifglaaQTermG
namespace Go.Proofs.YtpklhagedifglaaW.PrintMore
set_option linter.unusedVariables false
set_option linter.unusedSimpArgs false
open Go.Proofs Go.Deep
open Go.RowKit Go.Proofs.YtpklhagedifglaaW.PrintWords
/-- Where node stands ahead of its second part. -/
def S5b (n : Nat) (T : ByteArray) (c : UInt8) (r : List UInt8) (i4 : Nat) (bad5 : Bool) (sv : Int) (W : World) (lo : Nat) (v : Value) : Prop :=
  (bad5 = true ∧ parse (n + 1) (c :: r) = none) ∨ (bad5 = false ∧ ∃ x s' r2, parse n r = some (x, s' :: r2) ∧ isBin s' = true ∧ T.data.toList.drop i4 = r2 ∧ sv = (s'.toNat : Int) ∧ NdAt W lo v x)
set_option maxHeartbeats 8000000 in
set_option maxRecDepth 100000 in
theorem nd_bin (w0 w : World) (b : Nat) (T : ByteArray) (n i : Nat) (c : UInt8) (r : List UInt8) (hl : T.data.toList.drop i = c :: r) (hT : T.data.toList.length ≤ 1048576) (hB : Below w0.heap.size w0 w) (hg : w0.heap.size ≤ b) (hr : RD w b T i false) (hc : c = 40) (hn : r.length ≤ n) (ih : NIH n) :
    Calls Try.prog 46 #[.pointer (some ⟨b, 0, none⟩)] w fun e w' => NDr (n + 1) T i false b w0 w e w' := by
  have HC := Aside0.mk hc
  have HN := Aside0.mk hn
  have HI := Aside0.mk ih
  have hd1 : inR c 48 57 = false := by subst hc; decide
  have hv1 : ((c.toNat : Int) == 97) = false := by subst hc; decide
  have hv2 : ((c.toNat : Int) == 98) = false := by subst hc; decide
  have hv3 : inR c 118 122 = false := by subst hc; decide
  have hv4 : ((c.toNat : Int) == 40) = true := by subst hc; decide
  have HU : Aside0 (isUn c = false) := ⟨by subst hc; decide⟩
  have HQ : Aside0 (isVar 40 = false ∧ isDig 40 = false) := ⟨by decide⟩
  clear hc hn ih
  have HR := Aside0.mk hr
  have HB := Aside0.mk hB
  have HG := Aside0.mk hg
  have HT := Aside0.mk hT
  have HL := Aside0.mk hl
  have HLT := Aside0.mk hr.lt
  have hcv := conv_u8 c
  clear hr hB hg hT hl
  go_enter Try.func46, Try.ntmps46
  go_wp2_with fail
  refine (nx_more w0 _ b T i false c r (HB.out.alloc HB.out.size _) HG.out (HR.out.alloc _) HL.out HT.out).mono ?_
  rintro e w1 ⟨rfl, hr1, hk1⟩
  have hL : LB w1 w.heap.size 0 0 none 0 0 := (LB.new w 0 0 none 0 0).keep hk1.2 (by have := HLT.out; omega)
  have HV := Aside0.mk hL
  have HR1 := Aside0.mk hr1
  have HK1 := Aside0.mk (show RK w0 w w1 b from ((RK.refl HB.out).alloc _).trans hk1)
  have HS := Aside0.mk (show w.heap.size < w1.heap.size from blk_lt hL)
  clear hL hr1 hk1
  go_wp2_with (first | (go_at_call 63; refine (l1In_c _ _ _ _).mono ?_; rintro e wz ⟨rfl, hw⟩; rw [hw]; clear hw wz) | (go_at_call 64; refine (l13Find_un c false HU.out _).mono ?_; rintro e wz ⟨⟨y, rfl, hy⟩, hw⟩; rw [hw]; clear hw wz))
  have HD1 := Aside0.mk (show T.data.toList.drop (i + 1) = r from by rw [← List.drop_drop, HL.out]; rfl)
  refine (part_gen w0 _ b T n (i + 1) false (fun _ => by rw [HD1.out]; exact HN.out) HT.out HK1.out.1 HG.out HR1.out HI.out).mono ?_
  rintro e w2 ⟨a2, c2, A2, m2, k2, i2, bad2, rfl, hr2, hk2, hp2⟩
  have hL := HV.out.keep hk2.2 (by have := HLT.out; omega)
  have HV2 := Aside0.mk hL
  have HR2 := Aside0.mk hr2
  have HK2 := Aside0.mk (HK1.out.trans hk2)
  have HS2 := Aside0.mk (show w.heap.size < w2.heap.size from blk_lt hL)
  have HP2 := Aside0.mk hp2
  have HGX := Aside0.mk (Nat.le_refl w2.heap.size)
  have HLO := Aside0.mk (show w1.heap.size ≤ w2.heap.size from hk2.2.1)
  clear hL hr2 hk2 hp2
  unfold ndV
  go_wp2_with fail
  refine (nx_gen w0 _ b T i2 bad2 (HK2.out.alloc _).1 HG.out (HR2.out.alloc _) HT.out).mono ?_
  rintro e w4 ⟨c4, i4, bad4, rfl, hr4, hk4, hp4⟩
  have hV4 := (HV2.out.alloc (.cells #[.int .u8 a2, .int .u8 c2, .slice A2 m2 k2] 45)).keep hk4.2 (by have := HLT.out; omega)
  have hX4 := (LB.new w2 a2 c2 A2 m2 k2).keep hk4.2 (by have := HLT.out; have := HS2.out; omega)
  have HV4 := Aside0.mk hV4
  have HX4 := Aside0.mk hX4
  have HR4 := Aside0.mk hr4
  have HK4 := Aside0.mk ((HK2.out.alloc _).trans hk4)
  have HKA := Aside0.mk hk4.2
  have b2 : w4.cell? ⟨b, 2, none⟩ = some (.bool bad4) := blk_cell hr4.1 2
  have b3 : w4.frozen? ⟨b, 2, none⟩ = false := blk_frozen hr4.1 2
  clear hV4 hX4 hr4 hk4
  have HXN : Aside0 (bad4 = false → ∃ x s r2, parse n r = some (x, s :: r2) ∧ T.data.toList.drop i4 = r2 ∧ c4 = (s.toNat : Int) ∧ NdAt w4 w1.heap.size (ndV a2 c2 A2 m2 k2) x) := ⟨by
    intro h
    rcases hp4 with ⟨h1, _⟩ | ⟨_, h1, s, r2, h2, h3, h4⟩
    · rw [h] at h1; cases h1
    · rcases HP2.out with ⟨h5, _⟩ | ⟨_, _, x, h6, h7⟩
      · rw [h1] at h5; cases h5
      · rw [HD1.out, h2] at h6
        exact ⟨x, s, r2, h6, h3, h4, nd_kb HKA.out (by have := HLT.out; have := HS.out; omega) (nd_alloc _ h7)⟩⟩
  have HXB : Aside0 (bad4 = true → parse (n + 1) (c :: r) = none) := ⟨by
    intro h
    have hh := HC.out
    subst hh
    rcases hp4 with ⟨_, h1 | h1⟩ | ⟨h1, _⟩
    · rcases HP2.out with ⟨_, h5 | h5⟩ | ⟨h5, _⟩
      · cases h5
      · rw [HD1.out] at h5; simp [parse, HQ.out.1, HQ.out.2, HU.out, h5]
      · rw [h1] at h5; cases h5
    · rcases HP2.out with ⟨_, h5 | h5⟩ | ⟨_, _, x, h6, h7⟩
      · cases h5
      · rw [HD1.out] at h5; simp [parse, HQ.out.1, HQ.out.2, HU.out, h5]
      · rw [HD1.out, h1] at h6; simp [parse, HQ.out.1, HQ.out.2, HU.out, h6]
    · rw [h] at h1; cases h1⟩
  clear hp4
  cases bad4 with
  | true =>
    go_wp2_with fail
    have HR5 := HR4.out.set2 true
    have HK5 : RK w0 w (w4.setCell ⟨b, 2, none⟩ (.bool true)) b := ⟨below_set HK4.out.1 HG.out, HK4.out.2.set_ _ _⟩
    have HV5 : LB (w4.setCell ⟨b, 2, none⟩ (.bool true)) w.heap.size 0 0 none 0 0 := blk_far HV4.out (by show _ ≠ b; have := HLT.out; omega) _
    have HX5 : LB (w4.setCell ⟨b, 2, none⟩ (.bool true)) w2.heap.size a2 c2 A2 m2 k2 := blk_far HX4.out (by show _ ≠ b; have := HLT.out; have := HS2.out; omega) _
    refine (part_gen w0 _ b T n i4 true (fun h => by cases h) HT.out HK5.1 HG.out HR5 HI.out).mono ?_
    have S5 : Aside0 (S5b n T c r i4 true c4 (w4.setCell ⟨b, 2, none⟩ (.bool true)) w1.heap.size (ndV a2 c2 A2 m2 k2)) := ⟨.inl ⟨rfl, HXB.out (by first | trivial | rfl)⟩⟩
    clear b2 b3 HR5
    rintro e w6 ⟨a6, c6, A6, m6, k6, i6, bad6, rfl, hr6, hk6, hp6⟩
    have hV6 := HV5.keep hk6.2 (by have := HLT.out; omega)
    have hX6 := HX5.keep hk6.2 (by have := HLT.out; have := HS2.out; omega)
    have HV6 := Aside0.mk hV6
    have HX6 := Aside0.mk hX6
    have HR6 := Aside0.mk hr6
    have HK6 := Aside0.mk (RK.trans HK5 hk6)
    have HP6 := Aside0.mk hp6
    have HKB := Aside0.mk hk6.2
    have HZ6 := Aside0.mk (show w2.heap.size < w6.heap.size from blk_lt hX6)
    have HZ5 := Aside0.mk (show w2.heap.size < _ from blk_lt HX5)
    have Lx0 : ∀ o, (w6.alloc o).cell? ⟨w2.heap.size, 0, none⟩ = some (.int .u8 a2) := fun o => blk_cell (blk_alloc hX6 o) 0
    have Fx0 : ∀ o, (w6.alloc o).frozen? ⟨w2.heap.size, 0, none⟩ = false := fun o => blk_frozen (blk_alloc hX6 o) 0
    have Lx1 : ∀ o, (w6.alloc o).cell? ⟨w2.heap.size, 1, none⟩ = some (.int .u8 c2) := fun o => blk_cell (blk_alloc hX6 o) 1
    have Fx1 : ∀ o, (w6.alloc o).frozen? ⟨w2.heap.size, 1, none⟩ = false := fun o => blk_frozen (blk_alloc hX6 o) 1
    have Lx2 : ∀ o, (w6.alloc o).cell? ⟨w2.heap.size, 2, none⟩ = some (.slice A2 m2 k2) := fun o => blk_cell (blk_alloc hX6 o) 2
    have Fx2 : ∀ o, (w6.alloc o).frozen? ⟨w2.heap.size, 2, none⟩ = false := fun o => blk_frozen (blk_alloc hX6 o) 2
    have B6 : ∀ o, (w6.alloc o).cell? ⟨b, 2, none⟩ = some (.bool bad6) := fun o => blk_cell (blk_alloc hr6.1 o) 2
    have Lv0 : ∀ o o', ((w6.alloc o).alloc o').cell? ⟨w.heap.size, 0, none⟩ = some (.int .u8 0) := fun o o' => blk_cell (blk_alloc (blk_alloc hV6 o) o') 0
    have Fv0 : ∀ o o', ((w6.alloc o).alloc o').frozen? ⟨w.heap.size, 0, none⟩ = false := fun o o' => blk_frozen (blk_alloc (blk_alloc hV6 o) o') 0
    have Lv1 : ∀ o o', ((w6.alloc o).alloc o').cell? ⟨w.heap.size, 1, none⟩ = some (.int .u8 0) := fun o o' => blk_cell (blk_alloc (blk_alloc hV6 o) o') 1
    have Fv1 : ∀ o o', ((w6.alloc o).alloc o').frozen? ⟨w.heap.size, 1, none⟩ = false := fun o o' => blk_frozen (blk_alloc (blk_alloc hV6 o) o') 1
    have Lv2 : ∀ o o', ((w6.alloc o).alloc o').cell? ⟨w.heap.size, 2, none⟩ = some (.slice none 0 0) := fun o o' => blk_cell (blk_alloc (blk_alloc hV6 o) o') 2
    have Fv2 : ∀ o o', ((w6.alloc o).alloc o').frozen? ⟨w.heap.size, 2, none⟩ = false := fun o o' => blk_frozen (blk_alloc (blk_alloc hV6 o) o') 2
    clear hV6 hX6 hr6 hk6 hp6 HV5 HX5 HK5
    unfold ndV
    cases bad6 with
    | true =>
      go_wp2
      refine bodyPost_ret (results_single rfl (.cell w.heap.size 45 _ (0, 0) _ rfl (LB.put ((HV6.out.alloc _).alloc _) c4 0 _ 2 2) Try.underlying45 rfl node_info .nil)) rfl ?_
      refine nd_ret HB.out.size HLT.out ((HK6.out.alloc _).alloc _) ((HR6.out.alloc _).alloc _) c4 0 _ 2 2 fun W' hW => .inl ⟨rfl, .inr ?_⟩
      rw [HL.out]
      have s5 := S5.out
      unfold S5b at s5
      rcases s5 with ⟨_, h⟩ | ⟨h0, x, s', r2, e1, e2, e3, e4, e5⟩
      · exact h
      · rcases HP6.out with ⟨_, h | h⟩ | ⟨h, _⟩
        · exact absurd (h.symm.trans h0) (by decide)
        · have hh := HC.out; subst hh; rw [e3] at h; simp [parse, HQ.out.1, HQ.out.2, HU.out, e1, e2, h]
        · cases h
    | false =>
      go_wp2_with fail
      refine (is_gen w0 _ b T i6 false 41 41 rfl (HK6.out.alloc _).1 HG.out (HR6.out.alloc _) HT.out).mono ?_
      rintro e w8 ⟨v8, i8, bad8, rfl, hr8, hk8, hp8⟩
      have hbx : b ≠ w6.heap.size := by have := HLT.out; have := HZ6.out; have := HS2.out; omega
      have hV8 := (HV6.out.alloc (.cells #[.int .u8 a6, .int .u8 c6, .slice A6 m6 k6] 45)).keep hk8.2 (by have := HLT.out; omega)
      have hX8 := (HX6.out.alloc (.cells #[.int .u8 a6, .int .u8 c6, .slice A6 m6 k6] 45)).keep hk8.2 (by have := HLT.out; have := HS2.out; omega)
      have hY8 := (LB.new w6 a6 c6 A6 m6 k6).keep hk8.2 hbx.symm
      have HV8 := Aside0.mk hV8
      have HR8 := Aside0.mk hr8
      have HK8 := Aside0.mk ((HK6.out.alloc _).trans hk8)
      have HKC := Aside0.mk hk8.2
      have HP8 := Aside0.mk hp8
      have HZ8 := Aside0.mk (show w6.heap.size < w8.heap.size from blk_lt hY8)
      have Lp0 : w8.cell? ⟨w2.heap.size, 0, none⟩ = some (.int .u8 a2) := blk_cell (hX8) 0
      have Fp0 : w8.frozen? ⟨w2.heap.size, 0, none⟩ = false := blk_frozen (hX8) 0
      have Lp1 : w8.cell? ⟨w2.heap.size, 1, none⟩ = some (.int .u8 c2) := blk_cell (hX8) 1
      have Fp1 : w8.frozen? ⟨w2.heap.size, 1, none⟩ = false := blk_frozen (hX8) 1
      have Lp2 : w8.cell? ⟨w2.heap.size, 2, none⟩ = some (.slice A2 m2 k2) := blk_cell (hX8) 2
      have Fp2 : w8.frozen? ⟨w2.heap.size, 2, none⟩ = false := blk_frozen (hX8) 2
      have Lq0 : w8.cell? ⟨w6.heap.size, 0, none⟩ = some (.int .u8 a6) := blk_cell (hY8) 0
      have Fq0 : w8.frozen? ⟨w6.heap.size, 0, none⟩ = false := blk_frozen (hY8) 0
      have Lq1 : w8.cell? ⟨w6.heap.size, 1, none⟩ = some (.int .u8 c6) := blk_cell (hY8) 1
      have Fq1 : w8.frozen? ⟨w6.heap.size, 1, none⟩ = false := blk_frozen (hY8) 1
      have Lq2 : w8.cell? ⟨w6.heap.size, 2, none⟩ = some (.slice A6 m6 k6) := blk_cell (hY8) 2
      have Fq2 : w8.frozen? ⟨w6.heap.size, 2, none⟩ = false := blk_frozen (hY8) 2
      have Lu0 : ∀ o, (w8.alloc o).cell? ⟨w.heap.size, 0, none⟩ = some (.int .u8 0) := fun o => blk_cell (blk_alloc hV8 o) 0
      have Fu0 : ∀ o, (w8.alloc o).frozen? ⟨w.heap.size, 0, none⟩ = false := fun o => blk_frozen (blk_alloc hV8 o) 0
      have Lu1 : ∀ o, (w8.alloc o).cell? ⟨w.heap.size, 1, none⟩ = some (.int .u8 0) := fun o => blk_cell (blk_alloc hV8 o) 1
      have Fu1 : ∀ o, (w8.alloc o).frozen? ⟨w.heap.size, 1, none⟩ = false := fun o => blk_frozen (blk_alloc hV8 o) 1
      have Lu2 : ∀ o, (w8.alloc o).cell? ⟨w.heap.size, 2, none⟩ = some (.slice none 0 0) := fun o => blk_cell (blk_alloc hV8 o) 2
      have Fu2 : ∀ o, (w8.alloc o).frozen? ⟨w.heap.size, 2, none⟩ = false := fun o => blk_frozen (blk_alloc hV8 o) 2
      clear hV8 hX8 hY8 hr8 hk8 hp8
      clear Lx0 Fx0 Lv0 Fv0 Lx1 Fx1 Lv1 Fv1 Lx2 Fx2 Lv2 Fv2 B6
      go_wp2
      refine bodyPost_ret (results_single rfl (.cell w.heap.size 45 _ (0, 0) _ rfl (LB.put (HV8.out.alloc _) c4 0 _ 2 2) Try.underlying45 rfl node_info .nil)) rfl ?_
      refine nd_ret HB.out.size HLT.out (HK8.out.alloc _) (HR8.out.alloc _) c4 0 _ 2 2 fun W' hW => ?_
      have s5 := S5.out
      unfold S5b at s5
      rcases s5 with ⟨h0, h⟩ | ⟨h0, x, s', r2, e1, e2, e3, e4, e5⟩
      · rcases HP6.out with ⟨h, _⟩ | ⟨_, h, _⟩
        · cases h
        · exact absurd (h0.symm.trans h) (by decide)
      rcases HP6.out with ⟨h, _⟩ | ⟨_, _, y, h2, h3⟩
      · cases h
      rcases HP8.out with ⟨h4, h5⟩ | ⟨h4, _, r8, h5, h6⟩
      · refine .inl ⟨h4, .inr ?_⟩
        rcases h5 with h5 | h5
        · cases h5
        · have hh := HC.out; subst hh; rw [HL.out]; rw [e3] at h2
          cases hz : T.data.toList.drop i6 with
          | nil => rw [hz] at h2; simp [parse, HQ.out.1, HQ.out.2, HU.out, e1, e2, h2]
          | cons d u =>
            rw [hz] at h2
            have hd : ¬ d = 41 := fun e => h5 u (by rw [hz, e])
            simp [parse, HQ.out.1, HQ.out.2, HU.out, e1, e2, h2, hd]
      · refine .inr ⟨h4, rfl, .bin s' x y, ?_, w8.heap.size, 2, .int .u8 a2, .int .u8 c2, .slice A2 m2 k2, .int .u8 a6, .int .u8 c6, .slice A6 m6 k6, by have := HS2.out; have := HZ6.out; have := HZ8.out; have := HGX.out; omega, by rw [e4]; rfl, Nat.le_refl _, ?_, ?_, ?_, ?_, ?_, ?_, ?_, ?_⟩
        · have hh := HC.out; subst hh; rw [HL.out]; rw [e3, h5] at h2; simp [parse, HQ.out.1, HQ.out.2, HU.out, e1, e2, h2, h6]
        iterate 6 exact (World.cell?_of_block (w := w8.alloc _) (hW w8.heap.size (by have := HS2.out; have := HZ6.out; have := HZ8.out; have := HGX.out; omega))).trans (World.cell?_alloc_new _ _ _ _)
        · have hx := e5
          have hx6 := nd_kb HKB.out (by have := HLT.out; have := HS.out; have := HLO.out; omega) hx
          have hx8 := nd_kb HKC.out (by have := HLT.out; have := HS.out; have := HLO.out; omega) (nd_alloc (.cells #[.int .u8 a6, .int .u8 c6, .slice A6 m6 k6] 45) hx6)
          exact nd_lo (by have := HS.out; have := HLO.out; omega) _ _ (nd_blk (fun k h1 h2 => (hW k (by have := HS.out; have := HLO.out; omega)).trans (Below.heap_alloc w8 _ k h2)) hx8)
        · have hy8 := nd_kb HKC.out (by have := HLT.out; have := HS2.out; have := HZ5.out; omega) (nd_alloc (.cells #[.int .u8 a6, .int .u8 c6, .slice A6 m6 k6] 45) h3)
          exact nd_lo (by have := HS2.out; have := HZ5.out; omega) _ _ (nd_blk (fun k h1 h2 => (hW k (by have := HS2.out; have := HZ5.out; omega)).trans (Below.heap_alloc w8 _ k h2)) hy8)
  | false =>
    obtain ⟨x, s, r2, hx1, hx2, rfl, hx3⟩ := HXN.out rfl
    have HX1 := Aside0.mk hx1
    have HX2 := Aside0.mk hx2
    have HX3 := Aside0.mk hx3
    clear hx1 hx2 hx3
    cases hg : isBin s with
    | true =>
      go_wp2_with (go_at_call 64; refine (l13Find_bin s true hg _).mono ?_; rintro e wz ⟨⟨y4, rfl, hy4⟩, hw⟩; rw [hw]; clear hw wz; have hy5 : decide (y4 < 0) = false := (by have := hy4; simp only [decide_eq_true_eq, decide_eq_false_iff_not] at this ⊢; omega))
      have HR5 := HR4.out.set2 false
      have HK5 : RK w0 w (w4.setCell ⟨b, 2, none⟩ (.bool false)) b := ⟨below_set HK4.out.1 HG.out, HK4.out.2.set_ _ _⟩
      have HV5 : LB (w4.setCell ⟨b, 2, none⟩ (.bool false)) w.heap.size 0 0 none 0 0 := blk_far HV4.out (by show _ ≠ b; have := HLT.out; omega) _
      have HX5 : LB (w4.setCell ⟨b, 2, none⟩ (.bool false)) w2.heap.size a2 c2 A2 m2 k2 := blk_far HX4.out (by show _ ≠ b; have := HLT.out; have := HS2.out; omega) _
      refine (part_gen w0 _ b T n i4 false (fun _ => by have := parse_len _ _ _ _ HX1.out; have := HN.out; rw [HX2.out]; simp at *; omega) HT.out HK5.1 HG.out HR5 HI.out).mono ?_
      have S5 : Aside0 (S5b n T c r i4 false (s.toNat : Int) (w4.setCell ⟨b, 2, none⟩ (.bool false)) w1.heap.size (ndV a2 c2 A2 m2 k2)) := ⟨.inr ⟨rfl, x, s, r2, HX1.out, hg, HX2.out, rfl, nd_set (by have := HLT.out; have := HS.out; omega) HX3.out⟩⟩
      clear b2 b3 HR5
      rintro e w6 ⟨a6, c6, A6, m6, k6, i6, bad6, rfl, hr6, hk6, hp6⟩
      have hV6 := HV5.keep hk6.2 (by have := HLT.out; omega)
      have hX6 := HX5.keep hk6.2 (by have := HLT.out; have := HS2.out; omega)
      have HV6 := Aside0.mk hV6
      have HX6 := Aside0.mk hX6
      have HR6 := Aside0.mk hr6
      have HK6 := Aside0.mk (RK.trans HK5 hk6)
      have HP6 := Aside0.mk hp6
      have HKB := Aside0.mk hk6.2
      have HZ6 := Aside0.mk (show w2.heap.size < w6.heap.size from blk_lt hX6)
      have HZ5 := Aside0.mk (show w2.heap.size < _ from blk_lt HX5)
      have Lx0 : ∀ o, (w6.alloc o).cell? ⟨w2.heap.size, 0, none⟩ = some (.int .u8 a2) := fun o => blk_cell (blk_alloc hX6 o) 0
      have Fx0 : ∀ o, (w6.alloc o).frozen? ⟨w2.heap.size, 0, none⟩ = false := fun o => blk_frozen (blk_alloc hX6 o) 0
      have Lx1 : ∀ o, (w6.alloc o).cell? ⟨w2.heap.size, 1, none⟩ = some (.int .u8 c2) := fun o => blk_cell (blk_alloc hX6 o) 1
      have Fx1 : ∀ o, (w6.alloc o).frozen? ⟨w2.heap.size, 1, none⟩ = false := fun o => blk_frozen (blk_alloc hX6 o) 1
      have Lx2 : ∀ o, (w6.alloc o).cell? ⟨w2.heap.size, 2, none⟩ = some (.slice A2 m2 k2) := fun o => blk_cell (blk_alloc hX6 o) 2
      have Fx2 : ∀ o, (w6.alloc o).frozen? ⟨w2.heap.size, 2, none⟩ = false := fun o => blk_frozen (blk_alloc hX6 o) 2
      have B6 : ∀ o, (w6.alloc o).cell? ⟨b, 2, none⟩ = some (.bool bad6) := fun o => blk_cell (blk_alloc hr6.1 o) 2
      have Lv0 : ∀ o o', ((w6.alloc o).alloc o').cell? ⟨w.heap.size, 0, none⟩ = some (.int .u8 0) := fun o o' => blk_cell (blk_alloc (blk_alloc hV6 o) o') 0
      have Fv0 : ∀ o o', ((w6.alloc o).alloc o').frozen? ⟨w.heap.size, 0, none⟩ = false := fun o o' => blk_frozen (blk_alloc (blk_alloc hV6 o) o') 0
      have Lv1 : ∀ o o', ((w6.alloc o).alloc o').cell? ⟨w.heap.size, 1, none⟩ = some (.int .u8 0) := fun o o' => blk_cell (blk_alloc (blk_alloc hV6 o) o') 1
      have Fv1 : ∀ o o', ((w6.alloc o).alloc o').frozen? ⟨w.heap.size, 1, none⟩ = false := fun o o' => blk_frozen (blk_alloc (blk_alloc hV6 o) o') 1
      have Lv2 : ∀ o o', ((w6.alloc o).alloc o').cell? ⟨w.heap.size, 2, none⟩ = some (.slice none 0 0) := fun o o' => blk_cell (blk_alloc (blk_alloc hV6 o) o') 2
      have Fv2 : ∀ o o', ((w6.alloc o).alloc o').frozen? ⟨w.heap.size, 2, none⟩ = false := fun o o' => blk_frozen (blk_alloc (blk_alloc hV6 o) o') 2
      clear hV6 hX6 hr6 hk6 hp6 HV5 HX5 HK5
      unfold ndV
      cases bad6 with
      | true =>
        go_wp2
        refine bodyPost_ret (results_single rfl (.cell w.heap.size 45 _ (0, 0) _ rfl (LB.put ((HV6.out.alloc _).alloc _) (s.toNat : Int) 0 _ 2 2) Try.underlying45 rfl node_info .nil)) rfl ?_
        refine nd_ret HB.out.size HLT.out ((HK6.out.alloc _).alloc _) ((HR6.out.alloc _).alloc _) (s.toNat : Int) 0 _ 2 2 fun W' hW => .inl ⟨rfl, .inr ?_⟩
        rw [HL.out]
        have s5 := S5.out
        unfold S5b at s5
        rcases s5 with ⟨_, h⟩ | ⟨h0, x, s', r2, e1, e2, e3, e4, e5⟩
        · exact h
        · rcases HP6.out with ⟨_, h | h⟩ | ⟨h, _⟩
          · exact absurd (h.symm.trans h0) (by decide)
          · have hh := HC.out; subst hh; rw [e3] at h; simp [parse, HQ.out.1, HQ.out.2, HU.out, e1, e2, h]
          · cases h
      | false =>
        go_wp2_with fail
        refine (is_gen w0 _ b T i6 false 41 41 rfl (HK6.out.alloc _).1 HG.out (HR6.out.alloc _) HT.out).mono ?_
        rintro e w8 ⟨v8, i8, bad8, rfl, hr8, hk8, hp8⟩
        have hbx : b ≠ w6.heap.size := by have := HLT.out; have := HZ6.out; have := HS2.out; omega
        have hV8 := (HV6.out.alloc (.cells #[.int .u8 a6, .int .u8 c6, .slice A6 m6 k6] 45)).keep hk8.2 (by have := HLT.out; omega)
        have hX8 := (HX6.out.alloc (.cells #[.int .u8 a6, .int .u8 c6, .slice A6 m6 k6] 45)).keep hk8.2 (by have := HLT.out; have := HS2.out; omega)
        have hY8 := (LB.new w6 a6 c6 A6 m6 k6).keep hk8.2 hbx.symm
        have HV8 := Aside0.mk hV8
        have HR8 := Aside0.mk hr8
        have HK8 := Aside0.mk ((HK6.out.alloc _).trans hk8)
        have HKC := Aside0.mk hk8.2
        have HP8 := Aside0.mk hp8
        have HZ8 := Aside0.mk (show w6.heap.size < w8.heap.size from blk_lt hY8)
        have Lp0 : w8.cell? ⟨w2.heap.size, 0, none⟩ = some (.int .u8 a2) := blk_cell (hX8) 0
        have Fp0 : w8.frozen? ⟨w2.heap.size, 0, none⟩ = false := blk_frozen (hX8) 0
        have Lp1 : w8.cell? ⟨w2.heap.size, 1, none⟩ = some (.int .u8 c2) := blk_cell (hX8) 1
        have Fp1 : w8.frozen? ⟨w2.heap.size, 1, none⟩ = false := blk_frozen (hX8) 1
        have Lp2 : w8.cell? ⟨w2.heap.size, 2, none⟩ = some (.slice A2 m2 k2) := blk_cell (hX8) 2
        have Fp2 : w8.frozen? ⟨w2.heap.size, 2, none⟩ = false := blk_frozen (hX8) 2
        have Lq0 : w8.cell? ⟨w6.heap.size, 0, none⟩ = some (.int .u8 a6) := blk_cell (hY8) 0
        have Fq0 : w8.frozen? ⟨w6.heap.size, 0, none⟩ = false := blk_frozen (hY8) 0
        have Lq1 : w8.cell? ⟨w6.heap.size, 1, none⟩ = some (.int .u8 c6) := blk_cell (hY8) 1
        have Fq1 : w8.frozen? ⟨w6.heap.size, 1, none⟩ = false := blk_frozen (hY8) 1
        have Lq2 : w8.cell? ⟨w6.heap.size, 2, none⟩ = some (.slice A6 m6 k6) := blk_cell (hY8) 2
        have Fq2 : w8.frozen? ⟨w6.heap.size, 2, none⟩ = false := blk_frozen (hY8) 2
        have Lu0 : ∀ o, (w8.alloc o).cell? ⟨w.heap.size, 0, none⟩ = some (.int .u8 0) := fun o => blk_cell (blk_alloc hV8 o) 0
        have Fu0 : ∀ o, (w8.alloc o).frozen? ⟨w.heap.size, 0, none⟩ = false := fun o => blk_frozen (blk_alloc hV8 o) 0
        have Lu1 : ∀ o, (w8.alloc o).cell? ⟨w.heap.size, 1, none⟩ = some (.int .u8 0) := fun o => blk_cell (blk_alloc hV8 o) 1
        have Fu1 : ∀ o, (w8.alloc o).frozen? ⟨w.heap.size, 1, none⟩ = false := fun o => blk_frozen (blk_alloc hV8 o) 1
        have Lu2 : ∀ o, (w8.alloc o).cell? ⟨w.heap.size, 2, none⟩ = some (.slice none 0 0) := fun o => blk_cell (blk_alloc hV8 o) 2
        have Fu2 : ∀ o, (w8.alloc o).frozen? ⟨w.heap.size, 2, none⟩ = false := fun o => blk_frozen (blk_alloc hV8 o) 2
        clear hV8 hX8 hY8 hr8 hk8 hp8
        clear Lx0 Fx0 Lv0 Fv0 Lx1 Fx1 Lv1 Fv1 Lx2 Fx2 Lv2 Fv2 B6
        go_wp2
        refine bodyPost_ret (results_single rfl (.cell w.heap.size 45 _ (0, 0) _ rfl (LB.put (HV8.out.alloc _) (s.toNat : Int) 0 _ 2 2) Try.underlying45 rfl node_info .nil)) rfl ?_
        refine nd_ret HB.out.size HLT.out (HK8.out.alloc _) (HR8.out.alloc _) (s.toNat : Int) 0 _ 2 2 fun W' hW => ?_
        have s5 := S5.out
        unfold S5b at s5
        rcases s5 with ⟨h0, h⟩ | ⟨h0, x, s', r2, e1, e2, e3, e4, e5⟩
        · rcases HP6.out with ⟨h, _⟩ | ⟨_, h, _⟩
          · cases h
          · exact absurd (h0.symm.trans h) (by decide)
        rcases HP6.out with ⟨h, _⟩ | ⟨_, _, y, h2, h3⟩
        · cases h
        rcases HP8.out with ⟨h4, h5⟩ | ⟨h4, _, r8, h5, h6⟩
        · refine .inl ⟨h4, .inr ?_⟩
          rcases h5 with h5 | h5
          · cases h5
          · have hh := HC.out; subst hh; rw [HL.out]; rw [e3] at h2
            cases hz : T.data.toList.drop i6 with
            | nil => rw [hz] at h2; simp [parse, HQ.out.1, HQ.out.2, HU.out, e1, e2, h2]
            | cons d u =>
              rw [hz] at h2
              have hd : ¬ d = 41 := fun e => h5 u (by rw [hz, e])
              simp [parse, HQ.out.1, HQ.out.2, HU.out, e1, e2, h2, hd]
        · refine .inr ⟨h4, rfl, .bin s' x y, ?_, w8.heap.size, 2, .int .u8 a2, .int .u8 c2, .slice A2 m2 k2, .int .u8 a6, .int .u8 c6, .slice A6 m6 k6, by have := HS2.out; have := HZ6.out; have := HZ8.out; have := HGX.out; omega, by rw [e4]; rfl, Nat.le_refl _, ?_, ?_, ?_, ?_, ?_, ?_, ?_, ?_⟩
          · have hh := HC.out; subst hh; rw [HL.out]; rw [e3, h5] at h2; simp [parse, HQ.out.1, HQ.out.2, HU.out, e1, e2, h2, h6]
          iterate 6 exact (World.cell?_of_block (w := w8.alloc _) (hW w8.heap.size (by have := HS2.out; have := HZ6.out; have := HZ8.out; have := HGX.out; omega))).trans (World.cell?_alloc_new _ _ _ _)
          · have hx := e5
            have hx6 := nd_kb HKB.out (by have := HLT.out; have := HS.out; have := HLO.out; omega) hx
            have hx8 := nd_kb HKC.out (by have := HLT.out; have := HS.out; have := HLO.out; omega) (nd_alloc (.cells #[.int .u8 a6, .int .u8 c6, .slice A6 m6 k6] 45) hx6)
            exact nd_lo (by have := HS.out; have := HLO.out; omega) _ _ (nd_blk (fun k h1 h2 => (hW k (by have := HS.out; have := HLO.out; omega)).trans (Below.heap_alloc w8 _ k h2)) hx8)
          · have hy8 := nd_kb HKC.out (by have := HLT.out; have := HS2.out; have := HZ5.out; omega) (nd_alloc (.cells #[.int .u8 a6, .int .u8 c6, .slice A6 m6 k6] 45) h3)
            exact nd_lo (by have := HS2.out; have := HZ5.out; omega) _ _ (nd_blk (fun k h1 h2 => (hW k (by have := HS2.out; have := HZ5.out; omega)).trans (Below.heap_alloc w8 _ k h2)) hy8)
    | false =>
      go_wp2_with (go_at_call 64; refine (l13Find_bin s false hg _).mono ?_; rintro e wz ⟨⟨y4, rfl, hy4⟩, hw⟩; rw [hw]; clear hw wz; have hy5 : decide (y4 < 0) = true := (by have := hy4; simp only [decide_eq_true_eq, decide_eq_false_iff_not] at this ⊢; omega))
      have HR5 := HR4.out.set2 true
      have HK5 : RK w0 w (w4.setCell ⟨b, 2, none⟩ (.bool true)) b := ⟨below_set HK4.out.1 HG.out, HK4.out.2.set_ _ _⟩
      have HV5 : LB (w4.setCell ⟨b, 2, none⟩ (.bool true)) w.heap.size 0 0 none 0 0 := blk_far HV4.out (by show _ ≠ b; have := HLT.out; omega) _
      have HX5 : LB (w4.setCell ⟨b, 2, none⟩ (.bool true)) w2.heap.size a2 c2 A2 m2 k2 := blk_far HX4.out (by show _ ≠ b; have := HLT.out; have := HS2.out; omega) _
      refine (part_gen w0 _ b T n i4 true (fun h => by cases h) HT.out HK5.1 HG.out HR5 HI.out).mono ?_
      have S5 : Aside0 (S5b n T c r i4 true (s.toNat : Int) (w4.setCell ⟨b, 2, none⟩ (.bool true)) w1.heap.size (ndV a2 c2 A2 m2 k2)) := ⟨.inl ⟨rfl, by have hh := HC.out; subst hh; simp [parse, HQ.out.1, HQ.out.2, HU.out, HX1.out, hg]⟩⟩
      clear b2 b3 HR5
      rintro e w6 ⟨a6, c6, A6, m6, k6, i6, bad6, rfl, hr6, hk6, hp6⟩
      have hV6 := HV5.keep hk6.2 (by have := HLT.out; omega)
      have hX6 := HX5.keep hk6.2 (by have := HLT.out; have := HS2.out; omega)
      have HV6 := Aside0.mk hV6
      have HX6 := Aside0.mk hX6
      have HR6 := Aside0.mk hr6
      have HK6 := Aside0.mk (RK.trans HK5 hk6)
      have HP6 := Aside0.mk hp6
      have HKB := Aside0.mk hk6.2
      have HZ6 := Aside0.mk (show w2.heap.size < w6.heap.size from blk_lt hX6)
      have HZ5 := Aside0.mk (show w2.heap.size < _ from blk_lt HX5)
      have Lx0 : ∀ o, (w6.alloc o).cell? ⟨w2.heap.size, 0, none⟩ = some (.int .u8 a2) := fun o => blk_cell (blk_alloc hX6 o) 0
      have Fx0 : ∀ o, (w6.alloc o).frozen? ⟨w2.heap.size, 0, none⟩ = false := fun o => blk_frozen (blk_alloc hX6 o) 0
      have Lx1 : ∀ o, (w6.alloc o).cell? ⟨w2.heap.size, 1, none⟩ = some (.int .u8 c2) := fun o => blk_cell (blk_alloc hX6 o) 1
      have Fx1 : ∀ o, (w6.alloc o).frozen? ⟨w2.heap.size, 1, none⟩ = false := fun o => blk_frozen (blk_alloc hX6 o) 1
      have Lx2 : ∀ o, (w6.alloc o).cell? ⟨w2.heap.size, 2, none⟩ = some (.slice A2 m2 k2) := fun o => blk_cell (blk_alloc hX6 o) 2
      have Fx2 : ∀ o, (w6.alloc o).frozen? ⟨w2.heap.size, 2, none⟩ = false := fun o => blk_frozen (blk_alloc hX6 o) 2
      have B6 : ∀ o, (w6.alloc o).cell? ⟨b, 2, none⟩ = some (.bool bad6) := fun o => blk_cell (blk_alloc hr6.1 o) 2
      have Lv0 : ∀ o o', ((w6.alloc o).alloc o').cell? ⟨w.heap.size, 0, none⟩ = some (.int .u8 0) := fun o o' => blk_cell (blk_alloc (blk_alloc hV6 o) o') 0
      have Fv0 : ∀ o o', ((w6.alloc o).alloc o').frozen? ⟨w.heap.size, 0, none⟩ = false := fun o o' => blk_frozen (blk_alloc (blk_alloc hV6 o) o') 0
      have Lv1 : ∀ o o', ((w6.alloc o).alloc o').cell? ⟨w.heap.size, 1, none⟩ = some (.int .u8 0) := fun o o' => blk_cell (blk_alloc (blk_alloc hV6 o) o') 1
      have Fv1 : ∀ o o', ((w6.alloc o).alloc o').frozen? ⟨w.heap.size, 1, none⟩ = false := fun o o' => blk_frozen (blk_alloc (blk_alloc hV6 o) o') 1
      have Lv2 : ∀ o o', ((w6.alloc o).alloc o').cell? ⟨w.heap.size, 2, none⟩ = some (.slice none 0 0) := fun o o' => blk_cell (blk_alloc (blk_alloc hV6 o) o') 2
      have Fv2 : ∀ o o', ((w6.alloc o).alloc o').frozen? ⟨w.heap.size, 2, none⟩ = false := fun o o' => blk_frozen (blk_alloc (blk_alloc hV6 o) o') 2
      clear hV6 hX6 hr6 hk6 hp6 HV5 HX5 HK5
      unfold ndV
      cases bad6 with
      | true =>
        go_wp2
        refine bodyPost_ret (results_single rfl (.cell w.heap.size 45 _ (0, 0) _ rfl (LB.put ((HV6.out.alloc _).alloc _) (s.toNat : Int) 0 _ 2 2) Try.underlying45 rfl node_info .nil)) rfl ?_
        refine nd_ret HB.out.size HLT.out ((HK6.out.alloc _).alloc _) ((HR6.out.alloc _).alloc _) (s.toNat : Int) 0 _ 2 2 fun W' hW => .inl ⟨rfl, .inr ?_⟩
        rw [HL.out]
        have s5 := S5.out
        unfold S5b at s5
        rcases s5 with ⟨_, h⟩ | ⟨h0, x, s', r2, e1, e2, e3, e4, e5⟩
        · exact h
        · rcases HP6.out with ⟨_, h | h⟩ | ⟨h, _⟩
          · exact absurd (h.symm.trans h0) (by decide)
          · have hh := HC.out; subst hh; rw [e3] at h; simp [parse, HQ.out.1, HQ.out.2, HU.out, e1, e2, h]
          · cases h
      | false =>
        go_wp2_with fail
        refine (is_gen w0 _ b T i6 false 41 41 rfl (HK6.out.alloc _).1 HG.out (HR6.out.alloc _) HT.out).mono ?_
        rintro e w8 ⟨v8, i8, bad8, rfl, hr8, hk8, hp8⟩
        have hbx : b ≠ w6.heap.size := by have := HLT.out; have := HZ6.out; have := HS2.out; omega
        have hV8 := (HV6.out.alloc (.cells #[.int .u8 a6, .int .u8 c6, .slice A6 m6 k6] 45)).keep hk8.2 (by have := HLT.out; omega)
        have hX8 := (HX6.out.alloc (.cells #[.int .u8 a6, .int .u8 c6, .slice A6 m6 k6] 45)).keep hk8.2 (by have := HLT.out; have := HS2.out; omega)
        have hY8 := (LB.new w6 a6 c6 A6 m6 k6).keep hk8.2 hbx.symm
        have HV8 := Aside0.mk hV8
        have HR8 := Aside0.mk hr8
        have HK8 := Aside0.mk ((HK6.out.alloc _).trans hk8)
        have HKC := Aside0.mk hk8.2
        have HP8 := Aside0.mk hp8
        have HZ8 := Aside0.mk (show w6.heap.size < w8.heap.size from blk_lt hY8)
        have Lp0 : w8.cell? ⟨w2.heap.size, 0, none⟩ = some (.int .u8 a2) := blk_cell (hX8) 0
        have Fp0 : w8.frozen? ⟨w2.heap.size, 0, none⟩ = false := blk_frozen (hX8) 0
        have Lp1 : w8.cell? ⟨w2.heap.size, 1, none⟩ = some (.int .u8 c2) := blk_cell (hX8) 1
        have Fp1 : w8.frozen? ⟨w2.heap.size, 1, none⟩ = false := blk_frozen (hX8) 1
        have Lp2 : w8.cell? ⟨w2.heap.size, 2, none⟩ = some (.slice A2 m2 k2) := blk_cell (hX8) 2
        have Fp2 : w8.frozen? ⟨w2.heap.size, 2, none⟩ = false := blk_frozen (hX8) 2
        have Lq0 : w8.cell? ⟨w6.heap.size, 0, none⟩ = some (.int .u8 a6) := blk_cell (hY8) 0
        have Fq0 : w8.frozen? ⟨w6.heap.size, 0, none⟩ = false := blk_frozen (hY8) 0
        have Lq1 : w8.cell? ⟨w6.heap.size, 1, none⟩ = some (.int .u8 c6) := blk_cell (hY8) 1
        have Fq1 : w8.frozen? ⟨w6.heap.size, 1, none⟩ = false := blk_frozen (hY8) 1
        have Lq2 : w8.cell? ⟨w6.heap.size, 2, none⟩ = some (.slice A6 m6 k6) := blk_cell (hY8) 2
        have Fq2 : w8.frozen? ⟨w6.heap.size, 2, none⟩ = false := blk_frozen (hY8) 2
        have Lu0 : ∀ o, (w8.alloc o).cell? ⟨w.heap.size, 0, none⟩ = some (.int .u8 0) := fun o => blk_cell (blk_alloc hV8 o) 0
        have Fu0 : ∀ o, (w8.alloc o).frozen? ⟨w.heap.size, 0, none⟩ = false := fun o => blk_frozen (blk_alloc hV8 o) 0
        have Lu1 : ∀ o, (w8.alloc o).cell? ⟨w.heap.size, 1, none⟩ = some (.int .u8 0) := fun o => blk_cell (blk_alloc hV8 o) 1
        have Fu1 : ∀ o, (w8.alloc o).frozen? ⟨w.heap.size, 1, none⟩ = false := fun o => blk_frozen (blk_alloc hV8 o) 1
        have Lu2 : ∀ o, (w8.alloc o).cell? ⟨w.heap.size, 2, none⟩ = some (.slice none 0 0) := fun o => blk_cell (blk_alloc hV8 o) 2
        have Fu2 : ∀ o, (w8.alloc o).frozen? ⟨w.heap.size, 2, none⟩ = false := fun o => blk_frozen (blk_alloc hV8 o) 2
        clear hV8 hX8 hY8 hr8 hk8 hp8
        clear Lx0 Fx0 Lv0 Fv0 Lx1 Fx1 Lv1 Fv1 Lx2 Fx2 Lv2 Fv2 B6
        go_wp2
        refine bodyPost_ret (results_single rfl (.cell w.heap.size 45 _ (0, 0) _ rfl (LB.put (HV8.out.alloc _) (s.toNat : Int) 0 _ 2 2) Try.underlying45 rfl node_info .nil)) rfl ?_
        refine nd_ret HB.out.size HLT.out (HK8.out.alloc _) (HR8.out.alloc _) (s.toNat : Int) 0 _ 2 2 fun W' hW => ?_
        have s5 := S5.out
        unfold S5b at s5
        rcases s5 with ⟨h0, h⟩ | ⟨h0, x, s', r2, e1, e2, e3, e4, e5⟩
        · rcases HP6.out with ⟨h, _⟩ | ⟨_, h, _⟩
          · cases h
          · exact absurd (h0.symm.trans h) (by decide)
        rcases HP6.out with ⟨h, _⟩ | ⟨_, _, y, h2, h3⟩
        · cases h
        rcases HP8.out with ⟨h4, h5⟩ | ⟨h4, _, r8, h5, h6⟩
        · refine .inl ⟨h4, .inr ?_⟩
          rcases h5 with h5 | h5
          · cases h5
          · have hh := HC.out; subst hh; rw [HL.out]; rw [e3] at h2
            cases hz : T.data.toList.drop i6 with
            | nil => rw [hz] at h2; simp [parse, HQ.out.1, HQ.out.2, HU.out, e1, e2, h2]
            | cons d u =>
              rw [hz] at h2
              have hd : ¬ d = 41 := fun e => h5 u (by rw [hz, e])
              simp [parse, HQ.out.1, HQ.out.2, HU.out, e1, e2, h2, hd]
        · refine .inr ⟨h4, rfl, .bin s' x y, ?_, w8.heap.size, 2, .int .u8 a2, .int .u8 c2, .slice A2 m2 k2, .int .u8 a6, .int .u8 c6, .slice A6 m6 k6, by have := HS2.out; have := HZ6.out; have := HZ8.out; have := HGX.out; omega, by rw [e4]; rfl, Nat.le_refl _, ?_, ?_, ?_, ?_, ?_, ?_, ?_, ?_⟩
          · have hh := HC.out; subst hh; rw [HL.out]; rw [e3, h5] at h2; simp [parse, HQ.out.1, HQ.out.2, HU.out, e1, e2, h2, h6]
          iterate 6 exact (World.cell?_of_block (w := w8.alloc _) (hW w8.heap.size (by have := HS2.out; have := HZ6.out; have := HZ8.out; have := HGX.out; omega))).trans (World.cell?_alloc_new _ _ _ _)
          · have hx := e5
            have hx6 := nd_kb HKB.out (by have := HLT.out; have := HS.out; have := HLO.out; omega) hx
            have hx8 := nd_kb HKC.out (by have := HLT.out; have := HS.out; have := HLO.out; omega) (nd_alloc (.cells #[.int .u8 a6, .int .u8 c6, .slice A6 m6 k6] 45) hx6)
            exact nd_lo (by have := HS.out; have := HLO.out; omega) _ _ (nd_blk (fun k h1 h2 => (hW k (by have := HS.out; have := HLO.out; omega)).trans (Below.heap_alloc w8 _ k h2)) hx8)
          · have hy8 := nd_kb HKC.out (by have := HLT.out; have := HS2.out; have := HZ5.out; omega) (nd_alloc (.cells #[.int .u8 a6, .int .u8 c6, .slice A6 m6 k6] 45) h3)
            exact nd_lo (by have := HS2.out; have := HZ5.out; omega) _ _ (nd_blk (fun k h1 h2 => (hW k (by have := HS2.out; have := HZ5.out; omega)).trans (Below.heap_alloc w8 _ k h2)) hy8)
end Go.Proofs.YtpklhagedifglaaW.PrintMore
