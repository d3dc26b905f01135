/-
  Cut to what this claim uses.
-/
import Derived.Test.YtpklhagedifglaaQTermI
namespace Go.Proofs.YtpklhagedifglaaW.PrintMore
set_option linter.unusedVariables false
set_option linter.unusedSimpArgs false
open Go.Proofs Go.Deep
open Go.RowKit Go.Proofs.YtpklhagedifglaaW.PrintWords
set_option maxHeartbeats 8000000 in
set_option maxRecDepth 100000 in
theorem nd_loop123 (w0 w : World) (b : Nat) (T : ByteArray) (n i : Nat) (c : UInt8) (r : List UInt8) (hl : T.data.toList.drop i = c :: r) (hT : T.data.toList.length ≤ 1048576) (hB : Below w0.heap.size w0 w) (hg : w0.heap.size ≤ b) (hr : RD w b T i false) (hc : c = 123) (hn : r.length ≤ n) (ih : NIH n) :
    Calls Try.prog 46 #[.pointer (some ⟨b, 0, none⟩)] w fun e w' => NDr (n + 1) T i false b w0 w e w' := by
  have HC := Aside0.mk hc
  have HC2 : Aside0 (c = 91 ∨ c = 123) := ⟨by subst hc; decide⟩
  have HN := Aside0.mk hn
  have HI := Aside0.mk ih
  have hd1 : inR c 48 57 = false := by subst hc; decide
  have hv1 : ((c.toNat : Int) == 97) = false := by subst hc; decide
  have hv2 : ((c.toNat : Int) == 98) = false := by subst hc; decide
  have hv3 : inR c 118 122 = false := by subst hc; decide
  have hv4 : ((c.toNat : Int) == 40) = false := by subst hc; decide
  have hv5 : ((c.toNat : Int) == 91) = false := by subst hc; decide
  have hv6 : ((c.toNat : Int) == 123) = true := by subst hc; decide
  have hv7 : IntKind.u8.wrap ((c.toNat : Int) + 2) = 125 := by subst hc; decide
  have HU : Aside0 (isUn c = false) := ⟨by subst hc; decide⟩
  have HQ : Aside0 (isVar 123 = false ∧ isDig 123 = false ∧ isUn 123 = false) := ⟨by decide⟩
  clear hc hn ih
  have HR := Aside0.mk hr
  have HB := Aside0.mk hB
  have HG := Aside0.mk hg
  have HT := Aside0.mk hT
  have HL := Aside0.mk hl
  have HLT := Aside0.mk hr.lt
  have hcv := conv_u8 c
  clear hr hB hg hT hl
  go_enter Try.func46, Try.ntmps46
  go_wp2_with fail
  refine (nx_more w0 _ b T i false c r (HB.out.alloc HB.out.size _) HG.out (HR.out.alloc _) HL.out HT.out).mono ?_
  rintro e w1 ⟨rfl, hr1, hk1⟩
  have hL : LB w1 w.heap.size 0 0 none 0 0 := (LB.new w 0 0 none 0 0).keep hk1.2 (by have := HLT.out; omega)
  have HV := Aside0.mk hL
  have HR1 := Aside0.mk hr1
  have HK1 := Aside0.mk (show RK w0 w w1 b from ((RK.refl HB.out).alloc _).trans hk1)
  have HS := Aside0.mk (show w.heap.size < w1.heap.size from blk_lt hL)
  clear hL hr1 hk1
  go_wp2_with (first | (go_at_call 63; refine (l1In_c _ _ _ _).mono ?_; rintro e wz ⟨rfl, hw⟩; rw [hw]; clear hw wz) | (go_at_call 64; refine (l13Find_un c false HU.out _).mono ?_; rintro e wz ⟨⟨y, rfl, hy⟩, hw⟩; rw [hw]; clear hw wz))
  have HD1 := Aside0.mk (show T.data.toList.drop (i + 1) = r from by rw [← List.drop_drop, HL.out]; rfl)
  refine (nx_gen w0 _ b T (i + 1) false HK1.out.1 HG.out HR1.out HT.out).mono ?_
  rintro e w2 ⟨c4, i2, bad2, rfl, hr2, hk2, hp2⟩
  have hV2 := HV.out.keep hk2.2 (by have := HLT.out; omega)
  have HV2 := Aside0.mk hV2
  have HR2 := Aside0.mk hr2
  have HK2 := Aside0.mk (HK1.out.trans hk2)
  have b2 : w2.cell? ⟨b, 2, none⟩ = some (.bool bad2) := blk_cell hr2.1 2
  have b3 : w2.frozen? ⟨b, 2, none⟩ = false := blk_frozen hr2.1 2
  clear hV2 hr2 hk2
  rw [HD1.out] at hp2
  have HXB : Aside0 (bad2 = true → r = []) := ⟨by
    intro h
    rcases hp2 with ⟨_, h1 | h1⟩ | ⟨h1, _⟩
    · cases h1
    · exact h1
    · rw [h] at h1; cases h1⟩
  have HXN : Aside0 (bad2 = false → ∃ u r', r = u :: r' ∧ T.data.toList.drop i2 = r' ∧ c4 = (u.toNat : Int)) := ⟨by
    intro h
    rcases hp2 with ⟨h1, _⟩ | ⟨_, _, u, r', h1, h2, h3⟩
    · rw [h] at h1; cases h1
    · exact ⟨u, r', h1, h2, h3⟩⟩
  clear hp2
  cases bad2 with
  | true =>
    have H3 : Aside0 (S3l T r i2 true c4) := ⟨.inl ⟨rfl, .inl (HXB.out rfl)⟩⟩
    go_wp2_with fail
    have HRc := HR2.out.set2 true
    have HKc : RK w0 w (w2.setCell ⟨b, 2, none⟩ (.bool true)) b := ⟨below_set HK2.out.1 HG.out, HK2.out.2.set_ _ _⟩
    have HVc : LB (w2.setCell ⟨b, 2, none⟩ (.bool true)) w.heap.size 0 0 none 0 0 := blk_far HV2.out (by show _ ≠ b; have := HLT.out; omega) _
    refine (is_gen w0 _ b T i2 true 58 58 rfl HKc.1 HG.out HRc HT.out).mono ?_
    rintro e w4 ⟨v4, i3, bad4, rfl, hr4, hk4, hp4⟩
    have hV4 := HVc.keep hk4.2 (by have := HLT.out; omega)
    have HV4 := Aside0.mk hV4
    have HR4 := Aside0.mk hr4
    have HK4 := Aside0.mk (RK.trans HKc hk4)
    have H4 := Aside0.mk (s4l_of H3.out hp4)
    have HS4 := Aside0.mk (show w.heap.size < w4.heap.size from blk_lt hV4)
    clear hV4 hr4 hk4 hp4 HRc HKc HVc b2 b3
    go_wp2_with fail
    have HN4 : Aside0 (bad4 = false → (T.data.toList.drop i3).length ≤ n) := ⟨by
      intro h
      rcases H4.out with ⟨h1, _⟩ | ⟨_, u, r1, h1, _, h2, _⟩
      · rw [h] at h1; cases h1
      · have := HN.out; rw [h2]; rw [h1] at this; simp at this; omega⟩
    refine (part_gen w0 _ b T n i3 bad4 HN4.out HT.out HK4.out.1 HG.out HR4.out HI.out).mono ?_
    rintro e w5 ⟨a2, c2, A2, m2, k2, i5, bad5, rfl, hr5, hk5, hp5⟩
    have hV5 := HV4.out.keep hk5.2 (by have := HLT.out; omega)
    have HVx := Aside0.mk hV5
    have HRx := Aside0.mk hr5
    have HKx := Aside0.mk (HK4.out.trans hk5)
    have HPx := Aside0.mk hp5
    have HL5 := Aside0.mk (show w4.heap.size ≤ w5.heap.size from hk5.2.1)
    have HS5 := Aside0.mk (show w.heap.size < w5.heap.size from blk_lt hV5)
    have HGX := Aside0.mk (Nat.le_refl w5.heap.size)
    clear hV5 hr5 hk5 hp5
    unfold ndV
    go_wp2_with fail
    refine (is_gen w0 _ b T i5 bad5 62 62 rfl (HKx.out.alloc _).1 HG.out (HRx.out.alloc _) HT.out).mono ?_
    rintro e w7 ⟨v7, i4, bad7, rfl, hr7, hk7, hp7⟩
    have HV5 := (HVx.out.alloc (.cells #[.int .u8 a2, .int .u8 c2, .slice A2 m2 k2] 45)).keep hk7.2 (by have := HLT.out; omega)
    have HX5 := (LB.new w5 a2 c2 A2 m2 k2).keep hk7.2 (by have := HLT.out; have := HS5.out; omega)
    have HR5 := hr7
    have HK5 : RK w0 w w7 b := (HKx.out.alloc _).trans hk7
    have S5 : Aside0 (S5l n T c r i4 bad7 c4 w7 w4.heap.size (ndV a2 c2 A2 m2 k2)) := ⟨by
      refine s5l_of HC2.out H4.out (bad5 := bad5) (i5 := i5) ?_ hp7
      rcases HPx.out with h | ⟨h1, h2, t, h3, h4⟩
      · exact .inl h
      · exact .inr ⟨h1, h2, t, h3, nd_kb hk7.2 (by have := HLT.out; have := HS4.out; omega) (nd_alloc _ h4)⟩⟩
    have HLO := Aside0.mk (show w4.heap.size ≤ w5.heap.size from HL5.out)
    have HS2 := Aside0.mk (show w.heap.size < w5.heap.size from HS5.out)
    have HSa := HS
    have HS := HS4
    clear hr7 hk7 hp7
    have HN5 : Aside0 (bad7 = false → (T.data.toList.drop i4).length ≤ n) := ⟨by
      intro h
      rcases S5.out with ⟨h1, _⟩ | ⟨_, u, x, r1, r2, h1, _, h2, h3, _⟩
      · rw [h] at h1; cases h1
      · have := HN.out; have := parse_len _ _ _ _ h2; rw [h3]; rw [h1] at *; simp at *; omega⟩
    go_wp2_with fail
    refine (part_gen w0 _ b T n i4 bad7 HN5.out HT.out HK5.1 HG.out HR5 HI.out).mono ?_
    clear HR5
    rintro e w6 ⟨a6, c6, A6, m6, k6, i6, bad6, rfl, hr6, hk6, hp6⟩
    have hV6 := HV5.keep hk6.2 (by have := HLT.out; omega)
    have hX6 := HX5.keep hk6.2 (by have := HLT.out; (have := HS2.out; have := HL5.out); omega)
    have HV6 := Aside0.mk hV6
    have HX6 := Aside0.mk hX6
    have HR6 := Aside0.mk hr6
    have HK6 := Aside0.mk (RK.trans HK5 hk6)
    have HP6 := Aside0.mk hp6
    have HKB := Aside0.mk hk6.2
    have HZ6 := Aside0.mk (show w5.heap.size < w6.heap.size from blk_lt hX6)
    have HZ5 := Aside0.mk (show w5.heap.size < _ from blk_lt HX5)
    have Lx0 : ∀ o, (w6.alloc o).cell? ⟨w5.heap.size, 0, none⟩ = some (.int .u8 a2) := fun o => blk_cell (blk_alloc hX6 o) 0
    have Fx0 : ∀ o, (w6.alloc o).frozen? ⟨w5.heap.size, 0, none⟩ = false := fun o => blk_frozen (blk_alloc hX6 o) 0
    have Lx1 : ∀ o, (w6.alloc o).cell? ⟨w5.heap.size, 1, none⟩ = some (.int .u8 c2) := fun o => blk_cell (blk_alloc hX6 o) 1
    have Fx1 : ∀ o, (w6.alloc o).frozen? ⟨w5.heap.size, 1, none⟩ = false := fun o => blk_frozen (blk_alloc hX6 o) 1
    have Lx2 : ∀ o, (w6.alloc o).cell? ⟨w5.heap.size, 2, none⟩ = some (.slice A2 m2 k2) := fun o => blk_cell (blk_alloc hX6 o) 2
    have Fx2 : ∀ o, (w6.alloc o).frozen? ⟨w5.heap.size, 2, none⟩ = false := fun o => blk_frozen (blk_alloc hX6 o) 2
    have B6 : ∀ o, (w6.alloc o).cell? ⟨b, 2, none⟩ = some (.bool bad6) := fun o => blk_cell (blk_alloc hr6.1 o) 2
    have Lv0 : ∀ o o', ((w6.alloc o).alloc o').cell? ⟨w.heap.size, 0, none⟩ = some (.int .u8 0) := fun o o' => blk_cell (blk_alloc (blk_alloc hV6 o) o') 0
    have Fv0 : ∀ o o', ((w6.alloc o).alloc o').frozen? ⟨w.heap.size, 0, none⟩ = false := fun o o' => blk_frozen (blk_alloc (blk_alloc hV6 o) o') 0
    have Lv1 : ∀ o o', ((w6.alloc o).alloc o').cell? ⟨w.heap.size, 1, none⟩ = some (.int .u8 0) := fun o o' => blk_cell (blk_alloc (blk_alloc hV6 o) o') 1
    have Fv1 : ∀ o o', ((w6.alloc o).alloc o').frozen? ⟨w.heap.size, 1, none⟩ = false := fun o o' => blk_frozen (blk_alloc (blk_alloc hV6 o) o') 1
    have Lv2 : ∀ o o', ((w6.alloc o).alloc o').cell? ⟨w.heap.size, 2, none⟩ = some (.slice none 0 0) := fun o o' => blk_cell (blk_alloc (blk_alloc hV6 o) o') 2
    have Fv2 : ∀ o o', ((w6.alloc o).alloc o').frozen? ⟨w.heap.size, 2, none⟩ = false := fun o o' => blk_frozen (blk_alloc (blk_alloc hV6 o) o') 2
    clear hV6 hX6 hr6 hk6 hp6 HV5 HX5 HK5
    unfold ndV
    cases bad6 with
    | true =>
      go_wp2
      refine bodyPost_ret (results_single rfl (.cell w.heap.size 45 _ (0, 0) _ rfl (LB.put ((HV6.out.alloc _).alloc _) (c.toNat : Int) c4 _ 2 2) Try.underlying45 rfl node_info .nil)) rfl ?_
      refine nd_ret HB.out.size HLT.out ((HK6.out.alloc _).alloc _) ((HR6.out.alloc _).alloc _) (c.toNat : Int) c4 _ 2 2 fun W' hW => .inl ⟨rfl, .inr ?_⟩
      rw [HL.out]
      have s5 := S5.out
      unfold S5l at s5
      rcases s5 with ⟨_, h⟩ | ⟨h0, u, x, r1, r2, e0, eb, e1, e3, e4, e5⟩
      · exact h
      · rcases HP6.out with ⟨_, h | h⟩ | ⟨h, _⟩
        · exact absurd (h.symm.trans h0) (by decide)
        · have hh := HC.out; subst hh; rw [e3] at h; rw [e0]; simp [parse, HQ.out.1, HQ.out.2.1, HQ.out.2.2, eb, e1, h]
        · cases h
    | false =>
      go_wp2_with fail
      refine (is_gen w0 _ b T i6 false 125 125 rfl (HK6.out.alloc _).1 HG.out (HR6.out.alloc _) HT.out).mono ?_
      rintro e w8 ⟨v8, i8, bad8, rfl, hr8, hk8, hp8⟩
      have hbx : b ≠ w6.heap.size := by have := HLT.out; have := HZ6.out; (have := HS2.out; have := HL5.out); omega
      have hV8 := (HV6.out.alloc (.cells #[.int .u8 a6, .int .u8 c6, .slice A6 m6 k6] 45)).keep hk8.2 (by have := HLT.out; omega)
      have hX8 := (HX6.out.alloc (.cells #[.int .u8 a6, .int .u8 c6, .slice A6 m6 k6] 45)).keep hk8.2 (by have := HLT.out; (have := HS2.out; have := HL5.out); omega)
      have hY8 := (LB.new w6 a6 c6 A6 m6 k6).keep hk8.2 hbx.symm
      have HV8 := Aside0.mk hV8
      have HR8 := Aside0.mk hr8
      have HK8 := Aside0.mk ((HK6.out.alloc _).trans hk8)
      have HKC := Aside0.mk hk8.2
      have HP8 := Aside0.mk hp8
      have HZ8 := Aside0.mk (show w6.heap.size < w8.heap.size from blk_lt hY8)
      have Lp0 : w8.cell? ⟨w5.heap.size, 0, none⟩ = some (.int .u8 a2) := blk_cell (hX8) 0
      have Fp0 : w8.frozen? ⟨w5.heap.size, 0, none⟩ = false := blk_frozen (hX8) 0
      have Lp1 : w8.cell? ⟨w5.heap.size, 1, none⟩ = some (.int .u8 c2) := blk_cell (hX8) 1
      have Fp1 : w8.frozen? ⟨w5.heap.size, 1, none⟩ = false := blk_frozen (hX8) 1
      have Lp2 : w8.cell? ⟨w5.heap.size, 2, none⟩ = some (.slice A2 m2 k2) := blk_cell (hX8) 2
      have Fp2 : w8.frozen? ⟨w5.heap.size, 2, none⟩ = false := blk_frozen (hX8) 2
      have Lq0 : w8.cell? ⟨w6.heap.size, 0, none⟩ = some (.int .u8 a6) := blk_cell (hY8) 0
      have Fq0 : w8.frozen? ⟨w6.heap.size, 0, none⟩ = false := blk_frozen (hY8) 0
      have Lq1 : w8.cell? ⟨w6.heap.size, 1, none⟩ = some (.int .u8 c6) := blk_cell (hY8) 1
      have Fq1 : w8.frozen? ⟨w6.heap.size, 1, none⟩ = false := blk_frozen (hY8) 1
      have Lq2 : w8.cell? ⟨w6.heap.size, 2, none⟩ = some (.slice A6 m6 k6) := blk_cell (hY8) 2
      have Fq2 : w8.frozen? ⟨w6.heap.size, 2, none⟩ = false := blk_frozen (hY8) 2
      have Lu0 : ∀ o, (w8.alloc o).cell? ⟨w.heap.size, 0, none⟩ = some (.int .u8 0) := fun o => blk_cell (blk_alloc hV8 o) 0
      have Fu0 : ∀ o, (w8.alloc o).frozen? ⟨w.heap.size, 0, none⟩ = false := fun o => blk_frozen (blk_alloc hV8 o) 0
      have Lu1 : ∀ o, (w8.alloc o).cell? ⟨w.heap.size, 1, none⟩ = some (.int .u8 0) := fun o => blk_cell (blk_alloc hV8 o) 1
      have Fu1 : ∀ o, (w8.alloc o).frozen? ⟨w.heap.size, 1, none⟩ = false := fun o => blk_frozen (blk_alloc hV8 o) 1
      have Lu2 : ∀ o, (w8.alloc o).cell? ⟨w.heap.size, 2, none⟩ = some (.slice none 0 0) := fun o => blk_cell (blk_alloc hV8 o) 2
      have Fu2 : ∀ o, (w8.alloc o).frozen? ⟨w.heap.size, 2, none⟩ = false := fun o => blk_frozen (blk_alloc hV8 o) 2
      clear hV8 hX8 hY8 hr8 hk8 hp8
      clear Lx0 Fx0 Lv0 Fv0 Lx1 Fx1 Lv1 Fv1 Lx2 Fx2 Lv2 Fv2 B6
      go_wp2
      refine bodyPost_ret (results_single rfl (.cell w.heap.size 45 _ (0, 0) _ rfl (LB.put (HV8.out.alloc _) (c.toNat : Int) c4 _ 2 2) Try.underlying45 rfl node_info .nil)) rfl ?_
      refine nd_ret HB.out.size HLT.out (HK8.out.alloc _) (HR8.out.alloc _) (c.toNat : Int) c4 _ 2 2 fun W' hW => ?_
      have s5 := S5.out
      unfold S5l at s5
      rcases s5 with ⟨h0, h⟩ | ⟨h0, u, x, r1, r2, e0, eb, e1, e3, e4, e5⟩
      · rcases HP6.out with ⟨h, _⟩ | ⟨_, h, _⟩
        · cases h
        · exact absurd (h0.symm.trans h) (by decide)
      rcases HP6.out with ⟨h, _⟩ | ⟨_, _, y, h2, h3⟩
      · cases h
      rcases HP8.out with ⟨h4, h5⟩ | ⟨h4, _, r8, h5, h6⟩
      · refine .inl ⟨h4, .inr ?_⟩
        rcases h5 with h5 | h5
        · cases h5
        · have hh := HC.out; subst hh; rw [HL.out, e0]; rw [e3] at h2
          cases hz : T.data.toList.drop i6 with
          | nil => rw [hz] at h2; simp [parse, HQ.out.1, HQ.out.2.1, HQ.out.2.2, eb, e1, h2]
          | cons d z =>
            rw [hz] at h2
            have hd : ¬ d = 125 := fun e => h5 z (by rw [hz, e])
            simp [parse, HQ.out.1, HQ.out.2.1, HQ.out.2.2, eb, e1, h2, hd]
      · refine .inr ⟨h4, rfl, .loop c u x y, ?_, w8.heap.size, 2, .int .u8 a2, .int .u8 c2, .slice A2 m2 k2, .int .u8 a6, .int .u8 c6, .slice A6 m6 k6, by (have := HS2.out; have := HL5.out); have := HZ6.out; have := HZ8.out; have := HGX.out; omega, by rw [e4]; rfl, Nat.le_refl _, ?_, ?_, ?_, ?_, ?_, ?_, ?_, ?_⟩
        · have hh := HC.out; subst hh; rw [HL.out, e0]; rw [e3, h5] at h2; simp [parse, HQ.out.1, HQ.out.2.1, HQ.out.2.2, eb, e1, h2, h6]
        iterate 6 exact (World.cell?_of_block (w := w8.alloc _) (hW w8.heap.size (by (have := HS2.out; have := HL5.out); have := HZ6.out; have := HZ8.out; have := HGX.out; omega))).trans (World.cell?_alloc_new _ _ _ _)
        · have hx := e5
          have hx6 := nd_kb HKB.out (by have := HLT.out; have := HS.out; have := HLO.out; have := HL5.out; omega) hx
          have hx8 := nd_kb HKC.out (by have := HLT.out; have := HS.out; have := HLO.out; have := HL5.out; omega) (nd_alloc (.cells #[.int .u8 a6, .int .u8 c6, .slice A6 m6 k6] 45) hx6)
          exact nd_lo (by have := HS.out; have := HLO.out; have := HL5.out; omega) _ _ (nd_blk (fun k h1 h2 => (hW k (by have := HS.out; have := HLO.out; have := HL5.out; omega)).trans (Below.heap_alloc w8 _ k h2)) hx8)
        · have hy8 := nd_kb HKC.out (by have := HLT.out; (have := HS2.out; have := HL5.out); have := HZ5.out; omega) (nd_alloc (.cells #[.int .u8 a6, .int .u8 c6, .slice A6 m6 k6] 45) h3)
          exact nd_lo (by (have := HS2.out; have := HL5.out); have := HZ5.out; omega) _ _ (nd_blk (fun k h1 h2 => (hW k (by (have := HS2.out; have := HL5.out); have := HZ5.out; omega)).trans (Below.heap_alloc w8 _ k h2)) hy8)
  | false =>
    obtain ⟨u, r', hx1, hx2, rfl⟩ := HXN.out rfl
    have HX1 := Aside0.mk hx1
    have HX2 := Aside0.mk hx2
    have hcu := conv_u8 u
    clear hx1 hx2
    cases hg : isBound u with
    | true =>
      have H3 : Aside0 (S3l T r i2 false (u.toNat : Int)) := ⟨.inr ⟨rfl, u, r', HX1.out, hg, HX2.out, rfl⟩⟩
      have hg1 : inR u 118 122 = true := (inR_bound u).trans hg
      go_wp2_with (go_at_call 63; refine (l1In_c _ _ _ _).mono ?_; rintro e wz ⟨rfl, hw⟩; rw [hw]; clear hw wz)
      have HRc := HR2.out.set2 false
      have HKc : RK w0 w (w2.setCell ⟨b, 2, none⟩ (.bool false)) b := ⟨below_set HK2.out.1 HG.out, HK2.out.2.set_ _ _⟩
      have HVc : LB (w2.setCell ⟨b, 2, none⟩ (.bool false)) w.heap.size 0 0 none 0 0 := blk_far HV2.out (by show _ ≠ b; have := HLT.out; omega) _
      refine (is_gen w0 _ b T i2 false 58 58 rfl HKc.1 HG.out HRc HT.out).mono ?_
      rintro e w4 ⟨v4, i3, bad4, rfl, hr4, hk4, hp4⟩
      have hV4 := HVc.keep hk4.2 (by have := HLT.out; omega)
      have HV4 := Aside0.mk hV4
      have HR4 := Aside0.mk hr4
      have HK4 := Aside0.mk (RK.trans HKc hk4)
      have H4 := Aside0.mk (s4l_of H3.out hp4)
      have HS4 := Aside0.mk (show w.heap.size < w4.heap.size from blk_lt hV4)
      clear hV4 hr4 hk4 hp4 HRc HKc HVc b2 b3
      go_wp2_with fail
      have HN4 : Aside0 (bad4 = false → (T.data.toList.drop i3).length ≤ n) := ⟨by
        intro h
        rcases H4.out with ⟨h1, _⟩ | ⟨_, u, r1, h1, _, h2, _⟩
        · rw [h] at h1; cases h1
        · have := HN.out; rw [h2]; rw [h1] at this; simp at this; omega⟩
      refine (part_gen w0 _ b T n i3 bad4 HN4.out HT.out HK4.out.1 HG.out HR4.out HI.out).mono ?_
      rintro e w5 ⟨a2, c2, A2, m2, k2, i5, bad5, rfl, hr5, hk5, hp5⟩
      have hV5 := HV4.out.keep hk5.2 (by have := HLT.out; omega)
      have HVx := Aside0.mk hV5
      have HRx := Aside0.mk hr5
      have HKx := Aside0.mk (HK4.out.trans hk5)
      have HPx := Aside0.mk hp5
      have HL5 := Aside0.mk (show w4.heap.size ≤ w5.heap.size from hk5.2.1)
      have HS5 := Aside0.mk (show w.heap.size < w5.heap.size from blk_lt hV5)
      have HGX := Aside0.mk (Nat.le_refl w5.heap.size)
      clear hV5 hr5 hk5 hp5
      unfold ndV
      go_wp2_with fail
      refine (is_gen w0 _ b T i5 bad5 62 62 rfl (HKx.out.alloc _).1 HG.out (HRx.out.alloc _) HT.out).mono ?_
      rintro e w7 ⟨v7, i4, bad7, rfl, hr7, hk7, hp7⟩
      have HV5 := (HVx.out.alloc (.cells #[.int .u8 a2, .int .u8 c2, .slice A2 m2 k2] 45)).keep hk7.2 (by have := HLT.out; omega)
      have HX5 := (LB.new w5 a2 c2 A2 m2 k2).keep hk7.2 (by have := HLT.out; have := HS5.out; omega)
      have HR5 := hr7
      have HK5 : RK w0 w w7 b := (HKx.out.alloc _).trans hk7
      have S5 : Aside0 (S5l n T c r i4 bad7 (u.toNat : Int) w7 w4.heap.size (ndV a2 c2 A2 m2 k2)) := ⟨by
        refine s5l_of HC2.out H4.out (bad5 := bad5) (i5 := i5) ?_ hp7
        rcases HPx.out with h | ⟨h1, h2, t, h3, h4⟩
        · exact .inl h
        · exact .inr ⟨h1, h2, t, h3, nd_kb hk7.2 (by have := HLT.out; have := HS4.out; omega) (nd_alloc _ h4)⟩⟩
      have HLO := Aside0.mk (show w4.heap.size ≤ w5.heap.size from HL5.out)
      have HS2 := Aside0.mk (show w.heap.size < w5.heap.size from HS5.out)
      have HSa := HS
      have HS := HS4
      clear hr7 hk7 hp7
      have HN5 : Aside0 (bad7 = false → (T.data.toList.drop i4).length ≤ n) := ⟨by
        intro h
        rcases S5.out with ⟨h1, _⟩ | ⟨_, u, x, r1, r2, h1, _, h2, h3, _⟩
        · rw [h] at h1; cases h1
        · have := HN.out; have := parse_len _ _ _ _ h2; rw [h3]; rw [h1] at *; simp at *; omega⟩
      go_wp2_with fail
      refine (part_gen w0 _ b T n i4 bad7 HN5.out HT.out HK5.1 HG.out HR5 HI.out).mono ?_
      clear HR5
      rintro e w6 ⟨a6, c6, A6, m6, k6, i6, bad6, rfl, hr6, hk6, hp6⟩
      have hV6 := HV5.keep hk6.2 (by have := HLT.out; omega)
      have hX6 := HX5.keep hk6.2 (by have := HLT.out; (have := HS2.out; have := HL5.out); omega)
      have HV6 := Aside0.mk hV6
      have HX6 := Aside0.mk hX6
      have HR6 := Aside0.mk hr6
      have HK6 := Aside0.mk (RK.trans HK5 hk6)
      have HP6 := Aside0.mk hp6
      have HKB := Aside0.mk hk6.2
      have HZ6 := Aside0.mk (show w5.heap.size < w6.heap.size from blk_lt hX6)
      have HZ5 := Aside0.mk (show w5.heap.size < _ from blk_lt HX5)
      have Lx0 : ∀ o, (w6.alloc o).cell? ⟨w5.heap.size, 0, none⟩ = some (.int .u8 a2) := fun o => blk_cell (blk_alloc hX6 o) 0
      have Fx0 : ∀ o, (w6.alloc o).frozen? ⟨w5.heap.size, 0, none⟩ = false := fun o => blk_frozen (blk_alloc hX6 o) 0
      have Lx1 : ∀ o, (w6.alloc o).cell? ⟨w5.heap.size, 1, none⟩ = some (.int .u8 c2) := fun o => blk_cell (blk_alloc hX6 o) 1
      have Fx1 : ∀ o, (w6.alloc o).frozen? ⟨w5.heap.size, 1, none⟩ = false := fun o => blk_frozen (blk_alloc hX6 o) 1
      have Lx2 : ∀ o, (w6.alloc o).cell? ⟨w5.heap.size, 2, none⟩ = some (.slice A2 m2 k2) := fun o => blk_cell (blk_alloc hX6 o) 2
      have Fx2 : ∀ o, (w6.alloc o).frozen? ⟨w5.heap.size, 2, none⟩ = false := fun o => blk_frozen (blk_alloc hX6 o) 2
      have B6 : ∀ o, (w6.alloc o).cell? ⟨b, 2, none⟩ = some (.bool bad6) := fun o => blk_cell (blk_alloc hr6.1 o) 2
      have Lv0 : ∀ o o', ((w6.alloc o).alloc o').cell? ⟨w.heap.size, 0, none⟩ = some (.int .u8 0) := fun o o' => blk_cell (blk_alloc (blk_alloc hV6 o) o') 0
      have Fv0 : ∀ o o', ((w6.alloc o).alloc o').frozen? ⟨w.heap.size, 0, none⟩ = false := fun o o' => blk_frozen (blk_alloc (blk_alloc hV6 o) o') 0
      have Lv1 : ∀ o o', ((w6.alloc o).alloc o').cell? ⟨w.heap.size, 1, none⟩ = some (.int .u8 0) := fun o o' => blk_cell (blk_alloc (blk_alloc hV6 o) o') 1
      have Fv1 : ∀ o o', ((w6.alloc o).alloc o').frozen? ⟨w.heap.size, 1, none⟩ = false := fun o o' => blk_frozen (blk_alloc (blk_alloc hV6 o) o') 1
      have Lv2 : ∀ o o', ((w6.alloc o).alloc o').cell? ⟨w.heap.size, 2, none⟩ = some (.slice none 0 0) := fun o o' => blk_cell (blk_alloc (blk_alloc hV6 o) o') 2
      have Fv2 : ∀ o o', ((w6.alloc o).alloc o').frozen? ⟨w.heap.size, 2, none⟩ = false := fun o o' => blk_frozen (blk_alloc (blk_alloc hV6 o) o') 2
      clear hV6 hX6 hr6 hk6 hp6 HV5 HX5 HK5
      unfold ndV
      cases bad6 with
      | true =>
        go_wp2
        refine bodyPost_ret (results_single rfl (.cell w.heap.size 45 _ (0, 0) _ rfl (LB.put ((HV6.out.alloc _).alloc _) (c.toNat : Int) (u.toNat : Int) _ 2 2) Try.underlying45 rfl node_info .nil)) rfl ?_
        refine nd_ret HB.out.size HLT.out ((HK6.out.alloc _).alloc _) ((HR6.out.alloc _).alloc _) (c.toNat : Int) (u.toNat : Int) _ 2 2 fun W' hW => .inl ⟨rfl, .inr ?_⟩
        rw [HL.out]
        have s5 := S5.out
        unfold S5l at s5
        rcases s5 with ⟨_, h⟩ | ⟨h0, u, x, r1, r2, e0, eb, e1, e3, e4, e5⟩
        · exact h
        · rcases HP6.out with ⟨_, h | h⟩ | ⟨h, _⟩
          · exact absurd (h.symm.trans h0) (by decide)
          · have hh := HC.out; subst hh; rw [e3] at h; rw [e0]; simp [parse, HQ.out.1, HQ.out.2.1, HQ.out.2.2, eb, e1, h]
          · cases h
      | false =>
        go_wp2_with fail
        refine (is_gen w0 _ b T i6 false 125 125 rfl (HK6.out.alloc _).1 HG.out (HR6.out.alloc _) HT.out).mono ?_
        rintro e w8 ⟨v8, i8, bad8, rfl, hr8, hk8, hp8⟩
        have hbx : b ≠ w6.heap.size := by have := HLT.out; have := HZ6.out; (have := HS2.out; have := HL5.out); omega
        have hV8 := (HV6.out.alloc (.cells #[.int .u8 a6, .int .u8 c6, .slice A6 m6 k6] 45)).keep hk8.2 (by have := HLT.out; omega)
        have hX8 := (HX6.out.alloc (.cells #[.int .u8 a6, .int .u8 c6, .slice A6 m6 k6] 45)).keep hk8.2 (by have := HLT.out; (have := HS2.out; have := HL5.out); omega)
        have hY8 := (LB.new w6 a6 c6 A6 m6 k6).keep hk8.2 hbx.symm
        have HV8 := Aside0.mk hV8
        have HR8 := Aside0.mk hr8
        have HK8 := Aside0.mk ((HK6.out.alloc _).trans hk8)
        have HKC := Aside0.mk hk8.2
        have HP8 := Aside0.mk hp8
        have HZ8 := Aside0.mk (show w6.heap.size < w8.heap.size from blk_lt hY8)
        have Lp0 : w8.cell? ⟨w5.heap.size, 0, none⟩ = some (.int .u8 a2) := blk_cell (hX8) 0
        have Fp0 : w8.frozen? ⟨w5.heap.size, 0, none⟩ = false := blk_frozen (hX8) 0
        have Lp1 : w8.cell? ⟨w5.heap.size, 1, none⟩ = some (.int .u8 c2) := blk_cell (hX8) 1
        have Fp1 : w8.frozen? ⟨w5.heap.size, 1, none⟩ = false := blk_frozen (hX8) 1
        have Lp2 : w8.cell? ⟨w5.heap.size, 2, none⟩ = some (.slice A2 m2 k2) := blk_cell (hX8) 2
        have Fp2 : w8.frozen? ⟨w5.heap.size, 2, none⟩ = false := blk_frozen (hX8) 2
        have Lq0 : w8.cell? ⟨w6.heap.size, 0, none⟩ = some (.int .u8 a6) := blk_cell (hY8) 0
        have Fq0 : w8.frozen? ⟨w6.heap.size, 0, none⟩ = false := blk_frozen (hY8) 0
        have Lq1 : w8.cell? ⟨w6.heap.size, 1, none⟩ = some (.int .u8 c6) := blk_cell (hY8) 1
        have Fq1 : w8.frozen? ⟨w6.heap.size, 1, none⟩ = false := blk_frozen (hY8) 1
        have Lq2 : w8.cell? ⟨w6.heap.size, 2, none⟩ = some (.slice A6 m6 k6) := blk_cell (hY8) 2
        have Fq2 : w8.frozen? ⟨w6.heap.size, 2, none⟩ = false := blk_frozen (hY8) 2
        have Lu0 : ∀ o, (w8.alloc o).cell? ⟨w.heap.size, 0, none⟩ = some (.int .u8 0) := fun o => blk_cell (blk_alloc hV8 o) 0
        have Fu0 : ∀ o, (w8.alloc o).frozen? ⟨w.heap.size, 0, none⟩ = false := fun o => blk_frozen (blk_alloc hV8 o) 0
        have Lu1 : ∀ o, (w8.alloc o).cell? ⟨w.heap.size, 1, none⟩ = some (.int .u8 0) := fun o => blk_cell (blk_alloc hV8 o) 1
        have Fu1 : ∀ o, (w8.alloc o).frozen? ⟨w.heap.size, 1, none⟩ = false := fun o => blk_frozen (blk_alloc hV8 o) 1
        have Lu2 : ∀ o, (w8.alloc o).cell? ⟨w.heap.size, 2, none⟩ = some (.slice none 0 0) := fun o => blk_cell (blk_alloc hV8 o) 2
        have Fu2 : ∀ o, (w8.alloc o).frozen? ⟨w.heap.size, 2, none⟩ = false := fun o => blk_frozen (blk_alloc hV8 o) 2
        clear hV8 hX8 hY8 hr8 hk8 hp8
        clear Lx0 Fx0 Lv0 Fv0 Lx1 Fx1 Lv1 Fv1 Lx2 Fx2 Lv2 Fv2 B6
        go_wp2
        refine bodyPost_ret (results_single rfl (.cell w.heap.size 45 _ (0, 0) _ rfl (LB.put (HV8.out.alloc _) (c.toNat : Int) (u.toNat : Int) _ 2 2) Try.underlying45 rfl node_info .nil)) rfl ?_
        refine nd_ret HB.out.size HLT.out (HK8.out.alloc _) (HR8.out.alloc _) (c.toNat : Int) (u.toNat : Int) _ 2 2 fun W' hW => ?_
        have s5 := S5.out
        unfold S5l at s5
        rcases s5 with ⟨h0, h⟩ | ⟨h0, u, x, r1, r2, e0, eb, e1, e3, e4, e5⟩
        · rcases HP6.out with ⟨h, _⟩ | ⟨_, h, _⟩
          · cases h
          · exact absurd (h0.symm.trans h) (by decide)
        rcases HP6.out with ⟨h, _⟩ | ⟨_, _, y, h2, h3⟩
        · cases h
        rcases HP8.out with ⟨h4, h5⟩ | ⟨h4, _, r8, h5, h6⟩
        · refine .inl ⟨h4, .inr ?_⟩
          rcases h5 with h5 | h5
          · cases h5
          · have hh := HC.out; subst hh; rw [HL.out, e0]; rw [e3] at h2
            cases hz : T.data.toList.drop i6 with
            | nil => rw [hz] at h2; simp [parse, HQ.out.1, HQ.out.2.1, HQ.out.2.2, eb, e1, h2]
            | cons d z =>
              rw [hz] at h2
              have hd : ¬ d = 125 := fun e => h5 z (by rw [hz, e])
              simp [parse, HQ.out.1, HQ.out.2.1, HQ.out.2.2, eb, e1, h2, hd]
        · refine .inr ⟨h4, rfl, .loop c u x y, ?_, w8.heap.size, 2, .int .u8 a2, .int .u8 c2, .slice A2 m2 k2, .int .u8 a6, .int .u8 c6, .slice A6 m6 k6, by (have := HS2.out; have := HL5.out); have := HZ6.out; have := HZ8.out; have := HGX.out; omega, by rw [e4]; rfl, Nat.le_refl _, ?_, ?_, ?_, ?_, ?_, ?_, ?_, ?_⟩
          · have hh := HC.out; subst hh; rw [HL.out, e0]; rw [e3, h5] at h2; simp [parse, HQ.out.1, HQ.out.2.1, HQ.out.2.2, eb, e1, h2, h6]
          iterate 6 exact (World.cell?_of_block (w := w8.alloc _) (hW w8.heap.size (by (have := HS2.out; have := HL5.out); have := HZ6.out; have := HZ8.out; have := HGX.out; omega))).trans (World.cell?_alloc_new _ _ _ _)
          · have hx := e5
            have hx6 := nd_kb HKB.out (by have := HLT.out; have := HS.out; have := HLO.out; have := HL5.out; omega) hx
            have hx8 := nd_kb HKC.out (by have := HLT.out; have := HS.out; have := HLO.out; have := HL5.out; omega) (nd_alloc (.cells #[.int .u8 a6, .int .u8 c6, .slice A6 m6 k6] 45) hx6)
            exact nd_lo (by have := HS.out; have := HLO.out; have := HL5.out; omega) _ _ (nd_blk (fun k h1 h2 => (hW k (by have := HS.out; have := HLO.out; have := HL5.out; omega)).trans (Below.heap_alloc w8 _ k h2)) hx8)
          · have hy8 := nd_kb HKC.out (by have := HLT.out; (have := HS2.out; have := HL5.out); have := HZ5.out; omega) (nd_alloc (.cells #[.int .u8 a6, .int .u8 c6, .slice A6 m6 k6] 45) h3)
            exact nd_lo (by (have := HS2.out; have := HL5.out); have := HZ5.out; omega) _ _ (nd_blk (fun k h1 h2 => (hW k (by (have := HS2.out; have := HL5.out); have := HZ5.out; omega)).trans (Below.heap_alloc w8 _ k h2)) hy8)
    | false =>
      have H3 : Aside0 (S3l T r i2 true (u.toNat : Int)) := ⟨.inl ⟨rfl, .inr ⟨u, r', HX1.out, hg⟩⟩⟩
      have hg1 : inR u 118 122 = false := (inR_bound u).trans hg
      go_wp2_with (go_at_call 63; refine (l1In_c _ _ _ _).mono ?_; rintro e wz ⟨rfl, hw⟩; rw [hw]; clear hw wz)
      have HRc := HR2.out.set2 true
      have HKc : RK w0 w (w2.setCell ⟨b, 2, none⟩ (.bool true)) b := ⟨below_set HK2.out.1 HG.out, HK2.out.2.set_ _ _⟩
      have HVc : LB (w2.setCell ⟨b, 2, none⟩ (.bool true)) w.heap.size 0 0 none 0 0 := blk_far HV2.out (by show _ ≠ b; have := HLT.out; omega) _
      refine (is_gen w0 _ b T i2 true 58 58 rfl HKc.1 HG.out HRc HT.out).mono ?_
      rintro e w4 ⟨v4, i3, bad4, rfl, hr4, hk4, hp4⟩
      have hV4 := HVc.keep hk4.2 (by have := HLT.out; omega)
      have HV4 := Aside0.mk hV4
      have HR4 := Aside0.mk hr4
      have HK4 := Aside0.mk (RK.trans HKc hk4)
      have H4 := Aside0.mk (s4l_of H3.out hp4)
      have HS4 := Aside0.mk (show w.heap.size < w4.heap.size from blk_lt hV4)
      clear hV4 hr4 hk4 hp4 HRc HKc HVc b2 b3
      go_wp2_with fail
      have HN4 : Aside0 (bad4 = false → (T.data.toList.drop i3).length ≤ n) := ⟨by
        intro h
        rcases H4.out with ⟨h1, _⟩ | ⟨_, u, r1, h1, _, h2, _⟩
        · rw [h] at h1; cases h1
        · have := HN.out; rw [h2]; rw [h1] at this; simp at this; omega⟩
      refine (part_gen w0 _ b T n i3 bad4 HN4.out HT.out HK4.out.1 HG.out HR4.out HI.out).mono ?_
      rintro e w5 ⟨a2, c2, A2, m2, k2, i5, bad5, rfl, hr5, hk5, hp5⟩
      have hV5 := HV4.out.keep hk5.2 (by have := HLT.out; omega)
      have HVx := Aside0.mk hV5
      have HRx := Aside0.mk hr5
      have HKx := Aside0.mk (HK4.out.trans hk5)
      have HPx := Aside0.mk hp5
      have HL5 := Aside0.mk (show w4.heap.size ≤ w5.heap.size from hk5.2.1)
      have HS5 := Aside0.mk (show w.heap.size < w5.heap.size from blk_lt hV5)
      have HGX := Aside0.mk (Nat.le_refl w5.heap.size)
      clear hV5 hr5 hk5 hp5
      unfold ndV
      go_wp2_with fail
      refine (is_gen w0 _ b T i5 bad5 62 62 rfl (HKx.out.alloc _).1 HG.out (HRx.out.alloc _) HT.out).mono ?_
      rintro e w7 ⟨v7, i4, bad7, rfl, hr7, hk7, hp7⟩
      have HV5 := (HVx.out.alloc (.cells #[.int .u8 a2, .int .u8 c2, .slice A2 m2 k2] 45)).keep hk7.2 (by have := HLT.out; omega)
      have HX5 := (LB.new w5 a2 c2 A2 m2 k2).keep hk7.2 (by have := HLT.out; have := HS5.out; omega)
      have HR5 := hr7
      have HK5 : RK w0 w w7 b := (HKx.out.alloc _).trans hk7
      have S5 : Aside0 (S5l n T c r i4 bad7 (u.toNat : Int) w7 w4.heap.size (ndV a2 c2 A2 m2 k2)) := ⟨by
        refine s5l_of HC2.out H4.out (bad5 := bad5) (i5 := i5) ?_ hp7
        rcases HPx.out with h | ⟨h1, h2, t, h3, h4⟩
        · exact .inl h
        · exact .inr ⟨h1, h2, t, h3, nd_kb hk7.2 (by have := HLT.out; have := HS4.out; omega) (nd_alloc _ h4)⟩⟩
      have HLO := Aside0.mk (show w4.heap.size ≤ w5.heap.size from HL5.out)
      have HS2 := Aside0.mk (show w.heap.size < w5.heap.size from HS5.out)
      have HSa := HS
      have HS := HS4
      clear hr7 hk7 hp7
      have HN5 : Aside0 (bad7 = false → (T.data.toList.drop i4).length ≤ n) := ⟨by
        intro h
        rcases S5.out with ⟨h1, _⟩ | ⟨_, u, x, r1, r2, h1, _, h2, h3, _⟩
        · rw [h] at h1; cases h1
        · have := HN.out; have := parse_len _ _ _ _ h2; rw [h3]; rw [h1] at *; simp at *; omega⟩
      go_wp2_with fail
      refine (part_gen w0 _ b T n i4 bad7 HN5.out HT.out HK5.1 HG.out HR5 HI.out).mono ?_
      clear HR5
      rintro e w6 ⟨a6, c6, A6, m6, k6, i6, bad6, rfl, hr6, hk6, hp6⟩
      have hV6 := HV5.keep hk6.2 (by have := HLT.out; omega)
      have hX6 := HX5.keep hk6.2 (by have := HLT.out; (have := HS2.out; have := HL5.out); omega)
      have HV6 := Aside0.mk hV6
      have HX6 := Aside0.mk hX6
      have HR6 := Aside0.mk hr6
      have HK6 := Aside0.mk (RK.trans HK5 hk6)
      have HP6 := Aside0.mk hp6
      have HKB := Aside0.mk hk6.2
      have HZ6 := Aside0.mk (show w5.heap.size < w6.heap.size from blk_lt hX6)
      have HZ5 := Aside0.mk (show w5.heap.size < _ from blk_lt HX5)
      have Lx0 : ∀ o, (w6.alloc o).cell? ⟨w5.heap.size, 0, none⟩ = some (.int .u8 a2) := fun o => blk_cell (blk_alloc hX6 o) 0
      have Fx0 : ∀ o, (w6.alloc o).frozen? ⟨w5.heap.size, 0, none⟩ = false := fun o => blk_frozen (blk_alloc hX6 o) 0
      have Lx1 : ∀ o, (w6.alloc o).cell? ⟨w5.heap.size, 1, none⟩ = some (.int .u8 c2) := fun o => blk_cell (blk_alloc hX6 o) 1
      have Fx1 : ∀ o, (w6.alloc o).frozen? ⟨w5.heap.size, 1, none⟩ = false := fun o => blk_frozen (blk_alloc hX6 o) 1
      have Lx2 : ∀ o, (w6.alloc o).cell? ⟨w5.heap.size, 2, none⟩ = some (.slice A2 m2 k2) := fun o => blk_cell (blk_alloc hX6 o) 2
      have Fx2 : ∀ o, (w6.alloc o).frozen? ⟨w5.heap.size, 2, none⟩ = false := fun o => blk_frozen (blk_alloc hX6 o) 2
      have B6 : ∀ o, (w6.alloc o).cell? ⟨b, 2, none⟩ = some (.bool bad6) := fun o => blk_cell (blk_alloc hr6.1 o) 2
      have Lv0 : ∀ o o', ((w6.alloc o).alloc o').cell? ⟨w.heap.size, 0, none⟩ = some (.int .u8 0) := fun o o' => blk_cell (blk_alloc (blk_alloc hV6 o) o') 0
      have Fv0 : ∀ o o', ((w6.alloc o).alloc o').frozen? ⟨w.heap.size, 0, none⟩ = false := fun o o' => blk_frozen (blk_alloc (blk_alloc hV6 o) o') 0
      have Lv1 : ∀ o o', ((w6.alloc o).alloc o').cell? ⟨w.heap.size, 1, none⟩ = some (.int .u8 0) := fun o o' => blk_cell (blk_alloc (blk_alloc hV6 o) o') 1
      have Fv1 : ∀ o o', ((w6.alloc o).alloc o').frozen? ⟨w.heap.size, 1, none⟩ = false := fun o o' => blk_frozen (blk_alloc (blk_alloc hV6 o) o') 1
      have Lv2 : ∀ o o', ((w6.alloc o).alloc o').cell? ⟨w.heap.size, 2, none⟩ = some (.slice none 0 0) := fun o o' => blk_cell (blk_alloc (blk_alloc hV6 o) o') 2
      have Fv2 : ∀ o o', ((w6.alloc o).alloc o').frozen? ⟨w.heap.size, 2, none⟩ = false := fun o o' => blk_frozen (blk_alloc (blk_alloc hV6 o) o') 2
      clear hV6 hX6 hr6 hk6 hp6 HV5 HX5 HK5
      unfold ndV
      cases bad6 with
      | true =>
        go_wp2
        refine bodyPost_ret (results_single rfl (.cell w.heap.size 45 _ (0, 0) _ rfl (LB.put ((HV6.out.alloc _).alloc _) (c.toNat : Int) (u.toNat : Int) _ 2 2) Try.underlying45 rfl node_info .nil)) rfl ?_
        refine nd_ret HB.out.size HLT.out ((HK6.out.alloc _).alloc _) ((HR6.out.alloc _).alloc _) (c.toNat : Int) (u.toNat : Int) _ 2 2 fun W' hW => .inl ⟨rfl, .inr ?_⟩
        rw [HL.out]
        have s5 := S5.out
        unfold S5l at s5
        rcases s5 with ⟨_, h⟩ | ⟨h0, u, x, r1, r2, e0, eb, e1, e3, e4, e5⟩
        · exact h
        · rcases HP6.out with ⟨_, h | h⟩ | ⟨h, _⟩
          · exact absurd (h.symm.trans h0) (by decide)
          · have hh := HC.out; subst hh; rw [e3] at h; rw [e0]; simp [parse, HQ.out.1, HQ.out.2.1, HQ.out.2.2, eb, e1, h]
          · cases h
      | false =>
        go_wp2_with fail
        refine (is_gen w0 _ b T i6 false 125 125 rfl (HK6.out.alloc _).1 HG.out (HR6.out.alloc _) HT.out).mono ?_
        rintro e w8 ⟨v8, i8, bad8, rfl, hr8, hk8, hp8⟩
        have hbx : b ≠ w6.heap.size := by have := HLT.out; have := HZ6.out; (have := HS2.out; have := HL5.out); omega
        have hV8 := (HV6.out.alloc (.cells #[.int .u8 a6, .int .u8 c6, .slice A6 m6 k6] 45)).keep hk8.2 (by have := HLT.out; omega)
        have hX8 := (HX6.out.alloc (.cells #[.int .u8 a6, .int .u8 c6, .slice A6 m6 k6] 45)).keep hk8.2 (by have := HLT.out; (have := HS2.out; have := HL5.out); omega)
        have hY8 := (LB.new w6 a6 c6 A6 m6 k6).keep hk8.2 hbx.symm
        have HV8 := Aside0.mk hV8
        have HR8 := Aside0.mk hr8
        have HK8 := Aside0.mk ((HK6.out.alloc _).trans hk8)
        have HKC := Aside0.mk hk8.2
        have HP8 := Aside0.mk hp8
        have HZ8 := Aside0.mk (show w6.heap.size < w8.heap.size from blk_lt hY8)
        have Lp0 : w8.cell? ⟨w5.heap.size, 0, none⟩ = some (.int .u8 a2) := blk_cell (hX8) 0
        have Fp0 : w8.frozen? ⟨w5.heap.size, 0, none⟩ = false := blk_frozen (hX8) 0
        have Lp1 : w8.cell? ⟨w5.heap.size, 1, none⟩ = some (.int .u8 c2) := blk_cell (hX8) 1
        have Fp1 : w8.frozen? ⟨w5.heap.size, 1, none⟩ = false := blk_frozen (hX8) 1
        have Lp2 : w8.cell? ⟨w5.heap.size, 2, none⟩ = some (.slice A2 m2 k2) := blk_cell (hX8) 2
        have Fp2 : w8.frozen? ⟨w5.heap.size, 2, none⟩ = false := blk_frozen (hX8) 2
        have Lq0 : w8.cell? ⟨w6.heap.size, 0, none⟩ = some (.int .u8 a6) := blk_cell (hY8) 0
        have Fq0 : w8.frozen? ⟨w6.heap.size, 0, none⟩ = false := blk_frozen (hY8) 0
        have Lq1 : w8.cell? ⟨w6.heap.size, 1, none⟩ = some (.int .u8 c6) := blk_cell (hY8) 1
        have Fq1 : w8.frozen? ⟨w6.heap.size, 1, none⟩ = false := blk_frozen (hY8) 1
        have Lq2 : w8.cell? ⟨w6.heap.size, 2, none⟩ = some (.slice A6 m6 k6) := blk_cell (hY8) 2
        have Fq2 : w8.frozen? ⟨w6.heap.size, 2, none⟩ = false := blk_frozen (hY8) 2
        have Lu0 : ∀ o, (w8.alloc o).cell? ⟨w.heap.size, 0, none⟩ = some (.int .u8 0) := fun o => blk_cell (blk_alloc hV8 o) 0
        have Fu0 : ∀ o, (w8.alloc o).frozen? ⟨w.heap.size, 0, none⟩ = false := fun o => blk_frozen (blk_alloc hV8 o) 0
        have Lu1 : ∀ o, (w8.alloc o).cell? ⟨w.heap.size, 1, none⟩ = some (.int .u8 0) := fun o => blk_cell (blk_alloc hV8 o) 1
        have Fu1 : ∀ o, (w8.alloc o).frozen? ⟨w.heap.size, 1, none⟩ = false := fun o => blk_frozen (blk_alloc hV8 o) 1
        have Lu2 : ∀ o, (w8.alloc o).cell? ⟨w.heap.size, 2, none⟩ = some (.slice none 0 0) := fun o => blk_cell (blk_alloc hV8 o) 2
        have Fu2 : ∀ o, (w8.alloc o).frozen? ⟨w.heap.size, 2, none⟩ = false := fun o => blk_frozen (blk_alloc hV8 o) 2
        clear hV8 hX8 hY8 hr8 hk8 hp8
        clear Lx0 Fx0 Lv0 Fv0 Lx1 Fx1 Lv1 Fv1 Lx2 Fx2 Lv2 Fv2 B6
        go_wp2
        refine bodyPost_ret (results_single rfl (.cell w.heap.size 45 _ (0, 0) _ rfl (LB.put (HV8.out.alloc _) (c.toNat : Int) (u.toNat : Int) _ 2 2) Try.underlying45 rfl node_info .nil)) rfl ?_
        refine nd_ret HB.out.size HLT.out (HK8.out.alloc _) (HR8.out.alloc _) (c.toNat : Int) (u.toNat : Int) _ 2 2 fun W' hW => ?_
        have s5 := S5.out
        unfold S5l at s5
        rcases s5 with ⟨h0, h⟩ | ⟨h0, u, x, r1, r2, e0, eb, e1, e3, e4, e5⟩
        · rcases HP6.out with ⟨h, _⟩ | ⟨_, h, _⟩
          · cases h
          · exact absurd (h0.symm.trans h) (by decide)
        rcases HP6.out with ⟨h, _⟩ | ⟨_, _, y, h2, h3⟩
        · cases h
        rcases HP8.out with ⟨h4, h5⟩ | ⟨h4, _, r8, h5, h6⟩
        · refine .inl ⟨h4, .inr ?_⟩
          rcases h5 with h5 | h5
          · cases h5
          · have hh := HC.out; subst hh; rw [HL.out, e0]; rw [e3] at h2
            cases hz : T.data.toList.drop i6 with
            | nil => rw [hz] at h2; simp [parse, HQ.out.1, HQ.out.2.1, HQ.out.2.2, eb, e1, h2]
            | cons d z =>
              rw [hz] at h2
              have hd : ¬ d = 125 := fun e => h5 z (by rw [hz, e])
              simp [parse, HQ.out.1, HQ.out.2.1, HQ.out.2.2, eb, e1, h2, hd]
        · refine .inr ⟨h4, rfl, .loop c u x y, ?_, w8.heap.size, 2, .int .u8 a2, .int .u8 c2, .slice A2 m2 k2, .int .u8 a6, .int .u8 c6, .slice A6 m6 k6, by (have := HS2.out; have := HL5.out); have := HZ6.out; have := HZ8.out; have := HGX.out; omega, by rw [e4]; rfl, Nat.le_refl _, ?_, ?_, ?_, ?_, ?_, ?_, ?_, ?_⟩
          · have hh := HC.out; subst hh; rw [HL.out, e0]; rw [e3, h5] at h2; simp [parse, HQ.out.1, HQ.out.2.1, HQ.out.2.2, eb, e1, h2, h6]
          iterate 6 exact (World.cell?_of_block (w := w8.alloc _) (hW w8.heap.size (by (have := HS2.out; have := HL5.out); have := HZ6.out; have := HZ8.out; have := HGX.out; omega))).trans (World.cell?_alloc_new _ _ _ _)
          · have hx := e5
            have hx6 := nd_kb HKB.out (by have := HLT.out; have := HS.out; have := HLO.out; have := HL5.out; omega) hx
            have hx8 := nd_kb HKC.out (by have := HLT.out; have := HS.out; have := HLO.out; have := HL5.out; omega) (nd_alloc (.cells #[.int .u8 a6, .int .u8 c6, .slice A6 m6 k6] 45) hx6)
            exact nd_lo (by have := HS.out; have := HLO.out; have := HL5.out; omega) _ _ (nd_blk (fun k h1 h2 => (hW k (by have := HS.out; have := HLO.out; have := HL5.out; omega)).trans (Below.heap_alloc w8 _ k h2)) hx8)
          · have hy8 := nd_kb HKC.out (by have := HLT.out; (have := HS2.out; have := HL5.out); have := HZ5.out; omega) (nd_alloc (.cells #[.int .u8 a6, .int .u8 c6, .slice A6 m6 k6] 45) h3)
            exact nd_lo (by (have := HS2.out; have := HL5.out); have := HZ5.out; omega) _ _ (nd_blk (fun k h1 h2 => (hW k (by (have := HS2.out; have := HL5.out); have := HZ5.out; omega)).trans (Below.heap_alloc w8 _ k h2)) hy8)
end Go.Proofs.YtpklhagedifglaaW.PrintMore
