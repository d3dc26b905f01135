/-
  FnExactInnerOf: the law's walk.
-/
import Derived.Test.YtlakjonnkggomaaIn
import Derived.Test.YtlakjonnkggomaaLvN
namespace Go.Proofs.YtlakjonnkggomaaW.PrintMore
set_option linter.unusedVariables false
set_option linter.unusedSimpArgs false
open Go.Proofs Go.Deep Go.Proofs.Ytlakjonnkggomaa.In
open Go.RowKit Go.Proofs.YtlakjonnkggomaaW.PrintWords Go.Proofs.YtlakjonnkggomaaW.PrintLast Go.Proofs.YtlakjonnkggomaaW.PrintMore
/-- The law's own copy of its argument. -/
def OBA (W : World) (o : Nat) (a b : Value) : Prop := W.heap[o]? = some (.cells #[a, b] 25 (0, 0))
/-- What the functions of the law answer. -/
structure InLaw (k : Nat) (L : List (List Int)) (D : List Int) (left : Int) (xs : List S30) (t : Bool) : Prop where
  sz : laws_szLayout.f k L D 1048576 = some left
  left0 : 0 ≤ left
  tl : laws_toLayout.f k L D = some (L, D)
  sp : spec_InnerOf.f k L D = some (xs, t)
  im : impl_InnerOf.f k L D = some (xs, t)
  eq : laws_eqLayoutS.f k xs xs = some true
  el : laws_eqLayout.f k L D L D = some true
  he : laws_heldLayoutS.f k ((mkLS (xs.map ofS30) 1).map toS30) 1 = some (1 + (preS (xs.map ofS30) (xs.map ofS30).length : Int))
  ll : L.length ≤ 2000000
  sl : szL (L, D) ≤ 2000000000000
  xl : xs.length ≤ 2000000
  xr : ∀ i, ((xs.map ofS30).getD i ([], [])).1.length ≤ 2000000
  xz : preS (xs.map ofS30) (xs.map ofS30).length ≤ 100000000000
set_option maxHeartbeats 32000000 in
set_option maxRecDepth 100000 in
theorem inner_law (k : Nat) (A0 : Option Addr) (c0 : Nat) (L : List (List Int)) (A1 : Option Addr) (c1 : Nat) (D : List Int) (left : Int) (xs : List S30) (t : Bool) (w : World) (h : InLaw k L D left xs t)
    (hr0 : Kd.C (Kd.slice 3 (Kd.int .i64)) w A0 L.length L) (hc0 : L.length ≤ c0) (hr1 : Kd.C (Kd.int .i64) w A1 D.length D) (hc1 : D.length ≤ c1) :
    Calls Try.prog 3 #[.agg #[.slice A0 L.length c0, .slice A1 D.length c1]] w fun e w' => e = .returned (.bool true) ∧ Below w.heap.size w w' := by
  have hul := Try.underlying30
  have hua := Try.underlying25
  have HLW := Aside0.mk h
  have HR0 := Aside0.mk hr0
  have HC0 := Aside0.mk hc0
  have HR1 := Aside0.mk hr1
  have HC1 := Aside0.mk hc1
  obtain ⟨W1, hW1⟩ : ∃ W1, W1 = w.alloc (.cells #[.slice A0 L.length c0, .slice A1 D.length c1] 25) := ⟨_, rfl⟩
  have hb1 : Below w.heap.size w W1 := by rw [hW1]; exact (Below.refl _ w).alloc (Nat.le_refl _) _
  have HB1 := Aside0.mk hb1
  have HW1 := Aside0.mk hW1
  have HO1 := Aside0.mk (show OBA W1 w.heap.size (.slice A0 L.length c0) (.slice A1 D.length c1) from by rw [hW1]; exact blk_new w _)
  have HX1 := Aside0.mk (laws_szLayout.calls k A0 c0 L A1 c1 D 1048576 left W1 (Kd.C_below hr0 hb1) hc0 (Kd.C_below hr1 hb1) hc1 h.sz)
  have hx0 : W1.cell? ⟨w.heap.size, 0, none⟩ = some (.slice A0 L.length c0) := (blk_cell HO1.out 0).trans rfl
  have hx1 : W1.cell? ⟨w.heap.size, 1, none⟩ = some (.slice A1 D.length c1) := (blk_cell HO1.out 1).trans rfl
  have hlf : decide (left < 0) = false := decide_eq_false (by have := h.left0; omega)
  clear h hr0 hc0 hr1 hc1 hb1 hW1
  go_enter Try.func3, Try.ntmps3
  go_upto_region 2 with (fail)
  rw [← HW1.out]
  go_wp2_with fail
  refine HX1.out.mono ?_
  rintro e w2 ⟨rfl, hb⟩
  have HB2 := Aside0.mk (HB1.out.trans (hb.mono HB1.out.size))
  have HO2 := Aside0.mk (show OBA w2 w.heap.size (.slice A0 L.length c0) (.slice A1 D.length c1) from blk_below HO1.out hb)
  clear hb hx0 hx1
  have hx0 : w2.cell? ⟨w.heap.size, 0, none⟩ = some (.slice A0 L.length c0) := (blk_cell HO2.out 0).trans rfl
  have hx1 : w2.cell? ⟨w.heap.size, 1, none⟩ = some (.slice A1 D.length c1) := (blk_cell HO2.out 1).trans rfl
  go_wp2_with fail
  refine (laws_toLayout.calls k A0 c0 L A1 c1 D L D w2 (Kd.C_below HR0.out HB2.out) HC0.out (Kd.C_below HR1.out HB2.out) HC1.out HLW.out.tl).mono ?_
  rintro e w3 ⟨a3, b3, rfl, hS3, hR3, hb3⟩
  have HB3 := Aside0.mk (HB2.out.trans (hb3.mono HB2.out.size))
  have HO3 := Aside0.mk (show OBA w3 w.heap.size (.slice A0 L.length c0) (.slice A1 D.length c1) from blk_below HO2.out hb3)
  obtain ⟨Aa, ca, e1, hla, hCa⟩ := Kd.R_reads (Kd.S_R hS3)
  obtain ⟨Ab, cb, e2, hlb, hCb⟩ := Kd.R_reads hR3
  subst e1
  subst e2
  have HSP := Aside0.mk (spec_InnerOf.calls k Aa ca L Ab cb D xs t w3 hCa hla hCb hlb HLW.out.sp)
  clear hS3 hR3 hb3 hla hCa hlb hCb hx0 hx1
  go_wp2_with fail
  refine HSP.out.mono ?_
  rintro e w4 ⟨v4, rfl, hR4, hb4⟩
  have HB4 := Aside0.mk (HB3.out.trans (hb4.mono HB3.out.size))
  have HO4 := Aside0.mk (show OBA w4 w.heap.size (.slice A0 L.length c0) (.slice A1 D.length c1) from blk_below HO3.out hb4)
  have HBS := Aside0.mk HB3.out.size
  obtain ⟨A4, c4, e4, hl4, hC4⟩ := Kd.R_reads hR4
  subst e4
  have HL4 := Aside0.mk hl4
  have HC4 := Aside0.mk (show Kd.R k30 30 w4 w3.heap.size (fun g => g < w4.heap.size) (.slice A4 xs.length c4) xs from Kd.R_mono (Kd.R_bound hR4) (fun g hg => hg.2.2.1))
  have HBS4 := Aside0.mk HB4.out.size
  clear hR4 hb4 hl4 hC4
  have hx0 : w4.cell? ⟨w.heap.size, 0, none⟩ = some (.slice A0 L.length c0) := (blk_cell HO4.out 0).trans rfl
  have hx1 : w4.cell? ⟨w.heap.size, 1, none⟩ = some (.slice A1 D.length c1) := (blk_cell HO4.out 1).trans rfl
  go_wp2_with fail
  refine (laws_toLayout.calls k A0 c0 L A1 c1 D L D w4 (Kd.C_below HR0.out HB4.out) HC0.out (Kd.C_below HR1.out HB4.out) HC1.out HLW.out.tl).mono ?_
  rintro e w5 ⟨a5, b5, rfl, hS5, hR5, hb5⟩
  have HB5 := Aside0.mk (HB4.out.trans (hb5.mono HB4.out.size))
  have HO5 := Aside0.mk (show OBA w5 w.heap.size (.slice A0 L.length c0) (.slice A1 D.length c1) from blk_below HO4.out hb5)
  have HC45 := Aside0.mk (Kd.R_below HC4.out hb5)
  obtain ⟨Ap, cp, e1, hlp, hCp⟩ := Kd.R_reads (Kd.S_R hS5)
  obtain ⟨Aq, cq, e2, hlq, hCq⟩ := Kd.R_reads hR5
  subst e1
  subst e2
  have HS5 := Aside0.mk (show Kd.R (Kd.slice 3 (Kd.int .i64)) 23 w5 w4.heap.size (fun g => g < w5.heap.size) (.slice Ap L.length cp) L from Kd.R_mono (Kd.R_bound (Kd.S_R hS5)) (fun g hg => hg.2.2.1))
  have HR5 := Aside0.mk (show Kd.R (Kd.int .i64) 3 w5 w4.heap.size (fun g => g < w5.heap.size) (.slice Aq D.length cq) D from Kd.R_mono (Kd.R_bound hR5) (fun g hg => hg.2.2.1))
  have HLP := Aside0.mk hlp
  have HLQ := Aside0.mk hlq
  have HSZ5 := Aside0.mk hb5.size
  clear hS5 hR5 hb5 hlp hCp hlq hCq hx0 hx1
  go_upto_region 7 with (fail)
  have hbA : Below w5.heap.size w5 (w5.alloc (.cells #[.slice Ap L.length cp, .slice Aq D.length cq] 30)) := (Below.refl _ _).alloc (Nat.le_refl _) _
  have HX6 := Aside0.mk (show OBL (w5.alloc (.cells #[.slice Ap L.length cp, .slice Aq D.length cq] 30)) w5.heap.size (.slice Ap L.length cp) (.slice Aq D.length cq) from blk_new w5 _)
  have HB6 := Aside0.mk (HB5.out.trans (hbA.mono HB5.out.size))
  have HO6 := Aside0.mk (show OBA (w5.alloc (.cells #[.slice Ap L.length cp, .slice Aq D.length cq] 30)) w.heap.size (.slice A0 L.length c0) (.slice A1 D.length c1) from blk_below HO5.out hbA)
  have HC46 := Aside0.mk (Kd.R_below HC45.out hbA)
  have HS6 := Aside0.mk (Kd.R_below HS5.out hbA)
  have HR6 := Aside0.mk (Kd.R_below HR5.out hbA)
  have HSZ6 := Aside0.mk (Nat.le_trans HSZ5.out hbA.size)
  obtain ⟨g6, hg6⟩ : ∃ g6, g6 = w5.heap.size := ⟨_, rfl⟩
  have HG6 := Aside0.mk (show w4.heap.size ≤ g6 from by rw [hg6]; exact HSZ5.out)
  have HGL := Aside0.mk (show g6 ≤ (w5.alloc (.cells #[.slice Ap L.length cp, .slice Aq D.length cq] 30)).heap.size from by rw [hg6]; exact hbA.size)
  rw [← hg6] at HX6 HS6 HR6 ⊢
  generalize w5.alloc (.cells #[.slice Ap L.length cp, .slice Aq D.length cq] 30) = W6 at HX6 HB6 HO6 HC46 HS6 HR6 HSZ6 HGL ⊢
  clear hbA hg6 HB5 HO5 HC45 HS5 HR5 HSZ5
  have hx0 : W6.cell? ⟨g6, 0, none⟩ = some (.slice Ap L.length cp) := (blk_cell HX6.out 0).trans rfl
  have hx1 : W6.cell? ⟨g6, 1, none⟩ = some (.slice Aq D.length cq) := (blk_cell HX6.out 1).trans rfl
  go_wp2_with fail
  refine (impl_InnerOf.callsG k Ap cp L Aq cq D xs t W6 (Kd.R_reads' HS6.out).2.2 HLP.out (Kd.R_reads' HR6.out).2.2 HLQ.out HLW.out.im).mono ?_
  rintro e w7 ⟨v7, rfl, hg7, hb7⟩
  have HG7 := Aside0.mk hg7
  have HB7 := Aside0.mk (HB6.out.trans (hb7.mono HB6.out.size))
  have HO7 := Aside0.mk (show OBA w7 w.heap.size (.slice A0 L.length c0) (.slice A1 D.length c1) from blk_below HO6.out hb7)
  have HX7 := Aside0.mk (show OBL w7 g6 (.slice Ap L.length cp) (.slice Aq D.length cq) from blk_below HX6.out hb7)
  have HC47 := Aside0.mk (Kd.R_below HC46.out hb7)
  have HS7 := Aside0.mk (Kd.R_below HS6.out hb7)
  have HR7 := Aside0.mk (Kd.R_below HR6.out hb7)
  have HSZ7 := Aside0.mk (Nat.le_trans HSZ6.out hb7.size)
  obtain ⟨A7, c7, e7, hl7, hC7⟩ := Kd.R_reads (GS_S30 hg7)
  subst e7
  have HL7 := Aside0.mk hl7
  have HEQ := Aside0.mk (laws_eqLayoutS.calls k A7 c7 xs A4 c4 xs true w7 hC7 hl7 (Kd.R_reads' HC47.out).2.2 HL4.out HLW.out.eq)
  clear hg7 hb7 hl7 hC7 hx0 hx1
  have htt : (t == t) = true := beq_self_eq_true _
  go_wp2_with fail
  refine HEQ.out.mono ?_
  rintro e w8 ⟨rfl, hb8⟩
  have HG8 := Aside0.mk (HG7.out.below hb8)
  have HB8 := Aside0.mk (HB7.out.trans (hb8.mono HB7.out.size))
  have HO8 := Aside0.mk (show OBA w8 w.heap.size (.slice A0 L.length c0) (.slice A1 D.length c1) from blk_below HO7.out hb8)
  have HX8 := Aside0.mk (show OBL w8 g6 (.slice Ap L.length cp) (.slice Aq D.length cq) from blk_below HX7.out hb8)
  have HC48 := Aside0.mk (Kd.R_below HC47.out hb8)
  have HS8 := Aside0.mk (Kd.R_below HS7.out hb8)
  have HR8 := Aside0.mk (Kd.R_below HR7.out hb8)
  have HSZ8 := Aside0.mk (Nat.le_trans HSZ7.out hb8.size)
  clear hb8 HG7 HB7 HO7 HX7 HC47 HS7 HR7 HSZ7 HEQ
  have hx0 : w8.cell? ⟨g6, 0, none⟩ = some (.slice Ap L.length cp) := (blk_cell HX8.out 0).trans rfl
  have hx1 : w8.cell? ⟨g6, 1, none⟩ = some (.slice Aq D.length cq) := (blk_cell HX8.out 1).trans rfl
  have hy0 : w8.cell? ⟨w.heap.size, 0, none⟩ = some (.slice A0 L.length c0) := (blk_cell HO8.out 0).trans rfl
  have hy1 : w8.cell? ⟨w.heap.size, 1, none⟩ = some (.slice A1 D.length c1) := (blk_cell HO8.out 1).trans rfl
  go_upto_region 10 with (fail)
  refine start_ (n := 5) (S := fun w' => w'.cell? ⟨g6, 0, none⟩ = some (.slice Ap L.length cp) ∧ w'.cell? ⟨g6, 1, none⟩ = some (.slice Aq D.length cq) ∧ w'.cell? ⟨w.heap.size, 0, none⟩ = some (.slice A0 L.length c0) ∧ w'.cell? ⟨w.heap.size, 1, none⟩ = some (.slice A1 D.length c1)) (ds := []) #[false, false, false, false, false] (by kernel_rfl) rfl rfl ⟨hx0, hx1, hy0, hy1⟩ (fun hHeld => ?_)
  have hbd : Below w8.heap.size w8 w8.drew := below_drew1 (Below.refl _ _)
  have HG9 := Aside0.mk (HG8.out.below hbd)
  have HB9 := Aside0.mk (HB8.out.trans (hbd.mono HB8.out.size))
  have HO9 := Aside0.mk (show OBA w8.drew w.heap.size (.slice A0 L.length c0) (.slice A1 D.length c1) from blk_below HO8.out hbd)
  have HX9 := Aside0.mk (show OBL w8.drew g6 (.slice Ap L.length cp) (.slice Aq D.length cq) from blk_below HX8.out hbd)
  have HC49 := Aside0.mk (Kd.R_below HC48.out hbd)
  have HS9 := Aside0.mk (Kd.R_below HS8.out hbd)
  have HR9 := Aside0.mk (Kd.R_below HR8.out hbd)
  have HSZ9 := Aside0.mk (Nat.le_trans HSZ8.out hbd.size)
  generalize w8.drew = w9 at HG9 HB9 HO9 HX9 HC49 HS9 HR9 HSZ9 hHeld ⊢
  clear hbd HG8 HB8 HO8 HX8 HC48 HS8 HR8 HSZ8 hx0 hx1 hy0 hy1
  refine take_ (i := 0) (N := some 41) (v := ?_) (a' := ?_) #[true, false, false, false, false] rfl rfl (by kernel_rfl) (fun _ _ _ h => h) (Or.inl ⟨by rfl, ?_⟩) hHeld ?_ ?_
  rotate_left
  · rintro w' ⟨s0, s1, s2, s3⟩
    go_simp
    with_reducible rfl
  rotate_left
  · simp only [Act.put, List.setIfInBounds_toArray, List.set_cons_zero, List.set_cons_succ, i64_w, i32_w]
    rfl
  refine take_ (i := 1) (N := some 42) (v := ?_) (a' := ?_) #[true, true, false, false, false] rfl rfl (by kernel_rfl) (fun _ _ _ h => h) (Or.inl ⟨by rfl, ?_⟩) hHeld ?_ ?_
  rotate_left
  · rintro w' ⟨s0, s1, s2, s3⟩
    go_simp
    with_reducible rfl
  rotate_left
  · simp only [Act.put, List.setIfInBounds_toArray, List.set_cons_zero, List.set_cons_succ, i64_w, i32_w]
    rfl
  refine one_ (i := 2) (N := some 43) #[true, true, true, false, false] rfl rfl (by kernel_rfl) (by decide) (fun K hK => ?_)
  refine goes_ Try.func6 (by kernel_rfl) rfl #[.agg #[.slice A0 L.length c0, .slice A1 D.length c1]] (by rfl) rfl rfl (by (try simp only [List.map_toArray, List.map_cons, List.map_nil]); first | done | rfl) ?_
  refine (laws_toLayout.calls k A0 c0 L A1 c1 D L D w9 (Kd.C_below HR0.out HB9.out) HC0.out (Kd.C_below HR1.out HB9.out) HC1.out HLW.out.tl).mono ?_
  rintro e w10 ⟨a10, b10, rfl, hS10, hR10, hb⟩
  refine ⟨_, rfl, ?_⟩
  obtain ⟨Ar, cr, e1, hlr, hCr⟩ := Kd.R_reads (Kd.S_R hS10)
  obtain ⟨As, cs, e2, hls, hCs⟩ := Kd.R_reads hR10
  subst e1
  subst e2
  have HEL := Aside0.mk (laws_eqLayout.calls k Ap cp L Aq cq D Ar cr L As cs D true w10 (Kd.C_below (Kd.R_reads' HS9.out).2.2 hb) HLP.out (Kd.C_below (Kd.R_reads' HR9.out).2.2 hb) HLQ.out hCr hlr hCs hls HLW.out.el)
  clear hS10 hR10 hlr hCr hls hCs
  have HG10 := Aside0.mk (HG9.out.below hb)
  have HB10 := Aside0.mk (HB9.out.trans (hb.mono HB9.out.size))
  have HO10 := Aside0.mk (show OBA w10 w.heap.size (.slice A0 L.length c0) (.slice A1 D.length c1) from blk_below HO9.out hb)
  have HX10 := Aside0.mk (show OBL w10 g6 (.slice Ap L.length cp) (.slice Aq D.length cq) from blk_below HX9.out hb)
  have HC410 := Aside0.mk (Kd.R_below HC49.out hb)
  have HS10 := Aside0.mk (Kd.R_below HS9.out hb)
  have HR10 := Aside0.mk (Kd.R_below HR9.out hb)
  have HSZ10 := Aside0.mk (Nat.le_trans HSZ9.out hb.size)
  refine hK.out _ _ ⟨(blk_cell HX10.out 0).trans rfl, (blk_cell HX10.out 1).trans rfl, (blk_cell HO10.out 0).trans rfl, (blk_cell HO10.out 1).trans rfl⟩ (fun hHeld => ?_)
  clear hK K hb HG9 HB9 HO9 HX9 HC49 HS9 HR9 HSZ9
  refine norm_ (a' := ?_) ?_ ?_
  rotate_left
  · simp only [Act.put, List.setIfInBounds_toArray, List.set_cons_zero, List.set_cons_succ, i64_w, i32_w]
    rfl
  refine one_ (i := 3) (N := some 44) #[true, true, true, true, false] rfl rfl (by kernel_rfl) (by decide) (fun K hK => ?_)
  refine goes_ Try.func9 (by kernel_rfl) rfl #[.agg #[.slice Ap L.length cp, .slice Aq D.length cq], .agg #[.slice Ar L.length cr, .slice As D.length cs]] (by rfl) rfl rfl (by (try simp only [List.map_toArray, List.map_cons, List.map_nil]); first | done | rfl) ?_
  refine HEL.out.mono ?_
  rintro e w11 ⟨rfl, hb⟩
  refine ⟨_, rfl, ?_⟩
  have HG11 := Aside0.mk (HG10.out.below hb)
  have HB11 := Aside0.mk (HB10.out.trans (hb.mono HB10.out.size))
  have HO11 := Aside0.mk (show OBA w11 w.heap.size (.slice A0 L.length c0) (.slice A1 D.length c1) from blk_below HO10.out hb)
  have HX11 := Aside0.mk (show OBL w11 g6 (.slice Ap L.length cp) (.slice Aq D.length cq) from blk_below HX10.out hb)
  have HC411 := Aside0.mk (Kd.R_below HC410.out hb)
  have HS11 := Aside0.mk (Kd.R_below HS10.out hb)
  have HR11 := Aside0.mk (Kd.R_below HR10.out hb)
  have HSZ11 := Aside0.mk (Nat.le_trans HSZ10.out hb.size)
  refine hK.out _ _ ⟨(blk_cell HX11.out 0).trans rfl, (blk_cell HX11.out 1).trans rfl, (blk_cell HO11.out 0).trans rfl, (blk_cell HO11.out 1).trans rfl⟩ (fun hHeld => ?_)
  clear hK K hb HG10 HB10 HO10 HX10 HC410 HS10 HR10 HSZ10
  refine norm_ (a' := ?_) ?_ ?_
  rotate_left
  · simp only [Act.put, List.setIfInBounds_toArray, List.set_cons_zero, List.set_cons_succ, i64_w, i32_w]
    rfl
  refine pure_ (i := 4) (N := some 45) (v := ?_) (a' := ?_) #[true, true, true, true, true] rfl rfl (by kernel_rfl) (fun _ _ _ h => h) (Or.inl ⟨by rfl, ?_⟩) ?_ ?_
  rotate_left
  · intro w'
    go_simp
    with_reducible rfl
  rotate_left
  · simp only [Act.put, List.setIfInBounds_toArray, List.set_cons_zero, List.set_cons_succ, i64_w, i32_w]
    rfl
  refine done_ (by kernel_rfl) ?_
  have hx0 : w11.cell? ⟨g6, 0, none⟩ = some (.slice Ap L.length cp) := (blk_cell HX11.out 0).trans rfl
  have hx1 : w11.cell? ⟨g6, 1, none⟩ = some (.slice Aq D.length cq) := (blk_cell HX11.out 1).trans rfl
  obtain ⟨kk, hkk⟩ : ∃ kk : Int, kk = 1 + (szL (L, D) : Nat) := ⟨_, rfl⟩
  have hkf : decide (kk < 0) = false := decide_eq_false (by omega)
  have HM11 := Aside0.mk (markR_walk w11 w4.heap.size (fun g => g < g6) (fun g => g < g6) _ _ L D 1 HS11.out HR11.out (fun g => w4.heap.size ≤ g ∧ g < g6) (fun g h hb => ⟨hb, h⟩) (fun g h hb => ⟨hb, h⟩) HLW.out.ll (by omega) (by have := HLW.out.sl; omega))
  rw [← hkk] at HM11
  clear hkk
  go_wp2_with fail
  refine HM11.out.mono ?_
  rintro e w12 ⟨rfl, hts⟩
  have HG12 := Aside0.mk (HG11.out.ts hts (fun g h => Nat.lt_of_lt_of_le h.2 HGL.out))
  have HB12 := Aside0.mk (hts.below w.heap.size w HB11.out HB11.out.size (fun g h => Nat.le_trans HBS4.out h.1))
  have HO12 := Aside0.mk (show OBA w12 w.heap.size (.slice A0 L.length c0) (.slice A1 D.length c1) from (hts.keep _ _ _ HO11.out (.inl (by decide))).trans HO11.out)
  have HC412 := Aside0.mk (R_ts HC411.out hts (fun g hq hp => Nat.not_le_of_lt hq hp.1))
  have HEQ := Aside0.mk (laws_eqLayoutS.calls k A7 c7 xs A4 c4 xs true w12 (Kd.R_reads' (GS_S30 HG12.out)).2.2 HL7.out (Kd.R_reads' HC412.out).2.2 HL4.out HLW.out.eq)
  clear hts HG11 HB11 HO11 HX11 HC411 HS11 HR11 HSZ11 HM11 hx0 hx1 HEL
  go_wp2_with fail
  refine HEQ.out.mono ?_
  rintro e w13 ⟨rfl, hb⟩
  have HG13 := Aside0.mk (HG12.out.below hb)
  have HB13 := Aside0.mk (HB12.out.trans (hb.mono HB12.out.size))
  have HO13 := Aside0.mk (show OBA w13 w.heap.size (.slice A0 L.length c0) (.slice A1 D.length c1) from blk_below HO12.out hb)
  have HC413 := Aside0.mk (Kd.R_below HC412.out hb)
  clear hb HG12 HB12 HO12 HC412 HEQ
  obtain ⟨mm, hmm⟩ : ∃ mm : Int, mm = 1 + (preS (xs.map ofS30) (xs.map ofS30).length : Nat) := ⟨_, rfl⟩
  have hmf : decide (mm < 0) = false := decide_eq_false (by omega)
  obtain ⟨ys, hys⟩ : ∃ ys : List S30, ys = (mkLS (xs.map ofS30) 1).map toS30 := ⟨_, rfl⟩
  have hyl : ys.length = xs.length := by rw [hys]; unfold mkLS; rw [List.length_map, List.length_map, List.length_range, List.length_map]
  have hyo : ys.map ofS30 = mkLS (xs.map ofS30) 1 := by rw [hys, ofS30_map]
  have HHE := Aside0.mk (show laws_heldLayoutS.f k ys 1 = some mm from by rw [hys, hmm]; exact HLW.out.he)
  have HM13 := Aside0.mk (markLS_walk w13 W6.heap.size (.slice A7 xs.length c7) (xs.map ofS30) 1 HG13.out (by rw [List.length_map]; exact HLW.out.xl) HLW.out.xr (by omega) (by have := HLW.out.xz; omega))
  rw [← hmm, ← hyo] at HM13
  have HYL := Aside0.mk hyl
  clear hmm hys hyl hyo
  go_wp2_with fail
  refine HM13.out.mono ?_
  rintro e w14 ⟨rfl, hg14, hts⟩
  have HG14 := Aside0.mk hg14
  have HB14 := Aside0.mk (hts.below w.heap.size w HB13.out HB13.out.size (fun g h => Nat.le_trans HBS4.out (Nat.le_trans HG6.out (Nat.le_trans HGL.out h))))
  have HO14 := Aside0.mk (show OBA w14 w.heap.size (.slice A0 L.length c0) (.slice A1 D.length c1) from (hts.keep _ _ _ HO13.out (.inl (by decide))).trans HO13.out)
  have HC414 := Aside0.mk (R_ts HC413.out hts (fun g hq hp => Nat.not_le_of_lt hq (Nat.le_trans HG6.out (Nat.le_trans HGL.out hp))))
  have HHC := Aside0.mk (show Calls Try.prog 12 #[.slice A7 xs.length c7, .int .i64 1] w14 (fun e w' => e = .returned (.int .i64 mm) ∧ Below w14.heap.size w14 w') from by
    have h := laws_heldLayoutS.calls k A7 c7 ys 1 mm w14 (Kd.R_reads' (GS_S30 HG14.out)).2.2 (by rw [HYL.out]; exact HL7.out) HHE.out
    rw [HYL.out] at h
    refine h.mono ?_
    rintro e w' ⟨h1, h2⟩
    exact ⟨h1, h2.below⟩)
  clear hts hg14 HG13 HB13 HO13 HC413 HM13
  go_wp2_with fail
  refine HHC.out.mono ?_
  rintro e w15 ⟨rfl, hb⟩
  have HG15 := Aside0.mk (HG14.out.below hb)
  have HB15 := Aside0.mk (HB14.out.trans (hb.mono HB14.out.size))
  have HO15 := Aside0.mk (show OBA w15 w.heap.size (.slice A0 L.length c0) (.slice A1 D.length c1) from blk_below HO14.out hb)
  have HC415 := Aside0.mk (Kd.R_below HC414.out hb)
  clear hb HG14 HB14 HO14 HC414 HHC
  have hx0 : w15.cell? ⟨w.heap.size, 0, none⟩ = some (.slice A0 L.length c0) := (blk_cell HO15.out 0).trans rfl
  have hx1 : w15.cell? ⟨w.heap.size, 1, none⟩ = some (.slice A1 D.length c1) := (blk_cell HO15.out 1).trans rfl
  go_wp2_with fail
  refine (laws_toLayout.calls k A0 c0 L A1 c1 D L D w15 (Kd.C_below HR0.out HB15.out) HC0.out (Kd.C_below HR1.out HB15.out) HC1.out HLW.out.tl).mono ?_
  rintro e w16 ⟨a16, b16, rfl, hS16, hR16, hb⟩
  have HG16 := Aside0.mk (HG15.out.below hb)
  have HB16 := Aside0.mk (HB15.out.trans (hb.mono HB15.out.size))
  have HC416 := Aside0.mk (Kd.R_below HC415.out hb)
  obtain ⟨Ar, cr, e1, hlr, hCr⟩ := Kd.R_reads (Kd.S_R hS16)
  obtain ⟨As, cs, e2, hls, hCs⟩ := Kd.R_reads hR16
  subst e1
  subst e2
  have HIM := Aside0.mk (impl_InnerOf.calls k Ar cr L As cs D xs t w16 hCr hlr hCs hls HLW.out.im)
  clear hb hS16 hR16 hlr hCr hls hCs HG15 HB15 HO15 HC415 hx0 hx1
  go_wp2_with fail
  refine HIM.out.mono ?_
  rintro e w17 ⟨v17, rfl, hR17, hb⟩
  have HG17 := Aside0.mk (HG16.out.below hb)
  have HB17 := Aside0.mk (HB16.out.trans (hb.mono HB16.out.size))
  have HC417 := Aside0.mk (Kd.R_below HC416.out hb)
  obtain ⟨Ah, ch, e1, hlh, hCh⟩ := Kd.R_reads hR17
  subst e1
  have HEQ := Aside0.mk (laws_eqLayoutS.calls k Ah ch xs A4 c4 xs true w17 hCh hlh (Kd.R_reads' HC417.out).2.2 HL4.out HLW.out.eq)
  clear hb hR17 hlh hCh HG16 HB16 HC416 HIM
  go_wp2_with fail
  refine HEQ.out.mono ?_
  rintro e w18 ⟨rfl, hb⟩
  have HG18 := Aside0.mk (HG17.out.below hb)
  have HB18 := Aside0.mk (HB17.out.trans (hb.mono HB17.out.size))
  have HHC := Aside0.mk (show Calls Try.prog 12 #[.slice A7 xs.length c7, .int .i64 1] w18 (fun e w' => e = .returned (.int .i64 mm) ∧ Below w18.heap.size w18 w') from by
    have h := laws_heldLayoutS.calls k A7 c7 ys 1 mm w18 (Kd.R_reads' (GS_S30 HG18.out)).2.2 (by rw [HYL.out]; exact HL7.out) HHE.out
    rw [HYL.out] at h
    refine h.mono ?_
    rintro e w' ⟨h1, h2⟩
    exact ⟨h1, h2.below⟩)
  clear hb HG17 HB17 HC417 HEQ
  go_wp2_with fail
  refine HHC.out.mono ?_
  rintro e w19 ⟨rfl, hb⟩
  have HB19 := Aside0.mk (HB18.out.trans (hb.mono HB18.out.size))
  clear hb HG18 HB18 HHC
  go_wp2_with fail
  go_ret
  exact ⟨rfl, HB19.out⟩
end Go.Proofs.YtlakjonnkggomaaW.PrintMore
