/-
  FnExactParseLayout: the law's walk.
-/
import Derived.Test.YtlakjonnkggomaaDoorPaE
namespace Go.Proofs.YtlakjonnkggomaaDoorW.PrintMore
set_option linter.unusedVariables false
set_option linter.unusedSimpArgs false
open Go.Proofs Go.Deep Go.Proofs.YtlakjonnkggomaaDoor.Pa
open Go.RowKit Go.Proofs.YtlakjonnkggomaaDoorW.PrintWords Go.Proofs.YtlakjonnkggomaaDoorW.PrintLast Go.Proofs.YtlakjonnkggomaaDoorW.PrintMore
/-- Rows that bear colours, told as the printed functions tell them. -/
theorem LayV.R {W : World} {base i : Nat} {f : Nat → Nat × Nat} {a b : Value} {Ms : List (List Int)} {E : List Int} (h : LayV W base f i a b Ms E) : Kd.R (Kd.slice 3 kI) 23 W base (fun _ => True) a Ms ∧ Kd.R kI 3 W base (fun _ => True) b E := by
  obtain ⟨us, h1, h2, h3⟩ := h
  refine ⟨⟨fun _ _ => trivial, us, h1, h1.1, fun j z hj => ?_⟩, Kd.R_mono h3 (fun _ _ => trivial)⟩
  have hjl : j < Ms.length := (List.getElem?_eq_some_iff.1 hj).1
  obtain ⟨u, hu, hRu⟩ := h2 j hjl
  rw [List.getD_eq_getElem?_getD, hj] at hRu
  refine ⟨u, ?_, Kd.R_mono (Kd.R_bound hRu) (fun k hk => ?_)⟩
  · show (us.drop (j * 1)).take 1 = [u]
    rw [Nat.mul_one]
    have hju : j < us.length := (List.getElem?_eq_some_iff.1 hu).1
    rw [List.drop_eq_getElem_cons hju]
    have : us[j] = u := by rw [List.getElem?_eq_getElem hju] at hu; exact Option.some.inj hu
    rw [this]
    rfl
  · obtain ⟨_, _, _, q, hq, cs, hcs⟩ := hk
    have : q = 3 := by simpa [kI, Kd.int, Kd.scalar] using hq
    subst this
    refine ⟨trivial, fun e => ?_⟩
    obtain ⟨cs', hcs'⟩ := own_typed h1 k e.symm
    exact absurd rfl (ne_tag hcs hcs' (by decide))
/-- What lies below the marks is kept. -/
theorem R_ts {α : Type} {d : Kd α} {e : Nat} {W W' : World} {base : Nat} {P Q : Nat → Prop} {v : Value} {xs : List α} (h : Kd.R d e W base Q v xs) (ht : TS W W' P) (hp : ∀ g, Q g → ¬ P g) : Kd.R d e W' base Q v xs := by
  refine Kd.R_mono (Kd.R_move (Kd.R_bound h) (fun g hg => ?_)) (fun g hg => hg.1)
  obtain ⟨hq, _, _, q, _, cs, hcs⟩ := hg
  exact ht.keep g cs _ hcs (.inr (hp g hq))
/-- What the functions of the law answer. -/
structure PaLaw (k : Nat) (s : ByteArray) (t : Bool) (X : List (List Int)) (Y : List Int) (r : Bool) : Prop where
  lv : impl_LayoutValid.f k (pLs s) (pD s) = some t
  sp : spec_ParseLayout.f k s = some (X, Y, r)
  hX : paL s t = X
  hY : paD s t = Y
  hr : paR s t = r
  el : laws_eqLayout.f k X Y X Y = some true
  he : laws_heldLayout.f k (mkLay X Y 1).1 (mkLay X Y 1).2 1 = some (1 + (szL (X, Y) : Int))
  xl : X.length ≤ 2000000
  sl : szL (X, Y) ≤ 2000000000000
set_option maxHeartbeats 8000000 in
set_option maxRecDepth 100000 in
theorem parse_law_long (s : ByteArray) (w : World) (h : 1048576 < s.size) (hm : s.size ≤ 9223372036854775807) : Calls Tryd.prog 4 #[.string s] w fun e w' => e = .returned (.bool true) ∧ Below w.heap.size w w' := by
  have h1 : (1048576 : Int) < (s.size : Int) := by omega
  have h2 : decide ((s.size : Int) > 1048576) = true := decide_eq_true h1
  have h3 : decide ((1048576 : Int) < (s.size : Int)) = true := decide_eq_true h1
  clear h
  go_enter Tryd.func4, Tryd.ntmps4
  go_wp2_with fail
  go_ret
  exact ⟨rfl, Below.refl _ _⟩
set_option maxHeartbeats 32000000 in
set_option maxRecDepth 100000 in
theorem parse_law (k : Nat) (s : ByteArray) (t : Bool) (X : List (List Int)) (Y : List Int) (r : Bool) (w : World) (h : PaLaw k s t X Y r) (hs : s.size ≤ 1048576) (hT : PaT w) :
    Calls Tryd.prog 4 #[.string s] w fun e w' => e = .returned (.bool true) ∧ Below w.heap.size w w' := by
  have hul := Tryd.underlying28
  have HLW := Aside0.mk h
  have HS := Aside0.mk hs
  have HT := Aside0.mk hT
  have HSP := Aside0.mk (spec_ParseLayout.calls k s X Y r w h.sp)
  have hg1 : ¬ (1048576 : Int) < (s.size : Int) := by omega
  have hg2 : decide ((s.size : Int) > 1048576) = false := decide_eq_false hg1
  have hg3 : decide ((1048576 : Int) < (s.size : Int)) = false := decide_eq_false hg1
  clear h hs hT
  go_enter Tryd.func4, Tryd.ntmps4
  go_wp2_with fail
  refine HSP.out.mono ?_
  rintro e w2 ⟨v0, v1, rfl, hS2, hR2, hb2⟩
  obtain ⟨Aa, ca, e1, hla, hCa⟩ := Kd.R_reads (Kd.S_R hS2)
  obtain ⟨Ab, cb, e2, hlb, hCb⟩ := Kd.R_reads hR2
  subst e1
  subst e2
  have HB2 := Aside0.mk hb2
  have HS2 := Aside0.mk (show Kd.R (Kd.slice 3 (Kd.int .i64)) 23 w2 w.heap.size (fun g => g < w2.heap.size) (.slice Aa X.length ca) X from Kd.R_mono (Kd.R_bound (Kd.S_R hS2)) (fun g hg => hg.2.2.1))
  have HR2 := Aside0.mk (show Kd.R (Kd.int .i64) 3 w2 w.heap.size (fun g => g < w2.heap.size) (.slice Ab Y.length cb) Y from Kd.R_mono (Kd.R_bound hR2) (fun g hg => hg.2.2.1))
  have HLA := Aside0.mk hla
  have HLB := Aside0.mk hlb
  clear hS2 hR2 hb2 hla hlb hCa hCb HSP hg1 hg2 hg3
  go_upto_region 4 with (fail)
  have hbA : Below w2.heap.size w2 (w2.alloc (.cells #[.slice Aa X.length ca, .slice Ab Y.length cb] 28)) := (Below.refl _ _).alloc (Nat.le_refl _) _
  have HX3 := Aside0.mk (show OBL (w2.alloc (.cells #[.slice Aa X.length ca, .slice Ab Y.length cb] 28)) w2.heap.size (.slice Aa X.length ca) (.slice Ab Y.length cb) from blk_new w2 _)
  have HB3 := Aside0.mk (HB2.out.trans (hbA.mono HB2.out.size))
  have HS3 := Aside0.mk (Kd.R_below HS2.out hbA)
  have HR3 := Aside0.mk (Kd.R_below HR2.out hbA)
  have HGG := Aside0.mk hbA.size
  obtain ⟨g3, hg3⟩ : ∃ g3, g3 = w2.heap.size := ⟨_, rfl⟩
  rw [← hg3] at HX3 HS3 HR3 HGG ⊢
  generalize w2.alloc (.cells #[.slice Aa X.length ca, .slice Ab Y.length cb] 28) = W3 at HX3 HB3 HS3 HR3 HGG ⊢
  clear hbA hg3 HB2 HS2 HR2
  have HPW := Aside0.mk (parse_walk k W3 s t HS.out (HT.out.keep HB3.out (Nat.le_refl _)) HLW.out.lv)
  go_wp2_with fail
  refine HPW.out.mono ?_
  rintro e w4 ⟨a, b, f, rfl, hlv, hb⟩
  rw [HLW.out.hX, HLW.out.hY] at hlv
  rw [HLW.out.hr]
  have hLR := hlv.R
  obtain ⟨Ap, cp, e1, hlp, hCp⟩ := Kd.R_reads hLR.1
  obtain ⟨Aq, cq, e2, hlq, hCq⟩ := Kd.R_reads hLR.2
  subst e1
  subst e2
  have HV4 := Aside0.mk hlv
  have HB4 := Aside0.mk (HB3.out.trans (hb.mono HB3.out.size))
  have HX4 := Aside0.mk (show OBL w4 g3 (.slice Aa X.length ca) (.slice Ab Y.length cb) from blk_below HX3.out hb)
  have HS4 := Aside0.mk (Kd.R_below HS3.out hb)
  have HR4 := Aside0.mk (Kd.R_below HR3.out hb)
  have HLP := Aside0.mk hlp
  have HLQ := Aside0.mk hlq
  have HBW := Aside0.mk HB3.out.size
  clear hlv hLR hlp hlq hCp hCq hb HPW HB3 HX3 HS3 HR3
  go_upto_region 5 with (fail)
  have hbB : Below w4.heap.size w4 (w4.alloc (.cells #[.slice Ap X.length cp, .slice Aq Y.length cq] 28)) := (Below.refl _ _).alloc (Nat.le_refl _) _
  have HZ5 := Aside0.mk (show OBL (w4.alloc (.cells #[.slice Ap X.length cp, .slice Aq Y.length cq] 28)) w4.heap.size (.slice Ap X.length cp) (.slice Aq Y.length cq) from blk_new w4 _)
  have HB5 := Aside0.mk (HB4.out.trans (hbB.mono HB4.out.size))
  have HX5 := Aside0.mk (show OBL (w4.alloc (.cells #[.slice Ap X.length cp, .slice Aq Y.length cq] 28)) g3 (.slice Aa X.length ca) (.slice Ab Y.length cb) from blk_below HX4.out hbB)
  have HS5 := Aside0.mk (Kd.R_below HS4.out hbB)
  have HR5 := Aside0.mk (Kd.R_below HR4.out hbB)
  have HV5 := Aside0.mk (HV4.out.keep (W' := w4.alloc (.cells #[.slice Ap X.length cp, .slice Aq Y.length cq] 28)) (fun k cs t hk _ => hbB.block k (blk_lt hk)))
  obtain ⟨g5, hg5⟩ : ∃ g5, g5 = w4.heap.size := ⟨_, rfl⟩
  rw [← hg5] at HZ5 ⊢
  generalize w4.alloc (.cells #[.slice Ap X.length cp, .slice Aq Y.length cq] 28) = W5 at HZ5 HB5 HX5 HS5 HR5 HV5 ⊢
  clear hbB hg5 HB4 HX4 HS4 HR4 HV4
  have hx0 : W5.cell? ⟨g3, 0, none⟩ = some (.slice Aa X.length ca) := (blk_cell HX5.out 0).trans rfl
  have hx1 : W5.cell? ⟨g3, 1, none⟩ = some (.slice Ab Y.length cb) := (blk_cell HX5.out 1).trans rfl
  have hz0 : W5.cell? ⟨g5, 0, none⟩ = some (.slice Ap X.length cp) := (blk_cell HZ5.out 0).trans rfl
  have hz1 : W5.cell? ⟨g5, 1, none⟩ = some (.slice Aq Y.length cq) := (blk_cell HZ5.out 1).trans rfl
  have HEQ := Aside0.mk (laws_eqLayout.calls k Ap cp X Aq cq Y Aa ca X Ab cb Y true W5 (Kd.R_reads' HV5.out.R.1).2.2 HLP.out (Kd.R_reads' HV5.out.R.2).2.2 HLQ.out (Kd.R_reads' HS5.out).2.2 HLA.out (Kd.R_reads' HR5.out).2.2 HLB.out HLW.out.el)
  have htt : (r == r) = true := beq_self_eq_true _
  go_wp2_with fail
  refine HEQ.out.mono ?_
  rintro e w6 ⟨rfl, hb⟩
  have HZ6 := Aside0.mk (show OBL w6 g5 (.slice Ap X.length cp) (.slice Aq Y.length cq) from blk_below HZ5.out hb)
  have HB6 := Aside0.mk (HB5.out.trans (hb.mono HB5.out.size))
  have HX6 := Aside0.mk (show OBL w6 g3 (.slice Aa X.length ca) (.slice Ab Y.length cb) from blk_below HX5.out hb)
  have HS6 := Aside0.mk (Kd.R_below HS5.out hb)
  have HR6 := Aside0.mk (Kd.R_below HR5.out hb)
  have HV6 := Aside0.mk (HV5.out.keep (fun k cs t hk _ => hb.block k (blk_lt hk)))
  clear hb HEQ HZ5 HB5 HX5 HS5 HR5 HV5 hx0 hx1 hz0 hz1
  obtain ⟨mm, hmm⟩ : ∃ mm : Int, mm = 1 + (szL (X, Y) : Nat) := ⟨_, rfl⟩
  have hmf : decide (mm < 0) = false := decide_eq_false (by omega)
  have hmq : (mm == mm) = true := beq_self_eq_true _
  have HM6 := Aside0.mk (markLV_walk w6 W3.heap.size 0 f (.slice Ap X.length cp) (.slice Aq Y.length cq) X Y 1 HV6.out HLW.out.xl (by omega) (by have := HLW.out.sl; omega))
  rw [← hmm] at HM6
  have HHE := Aside0.mk (show laws_heldLayout.f k (mkLay X Y 1).1 (mkLay X Y 1).2 1 = some mm from by rw [hmm]; exact HLW.out.he)
  obtain ⟨M1, hM1⟩ : ∃ M1, M1 = (mkLay X Y 1).1 := ⟨_, rfl⟩
  obtain ⟨M2, hM2⟩ : ∃ M2, M2 = (mkLay X Y 1).2 := ⟨_, rfl⟩
  have HL1 := Aside0.mk (show M1.length = X.length from by rw [hM1]; unfold mkLay; rw [List.length_map, List.length_range])
  have HL2 := Aside0.mk (show M2.length = Y.length from by rw [hM2]; exact marks_len _ _)
  rw [← hM1, ← hM2] at HM6 HHE
  clear hmm hM1 hM2
  have hz0 : w6.cell? ⟨g5, 0, none⟩ = some (.slice Ap X.length cp) := (blk_cell HZ6.out 0).trans rfl
  have hz1 : w6.cell? ⟨g5, 1, none⟩ = some (.slice Aq Y.length cq) := (blk_cell HZ6.out 1).trans rfl
  go_wp2_with fail
  refine HM6.out.mono ?_
  rintro e w7 ⟨rfl, hlv, hts⟩
  have HV7 := Aside0.mk hlv
  have HB7 := Aside0.mk (hts.below w.heap.size w HB6.out HB6.out.size (fun g h => Nat.le_trans HBW.out h))
  have HZ7 := Aside0.mk (show OBL w7 g5 (.slice Ap X.length cp) (.slice Aq Y.length cq) from (hts.keep _ _ _ HZ6.out (.inl (by decide))).trans HZ6.out)
  have HX7 := Aside0.mk (show OBL w7 g3 (.slice Aa X.length ca) (.slice Ab Y.length cb) from (hts.keep _ _ _ HX6.out (.inl (by decide))).trans HX6.out)
  have HS7 := Aside0.mk (R_ts HS6.out hts (fun g hq hp => Nat.not_le_of_lt hq (Nat.le_trans HGG.out hp)))
  have HR7 := Aside0.mk (R_ts HR6.out hts (fun g hq hp => Nat.not_le_of_lt hq (Nat.le_trans HGG.out hp)))
  have HHC := Aside0.mk (show Calls Tryd.prog 14 #[.agg #[.slice Ap X.length cp, .slice Aq Y.length cq], .int .i64 1] w7 (fun e w' => e = .returned (.int .i64 mm) ∧ Below w7.heap.size w7 w') from by
    have h := laws_heldLayout.calls k Ap cp M1 Aq cq M2 1 mm w7 (Kd.R_reads' HV7.out.R.1).2.2 (by rw [HL1.out]; exact HLP.out) (Kd.R_reads' HV7.out.R.2).2.2 (by rw [HL2.out]; exact HLQ.out) HHE.out
    rw [HL1.out, HL2.out] at h
    exact h)
  clear hlv hts HV6 HB6 HZ6 HX6 HS6 HR6 HM6 hz0 hz1
  have hz0 : w7.cell? ⟨g5, 0, none⟩ = some (.slice Ap X.length cp) := (blk_cell HZ7.out 0).trans rfl
  have hz1 : w7.cell? ⟨g5, 1, none⟩ = some (.slice Aq Y.length cq) := (blk_cell HZ7.out 1).trans rfl
  go_wp2_with fail
  refine HHC.out.mono ?_
  rintro e w8 ⟨rfl, hb⟩
  have HZ8 := Aside0.mk (show OBL w8 g5 (.slice Ap X.length cp) (.slice Aq Y.length cq) from blk_below HZ7.out hb)
  have HB8 := Aside0.mk (HB7.out.trans (hb.mono HB7.out.size))
  have HX8 := Aside0.mk (show OBL w8 g3 (.slice Aa X.length ca) (.slice Ab Y.length cb) from blk_below HX7.out hb)
  have HS8 := Aside0.mk (Kd.R_below HS7.out hb)
  have HR8 := Aside0.mk (Kd.R_below HR7.out hb)
  have HV8 := Aside0.mk (HV7.out.keep (fun k cs t hk _ => hb.block k (blk_lt hk)))
  have HPW := Aside0.mk (parse_walk k w8 s t HS.out (HT.out.keep HB8.out (Nat.le_refl _)) HLW.out.lv)
  clear hb HHC HZ7 HB7 HX7 HS7 HR7 HV7 hz0 hz1
  go_wp2_with fail
  refine HPW.out.mono ?_
  rintro e w9 ⟨a, b, f9, rfl, hlv, hb⟩
  rw [HLW.out.hX, HLW.out.hY] at hlv
  rw [HLW.out.hr]
  have hLR := hlv.R
  obtain ⟨Ar, cr, e1, hlr, hCr⟩ := Kd.R_reads hLR.1
  obtain ⟨As, cs, e2, hls, hCs⟩ := Kd.R_reads hLR.2
  subst e1
  subst e2
  have HN9 := Aside0.mk hLR
  have HZ9 := Aside0.mk (show OBL w9 g5 (.slice Ap X.length cp) (.slice Aq Y.length cq) from blk_below HZ8.out hb)
  have HB9 := Aside0.mk (HB8.out.trans (hb.mono HB8.out.size))
  have HX9 := Aside0.mk (show OBL w9 g3 (.slice Aa X.length ca) (.slice Ab Y.length cb) from blk_below HX8.out hb)
  have HS9 := Aside0.mk (Kd.R_below HS8.out hb)
  have HR9 := Aside0.mk (Kd.R_below HR8.out hb)
  have HV9 := Aside0.mk (HV8.out.keep (fun k cs t hk _ => hb.block k (blk_lt hk)))
  have HLR' := Aside0.mk hlr
  have HLS' := Aside0.mk hls
  clear hlv hLR hlr hls hCr hCs hb HPW HZ8 HB8 HX8 HS8 HR8 HV8
  go_upto_region 16 with (fail)
  have hbC : Below w9.heap.size w9 (w9.alloc (.cells #[.slice Ar X.length cr, .slice As Y.length cs] 28)) := (Below.refl _ _).alloc (Nat.le_refl _) _
  have HY10 := Aside0.mk (show OBL (w9.alloc (.cells #[.slice Ar X.length cr, .slice As Y.length cs] 28)) w9.heap.size (.slice Ar X.length cr) (.slice As Y.length cs) from blk_new w9 _)
  have HZ10 := Aside0.mk (show OBL (w9.alloc (.cells #[.slice Ar X.length cr, .slice As Y.length cs] 28)) g5 (.slice Ap X.length cp) (.slice Aq Y.length cq) from blk_below HZ9.out hbC)
  have HB10 := Aside0.mk (HB9.out.trans (hbC.mono HB9.out.size))
  have HX10 := Aside0.mk (show OBL (w9.alloc (.cells #[.slice Ar X.length cr, .slice As Y.length cs] 28)) g3 (.slice Aa X.length ca) (.slice Ab Y.length cb) from blk_below HX9.out hbC)
  have HS10 := Aside0.mk (Kd.R_below HS9.out hbC)
  have HR10 := Aside0.mk (Kd.R_below HR9.out hbC)
  have HN10 := Aside0.mk (And.intro (Kd.R_below HN9.out.1 hbC) (Kd.R_below HN9.out.2 hbC))
  have HV10 := Aside0.mk (HV9.out.keep (W' := w9.alloc (.cells #[.slice Ar X.length cr, .slice As Y.length cs] 28)) (fun k cs t hk _ => hbC.block k (blk_lt hk)))
  obtain ⟨g9, hg9⟩ : ∃ g9, g9 = w9.heap.size := ⟨_, rfl⟩
  rw [← hg9] at HY10 ⊢
  generalize w9.alloc (.cells #[.slice Ar X.length cr, .slice As Y.length cs] 28) = W10 at HY10 HZ10 HB10 HX10 HS10 HR10 HN10 HV10 ⊢
  clear hbC hg9 HZ9 HB9 HX9 HS9 HR9 HN9 HV9
  have hx0 : W10.cell? ⟨g3, 0, none⟩ = some (.slice Aa X.length ca) := (blk_cell HX10.out 0).trans rfl
  have hx1 : W10.cell? ⟨g3, 1, none⟩ = some (.slice Ab Y.length cb) := (blk_cell HX10.out 1).trans rfl
  have hy0 : W10.cell? ⟨g9, 0, none⟩ = some (.slice Ar X.length cr) := (blk_cell HY10.out 0).trans rfl
  have hy1 : W10.cell? ⟨g9, 1, none⟩ = some (.slice As Y.length cs) := (blk_cell HY10.out 1).trans rfl
  have HEQ := Aside0.mk (laws_eqLayout.calls k Ar cr X As cs Y Aa ca X Ab cb Y true W10 (Kd.R_reads' HN10.out.1).2.2 HLR'.out (Kd.R_reads' HN10.out.2).2.2 HLS'.out (Kd.R_reads' HS10.out).2.2 HLA.out (Kd.R_reads' HR10.out).2.2 HLB.out HLW.out.el)
  go_wp2_with fail
  refine HEQ.out.mono ?_
  rintro e w11 ⟨rfl, hb⟩
  have HZ11 := Aside0.mk (show OBL w11 g5 (.slice Ap X.length cp) (.slice Aq Y.length cq) from blk_below HZ10.out hb)
  have HB11 := Aside0.mk (HB10.out.trans (hb.mono HB10.out.size))
  have HV11 := Aside0.mk (HV10.out.keep (fun k cs t hk _ => hb.block k (blk_lt hk)))
  have HHC := Aside0.mk (show Calls Tryd.prog 14 #[.agg #[.slice Ap X.length cp, .slice Aq Y.length cq], .int .i64 1] w11 (fun e w' => e = .returned (.int .i64 mm) ∧ Below w11.heap.size w11 w') from by
    have h := laws_heldLayout.calls k Ap cp M1 Aq cq M2 1 mm w11 (Kd.R_reads' HV11.out.R.1).2.2 (by rw [HL1.out]; exact HLP.out) (Kd.R_reads' HV11.out.R.2).2.2 (by rw [HL2.out]; exact HLQ.out) HHE.out
    rw [HL1.out, HL2.out] at h
    exact h)
  clear hb HEQ HY10 HZ10 HB10 HX10 HS10 HR10 HN10 HV10 hx0 hx1 hy0 hy1
  have hz0 : w11.cell? ⟨g5, 0, none⟩ = some (.slice Ap X.length cp) := (blk_cell HZ11.out 0).trans rfl
  have hz1 : w11.cell? ⟨g5, 1, none⟩ = some (.slice Aq Y.length cq) := (blk_cell HZ11.out 1).trans rfl
  go_wp2_with fail
  refine HHC.out.mono ?_
  rintro e w12 ⟨rfl, hb⟩
  have HB12 := Aside0.mk (HB11.out.trans (hb.mono HB11.out.size))
  clear hb HHC hz0 hz1
  go_wp2_with fail
  go_ret
  exact ⟨rfl, HB12.out⟩
end Go.Proofs.YtlakjonnkggomaaDoorW.PrintMore
