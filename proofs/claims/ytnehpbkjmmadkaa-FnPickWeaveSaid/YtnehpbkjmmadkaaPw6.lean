-- Written for this claim by a program (wip/hyb/hyb.py).
import Derived.Test.YtnehpbkjmmadkaaPw0
import Derived.Test.YtnehpbkjmmadkaaPw1
import Derived.Test.YtnehpbkjmmadkaaPw2
import Derived.Test.YtnehpbkjmmadkaaPw4
namespace Go.Proofs.Ytnehpbkjmmadkaa.Pw
open Go.RowKit Go.Proofs.YtnehpbkjmmadkaaW.PrintWords Go.Proofs.YtnehpbkjmmadkaaW.PrintLast Go.Proofs.YtnehpbkjmmadkaaW.PrintMore
attribute [local go_sem] max2_int min2_int max_two min_two max_three min_three max_four min_four   -- for this text's walks alone
set_option linter.unusedVariables false
set_option linter.unusedSimpArgs false

/-! ### spec_DrawWeaveData: function 47 -/
def spec_DrawWeaveData.l0 : Nat → List Int → List Int → List Int → Int → Int → List Int → Int → Option (List Int × List Int × List Int)
  | 0, _, _, _, _, _, _, _ => none
  | k + 1, x6, x7, x8, x16, x17, x20004000, x20004001 => if x17 < x16 then ((spec_l13Rd_num.f k x20004000 x20004001 (([1, 0, 3, 0] : List Int))).bind fun bt20018 => (if x6.length < 17592186044416 then ((some (x6 ++ [bt20018.1] : List Int)).bind fun y20020 => (if bt20018.1 = 0 then ((spec_l13Rd_pick.f k x20004000 bt20018.2 100).bind fun bt20023 => (if x8.length < 17592186044416 then (spec_DrawWeaveData.l0 k y20020 x7 (x8 ++ [bt20023.1]) x16 (wrap64 (x17 + 1)) x20004000 bt20023.2) else (none))) else ((spec_l13Rd_pick.f k x20004000 bt20018.2 100).bind fun bt20028 => (if x7.length < 17592186044416 then (spec_DrawWeaveData.l0 k y20020 (x7 ++ [bt20028.1]) x8 x16 (wrap64 (x17 + 1)) x20004000 bt20028.2) else (none))))) else (none))) else ((spec_l13Rd_pick.f k x20004000 x20004001 10).bind fun bt20033 => (if bt20033.1 = 0 then ((spec_l13Rd_num.f k x20004000 bt20033.2 (([1, (-1)] : List Int))).bind fun bt20038 => (if x7.length < 17592186044416 then (some (x6, (x7 ++ [bt20038.1]), x8)) else (none))) else (some (x6, x7, x8))))
def spec_DrawWeaveData.f (k : Nat) (l0 : List Int) : Option (List Int × List Int × List Int) := (spec_l13Open.f l0).bind fun bt20001 => ((spec_l13Rd_pick.f k bt20001.1 bt20001.2 8).bind fun bt20013 => (spec_DrawWeaveData.l0 k (([] : List Int)) (([] : List Int)) (([] : List Int)) bt20013.1 0 bt20001.1 bt20013.2))
theorem spec_DrawWeaveData.mono_l : ∀ k, (∀ y0 y1 y2 y3 y4 y5 y6, LeO (spec_DrawWeaveData.l0 k y0 y1 y2 y3 y4 y5 y6) (spec_DrawWeaveData.l0 (k + 1) y0 y1 y2 y3 y4 y5 y6))
  | 0 => fun _ _ _ _ _ _ _ r h => by simp [spec_DrawWeaveData.l0] at h
  | k + 1 => by
    have ih0 := spec_DrawWeaveData.mono_l k
    · intro y0 y1 y2 y3 y4 y5 y6
      unfold spec_DrawWeaveData.l0
      repeat' first
      | (with_reducible exact ih0 _ _ _ _ _ _ _)
      | (with_reducible exact spec_l13Rd_num.mono _ _ _ _)
      | (with_reducible exact spec_l13Rd_pick.mono _ _ _ _)
      | (with_reducible exact LeO.refl _)
      | (with_reducible exact LeO.none _)
      | (with_reducible refine LeO.ite ?_ ?_)
      | (with_reducible refine LeO.bind ?_ (fun _ => ?_))
      | exact ih0 _ _ _ _ _ _ _
      | exact spec_l13Rd_num.mono _ _ _ _
      | exact spec_l13Rd_pick.mono _ _ _ _
      | exact LeO.none _
      | refine LeO.ite ?_ ?_
      | refine LeO.bind ?_ (fun _ => ?_)
theorem spec_DrawWeaveData.mono : ∀ a0 k, LeO (spec_DrawWeaveData.f k a0) (spec_DrawWeaveData.f (k + 1) a0) := by
  intro a0 k
  have ih0 := spec_DrawWeaveData.mono_l k
  unfold spec_DrawWeaveData.f
  repeat' first
      | (with_reducible exact ih0 _ _ _ _ _ _ _)
      | (with_reducible exact spec_l13Rd_num.mono _ _ _ _)
      | (with_reducible exact spec_l13Rd_pick.mono _ _ _ _)
      | (with_reducible exact LeO.refl _)
      | (with_reducible exact LeO.none _)
      | (with_reducible refine LeO.ite ?_ ?_)
      | (with_reducible refine LeO.bind ?_ (fun _ => ?_))
      | exact ih0 _ _ _ _ _ _ _
      | exact spec_l13Rd_num.mono _ _ _ _
      | exact spec_l13Rd_pick.mono _ _ _ _
      | exact LeO.none _
      | refine LeO.ite ?_ ?_
      | refine LeO.bind ?_ (fun _ => ?_)
set_option maxHeartbeats 8000000 in
set_option maxRecDepth 100000 in
theorem spec_DrawWeaveData.calls (k : Nat) (A0 : Option Addr) (c0 : Nat) (l0 : List Int) (r1 : List Int) (r2 : List Int) (r3 : List Int) (w : World) (hr0 : Kd.C (Kd.int .u8) w A0 l0.length l0) (hc0 : l0.length ≤ c0) (h : spec_DrawWeaveData.f k l0 = some (r1, r2, r3)) :
    Calls Try.prog 47 #[.slice A0 l0.length c0] w fun e w' => ∃ v0_ v1_ v2_ : Value, e = .returned (.tuple #[v0_, v1_, v2_]) ∧ Kd.R (Kd.int .i64) 3 w' w.heap.size (fun k_ => some k_ ≠ (v1_ : Value).ownBlock ∧ some k_ ≠ (v2_ : Value).ownBlock) v0_ r1 ∧ Kd.R (Kd.int .i64) 3 w' w.heap.size (fun k_ => some k_ ≠ (v0_ : Value).ownBlock ∧ some k_ ≠ (v2_ : Value).ownBlock) v1_ r2 ∧ Kd.R (Kd.int .i64) 3 w' w.heap.size (fun k_ => some k_ ≠ (v0_ : Value).ownBlock ∧ some k_ ≠ (v1_ : Value).ownBlock) v2_ r3 ∧ Below w.heap.size w w' := by
  have HR0 := Aside0.mk hr0
  have HC0 := Aside0.mk hc0
  clear hr0 hc0
  have HB := Aside0.mk (Below.refl w.heap.size w)
  have H : ((spec_l13Open.f l0).bind fun bt20001 => ((spec_l13Rd_pick.f k bt20001.1 bt20001.2 8).bind fun bt20013 => (spec_DrawWeaveData.l0 k (([] : List Int)) (([] : List Int)) (([] : List Int)) bt20013.1 0 bt20001.1 bt20013.2))) = some (r1, r2, r3) := h
  clear h
  replace H := Option.bind_eq_some_iff.mp H
  obtain ⟨⟨t20001, t20002⟩, A20, H⟩ := H
  replace H : ((spec_l13Rd_pick.f k t20001 t20002 8).bind fun bt20013 => (spec_DrawWeaveData.l0 k (([] : List Int)) (([] : List Int)) (([] : List Int)) bt20013.1 0 t20001 bt20013.2)) = some (r1, r2, r3) := H
  have A2 := Aside0.mk A20
  clear A20
  obtain ⟨y20004, hy20004⟩ : ∃ y_ : List Int, y_ = (([] : List Int)) := ⟨_, rfl⟩
  replace H : ((spec_l13Rd_pick.f k t20001 t20002 8).bind fun bt20013 => (spec_DrawWeaveData.l0 k y20004 (([] : List Int)) (([] : List Int)) bt20013.1 0 t20001 bt20013.2)) = some (r1, r2, r3) := by first | (rw [hy20004]; with_reducible exact H) | (have H2_ := (Option.bind_some _ _).symm.trans H; rw [hy20004]; with_reducible exact H2_) | (have H2_ := (Option.bind_some _ _).symm.trans H; with_reducible exact H2_) | with_reducible exact H | (rw [hy20004]; exact H) | exact H
  have Ny20004 := Aside0.mk hy20004
  clear hy20004
  obtain ⟨y20007, hy20007⟩ : ∃ y_ : List Int, y_ = (([] : List Int)) := ⟨_, rfl⟩
  replace H : ((spec_l13Rd_pick.f k t20001 t20002 8).bind fun bt20013 => (spec_DrawWeaveData.l0 k y20004 y20007 (([] : List Int)) bt20013.1 0 t20001 bt20013.2)) = some (r1, r2, r3) := by first | (rw [hy20007]; with_reducible exact H) | (have H2_ := (Option.bind_some _ _).symm.trans H; rw [hy20007]; with_reducible exact H2_) | (have H2_ := (Option.bind_some _ _).symm.trans H; with_reducible exact H2_) | with_reducible exact H | (rw [hy20007]; exact H) | exact H
  have Ny20007 := Aside0.mk hy20007
  clear hy20007
  obtain ⟨y20010, hy20010⟩ : ∃ y_ : List Int, y_ = (([] : List Int)) := ⟨_, rfl⟩
  replace H : ((spec_l13Rd_pick.f k t20001 t20002 8).bind fun bt20013 => (spec_DrawWeaveData.l0 k y20004 y20007 y20010 bt20013.1 0 t20001 bt20013.2)) = some (r1, r2, r3) := by first | (rw [hy20010]; with_reducible exact H) | (have H2_ := (Option.bind_some _ _).symm.trans H; rw [hy20010]; with_reducible exact H2_) | (have H2_ := (Option.bind_some _ _).symm.trans H; with_reducible exact H2_) | with_reducible exact H | (rw [hy20010]; exact H) | exact H
  have Ny20010 := Aside0.mk hy20010
  clear hy20010
  replace H := Option.bind_eq_some_iff.mp H
  obtain ⟨⟨t20013, t20014⟩, A30, H⟩ := H
  replace H : (spec_DrawWeaveData.l0 k y20004 y20007 y20010 t20013 0 t20001 t20014) = some (r1, r2, r3) := H
  have A3 := Aside0.mk A30
  clear A30
  have H' := Aside0.mk H
  clear H
  go_enter Try.func47, Try.ntmps47
  go_wp2_with (first | ((with_reducible refine gate_callee (f := 64) rfl ?_); refine goesL_ (some 11) rfl rfl Try.func64 (by kernel_rfl) rfl #[.slice A0 l0.length c0] rfl (by (try simp only [List.map_toArray, List.map_cons, List.map_nil]); first | done | rfl | (simp only [List.length_drop, List.length_take]; rfl)) ?_; (with_reducible refine (spec_l13Open.calls _ _ l0 t20001 t20002 w _ ?side1 ?side2 ?side3 A2.out).mono ?_); (case side1 => repeat (first | (with_reducible first | exact HB.out | apply below_alloc | apply pw_below_drewN | apply below_drew1) | exact HB.out)); (case side2 => exact HR0.out); (case side3 => exact HC0.out); rintro e w4 ⟨g20003, rfl, hi, hb, hb2⟩; refine ⟨_, rfl, ?_⟩; have n0_ := Aside0.mk (hb); have n1_ := Aside0.mk (hi); clear HB; have HB := n0_; have HI20003 := n1_; clear n0_ n1_; (try clear hb); (try clear hb2); (try clear hk); (try clear hi)) | ((with_reducible refine gate_dst (N := 12) rfl ?_); refine Kd.R_lit (Kd.int .i64) _ 3 ?hg (N := 12) ?hd (xs := ([] : List Int)) (inner := []) (ok := fun _ => True) (okp := fun _ => True) ?hr ?hp (fun _ hk => hk) trivial (Below.refl _ _) (Nat.le_refl _) (by simp) ?_; (case hd => rfl); (case hg => rfl); (case hr => first | (go_simp; done) | (go_simp; rfl)); (case hp => exact (Reps.none _ _)); intro v20005 w5 ho6 hb hg_ hnew_; clear hg_ hnew_; (first | rw [← Ny20004.out] at ho6 | (simp only [Int.reduceToNat] at ho6; rw [← Ny20004.out] at ho6)); have n0_ := Aside0.mk (Kd.R_lower ho6 (below_size (by repeat (first | (with_reducible first | exact HB.out | apply below_alloc | apply pw_below_drewN | apply below_drew1 | refine below_set ?_ (IsS65.ge HI20003.out)) | exact HB.out)))); have n1_ := Aside0.mk (IsS65.below (by repeat (first | (with_reducible first | exact HI20003.out | apply IsS65.alloc | apply IsS65.drewN | apply IsS65.drew | apply IsS65.set_1) | exact HI20003.out)) hb); have n2_ := Aside0.mk (below_step (by repeat (first | (with_reducible first | exact HB.out | apply below_alloc | apply pw_below_drewN | apply below_drew1 | refine below_set ?_ (IsS65.ge HI20003.out)) | exact HB.out)) hb); clear HI20003; clear HB; have HO20006 := n0_; have HI20003 := n1_; have HB := n2_; clear n0_ n1_ n2_; clear hb ho6) | ((with_reducible refine gate_dst (N := 13) rfl ?_); refine Kd.R_lit (Kd.int .i64) _ 3 ?hg (N := 13) ?hd (xs := ([] : List Int)) (inner := []) (ok := fun _ => True) (okp := fun _ => True) ?hr ?hp (fun _ hk => hk) trivial (Below.refl _ _) (Nat.le_refl _) (by simp) ?_; (case hd => rfl); (case hg => rfl); (case hr => first | (go_simp; done) | (go_simp; rfl)); (case hp => exact (Reps.none _ _)); intro v20008 w7 ho8 hb hg_ hnew_; clear hg_ hnew_; (first | rw [← Ny20007.out] at ho8 | (simp only [Int.reduceToNat] at ho8; rw [← Ny20007.out] at ho8)); have n0_ := Aside0.mk (Kd.R_elder' (by (with_reducible repeat (first | apply Kd.R_alloc | apply Kd.R_drewN | apply Kd.R_drew)); exact HO20006.out) (Kd.R_base ho8) hb); have n1_ := Aside0.mk (Kd.R_lower (Kd.R_new' ho8 (Kd.R_lt (by (with_reducible repeat (first | apply Kd.R_alloc | apply Kd.R_drewN | apply Kd.R_drew)); exact HO20006.out))) (below_size (by repeat (first | (with_reducible first | exact HB.out | apply below_alloc | apply pw_below_drewN | apply below_drew1 | refine below_set ?_ (IsS65.ge HI20003.out)) | exact HB.out)))); have n2_ := Aside0.mk (IsS65.below (by repeat (first | (with_reducible first | exact HI20003.out | apply IsS65.alloc | apply IsS65.drewN | apply IsS65.drew | apply IsS65.set_1) | exact HI20003.out)) hb); have n3_ := Aside0.mk (below_step (by repeat (first | (with_reducible first | exact HB.out | apply below_alloc | apply pw_below_drewN | apply below_drew1 | refine below_set ?_ (IsS65.ge HI20003.out)) | exact HB.out)) hb); clear HO20006; clear HI20003; clear HB; have HO20006 := n0_; have HO20009 := n1_; have HI20003 := n2_; have HB := n3_; clear n0_ n1_ n2_ n3_; clear hb ho8) | ((with_reducible refine gate_dst (N := 14) rfl ?_); refine Kd.R_lit (Kd.int .i64) _ 3 ?hg (N := 14) ?hd (xs := ([] : List Int)) (inner := []) (ok := fun _ => True) (okp := fun _ => True) ?hr ?hp (fun _ hk => hk) trivial (Below.refl _ _) (Nat.le_refl _) (by simp) ?_; (case hd => rfl); (case hg => rfl); (case hr => first | (go_simp; done) | (go_simp; rfl)); (case hp => exact (Reps.none _ _)); intro v20011 w9 ho10 hb hg_ hnew_; clear hg_ hnew_; (first | rw [← Ny20010.out] at ho10 | (simp only [Int.reduceToNat] at ho10; rw [← Ny20010.out] at ho10)); have n0_ := Aside0.mk (Kd.R_elder' (by (with_reducible repeat (first | apply Kd.R_alloc | apply Kd.R_drewN | apply Kd.R_drew)); exact HO20006.out) (Kd.R_base ho10) hb); have n1_ := Aside0.mk (Kd.R_elder' (by (with_reducible repeat (first | apply Kd.R_alloc | apply Kd.R_drewN | apply Kd.R_drew)); exact HO20009.out) (Kd.R_base ho10) hb); have n2_ := Aside0.mk (Kd.R_lower (Kd.R_new' (Kd.R_new' ho10 (Kd.R_lt (by (with_reducible repeat (first | apply Kd.R_alloc | apply Kd.R_drewN | apply Kd.R_drew)); exact HO20006.out))) (Kd.R_lt (by (with_reducible repeat (first | apply Kd.R_alloc | apply Kd.R_drewN | apply Kd.R_drew)); exact HO20009.out))) (below_size (by repeat (first | (with_reducible first | exact HB.out | apply below_alloc | apply pw_below_drewN | apply below_drew1 | refine below_set ?_ (IsS65.ge HI20003.out)) | exact HB.out)))); have n3_ := Aside0.mk (IsS65.below (by repeat (first | (with_reducible first | exact HI20003.out | apply IsS65.alloc | apply IsS65.drewN | apply IsS65.drew | apply IsS65.set_1) | exact HI20003.out)) hb); have n4_ := Aside0.mk (below_step (by repeat (first | (with_reducible first | exact HB.out | apply below_alloc | apply pw_below_drewN | apply below_drew1 | refine below_set ?_ (IsS65.ge HI20003.out)) | exact HB.out)) hb); clear HO20006; clear HO20009; clear HI20003; clear HB; have HO20006 := n0_; have HO20009 := n1_; have HO20012 := n2_; have HI20003 := n3_; have HB := n4_; clear n0_ n1_ n2_ n3_ n4_; clear hb ho10) | ((with_reducible refine gate_callee (f := 65) rfl ?_); refine goesL_ (some 16) rfl rfl Try.func65 (by kernel_rfl) rfl #[.pointer (some ⟨g20003, 0, none⟩), .int .i64 8] rfl (by (try simp only [List.map_toArray, List.map_cons, List.map_nil]); first | done | rfl | (simp only [List.length_drop, List.length_take]; rfl)) ?_; (with_reducible refine (spec_l13Rd_pick.calls k g20003 t20001 t20002 8 t20013 t20014 w _ ?side1 ?side2 A3.out).mono ?_); (case side1 => repeat (first | (with_reducible first | exact HI20003.out | apply IsS65.alloc | apply IsS65.drewN | apply IsS65.drew | apply IsS65.set_1) | exact HI20003.out)); (case side2 => repeat (first | (with_reducible first | exact HB.out | apply below_alloc | apply pw_below_drewN | apply below_drew1 | refine below_set ?_ (IsS65.ge HI20003.out)) | exact HB.out)); rintro e w11 ⟨rfl, hi, hb, hk⟩; refine ⟨_, rfl, ?_⟩; have n0_ := Aside0.mk (Kd.R_mono (Kd.R_keep (IsS65.apart (show IsS65 w _ g20003 t20001 t20002 from by repeat (first | (with_reducible first | exact HI20003.out | apply IsS65.alloc | apply IsS65.drewN | apply IsS65.drew | apply IsS65.set_1) | exact HI20003.out)) (by (with_reducible repeat (first | apply Kd.R_alloc | apply Kd.R_drewN | apply Kd.R_drew)); exact HO20006.out) (by decide)) hk (fun _ h => h.2)) (fun _ h => h.1)); have n1_ := Aside0.mk (Kd.R_mono (Kd.R_keep (IsS65.apart (show IsS65 w _ g20003 t20001 t20002 from by repeat (first | (with_reducible first | exact HI20003.out | apply IsS65.alloc | apply IsS65.drewN | apply IsS65.drew | apply IsS65.set_1) | exact HI20003.out)) (by (with_reducible repeat (first | apply Kd.R_alloc | apply Kd.R_drewN | apply Kd.R_drew)); exact HO20009.out) (by decide)) hk (fun _ h => h.2)) (fun _ h => h.1)); have n2_ := Aside0.mk (Kd.R_mono (Kd.R_keep (IsS65.apart (show IsS65 w _ g20003 t20001 t20002 from by repeat (first | (with_reducible first | exact HI20003.out | apply IsS65.alloc | apply IsS65.drewN | apply IsS65.drew | apply IsS65.set_1) | exact HI20003.out)) (by (with_reducible repeat (first | apply Kd.R_alloc | apply Kd.R_drewN | apply Kd.R_drew)); exact HO20012.out) (by decide)) hk (fun _ h => h.2)) (fun _ h => h.1)); have n3_ := Aside0.mk (hb); have n4_ := Aside0.mk (hi); clear HO20006; clear HO20009; clear HO20012; clear HB; clear HI20003; have HO20006 := n0_; have HO20009 := n1_; have HO20012 := n2_; have HB := n3_; have HI20003 := n4_; clear n0_ n1_ n2_ n3_ n4_; (try clear hb); (try clear hb2); (try clear hk); (try clear hi)))
  go_loopg [6, 7, 8, 17] k (fun kq v6 v7 v8 v17 w' => ∃ (x6_1 : List Int) (x7_1 : List Int) (x8_1 : List Int) (x17_1 : Int) (x20004001_1 : Int), v17 = .int .i64 x17_1 ∧ Aside0 (spec_DrawWeaveData.l0 kq x6_1 x7_1 x8_1 t20013 x17_1 t20001 x20004001_1 = some (r1, r2, r3)) ∧ Aside0 (kq ≤ k) ∧ Aside0 (Kd.R (Kd.int .i64) 3 w' w.heap.size (fun k_ => some k_ ≠ (v7 : Value).ownBlock ∧ some k_ ≠ (v8 : Value).ownBlock) v6 x6_1) ∧ Aside0 (Kd.R (Kd.int .i64) 3 w' w.heap.size (fun k_ => some k_ ≠ (v6 : Value).ownBlock ∧ some k_ ≠ (v8 : Value).ownBlock) v7 x7_1) ∧ Aside0 (Kd.R (Kd.int .i64) 3 w' w.heap.size (fun k_ => some k_ ≠ (v6 : Value).ownBlock ∧ some k_ ≠ (v7 : Value).ownBlock) v8 x8_1) ∧ Aside0 (IsS65 w w' g20003 t20001 x20004001_1) ∧ Aside0 (Below w.heap.size w w'))
  case atStart => exact ⟨(y20004), (y20007), (y20010), (0), (t20014), (by first | rfl | (simp; done) | (simp [*]; done)), H', ⟨Nat.le_refl _⟩, ⟨by (with_reducible repeat (first | apply Kd.R_alloc | apply Kd.R_drewN | apply Kd.R_drew)); exact Kd.R_mono HO20006.out (fun _ hk => ⟨hk.1.2, hk.2⟩)⟩, ⟨by (with_reducible repeat (first | apply Kd.R_alloc | apply Kd.R_drewN | apply Kd.R_drew)); exact Kd.R_mono HO20009.out (fun _ hk => ⟨hk.1.2, hk.2⟩)⟩, ⟨by (with_reducible repeat (first | apply Kd.R_alloc | apply Kd.R_drewN | apply Kd.R_drew)); exact Kd.R_mono HO20012.out (fun _ hk => ⟨hk.1.2, hk.2⟩)⟩, ⟨by repeat (first | (with_reducible first | exact HI20003.out | apply IsS65.alloc | apply IsS65.drewN | apply IsS65.drew | apply IsS65.set_1) | exact HI20003.out)⟩, ⟨by repeat (first | (with_reducible first | exact HB.out | apply below_alloc | apply pw_below_drewN | apply below_drew1 | refine below_set ?_ (IsS65.ge HI20003.out)) | exact HB.out)⟩⟩
  case round =>
    clear H'
    try clear p2
    try clear c4
    try clear c6
    obtain ⟨x6_1, x7_1, x8_1, x17_1, x20004001_1, rfl, HA, HK1, HO_6, HO_7, HO_8, HI20003, HB⟩ := hrel
    cases gk with
    | zero => exact absurd HA.out (by simp [spec_DrawWeaveData.l0])
    | succ k1 =>
      have H := HA.out
      clear HA
      simp only [spec_DrawWeaveData.l0] at H
      by_cases c12 : x17_1 < t20013
      · rw [if_pos c12] at H
        have c12b0 : decide (x17_1 < t20013) = true := decide_eq_true c12
        clear c12
        obtain ⟨y20015, hy20015⟩ : ∃ y_ : List Int, y_ = (([1, 0, 3, 0] : List Int)) := ⟨_, rfl⟩
        replace H : ((spec_l13Rd_num.f k1 t20001 x20004001_1 y20015).bind fun bt20018 => (if x6_1.length < 17592186044416 then ((some (x6_1 ++ [bt20018.1] : List Int)).bind fun y20020 => (if bt20018.1 = 0 then ((spec_l13Rd_pick.f k1 t20001 bt20018.2 100).bind fun bt20023 => (if x8_1.length < 17592186044416 then (spec_DrawWeaveData.l0 k1 y20020 x7_1 (x8_1 ++ [bt20023.1]) t20013 (wrap64 (x17_1 + 1)) t20001 bt20023.2) else (none))) else ((spec_l13Rd_pick.f k1 t20001 bt20018.2 100).bind fun bt20028 => (if x7_1.length < 17592186044416 then (spec_DrawWeaveData.l0 k1 y20020 (x7_1 ++ [bt20028.1]) x8_1 t20013 (wrap64 (x17_1 + 1)) t20001 bt20028.2) else (none))))) else (none))) = some (r1, r2, r3) := by first | (rw [hy20015]; with_reducible exact H) | (have H2_ := (Option.bind_some _ _).symm.trans H; rw [hy20015]; with_reducible exact H2_) | (have H2_ := (Option.bind_some _ _).symm.trans H; with_reducible exact H2_) | with_reducible exact H | (rw [hy20015]; exact H) | exact H
        have Ny20015 := Aside0.mk hy20015
        clear hy20015
        replace H := Option.bind_eq_some_iff.mp H
        obtain ⟨⟨t20018, t20019⟩, A130, H⟩ := H
        replace H : (if x6_1.length < 17592186044416 then ((some (x6_1 ++ [t20018] : List Int)).bind fun y20020 => (if t20018 = 0 then ((spec_l13Rd_pick.f k1 t20001 t20019 100).bind fun bt20023 => (if x8_1.length < 17592186044416 then (spec_DrawWeaveData.l0 k1 y20020 x7_1 (x8_1 ++ [bt20023.1]) t20013 (wrap64 (x17_1 + 1)) t20001 bt20023.2) else (none))) else ((spec_l13Rd_pick.f k1 t20001 t20019 100).bind fun bt20028 => (if x7_1.length < 17592186044416 then (spec_DrawWeaveData.l0 k1 y20020 (x7_1 ++ [bt20028.1]) x8_1 t20013 (wrap64 (x17_1 + 1)) t20001 bt20028.2) else (none))))) else (none)) = some (r1, r2, r3) := H
        have A13 := Aside0.mk A130
        clear A130
        by_cases c14 : x6_1.length < 17592186044416
        · rw [if_pos c14] at H
          have LMc14 := Aside0.mk c14
          clear c14
          obtain ⟨y20020, hy20020⟩ : ∃ y_ : List Int, y_ = (x6_1 ++ [t20018]) := ⟨_, rfl⟩
          replace H : (if t20018 = 0 then ((spec_l13Rd_pick.f k1 t20001 t20019 100).bind fun bt20023 => (if x8_1.length < 17592186044416 then (spec_DrawWeaveData.l0 k1 y20020 x7_1 (x8_1 ++ [bt20023.1]) t20013 (wrap64 (x17_1 + 1)) t20001 bt20023.2) else (none))) else ((spec_l13Rd_pick.f k1 t20001 t20019 100).bind fun bt20028 => (if x7_1.length < 17592186044416 then (spec_DrawWeaveData.l0 k1 y20020 (x7_1 ++ [bt20028.1]) x8_1 t20013 (wrap64 (x17_1 + 1)) t20001 bt20028.2) else (none)))) = some (r1, r2, r3) := by first | (rw [hy20020]; with_reducible exact H) | (have H2_ := (Option.bind_some _ _).symm.trans H; rw [hy20020]; with_reducible exact H2_) | (have H2_ := (Option.bind_some _ _).symm.trans H; with_reducible exact H2_) | with_reducible exact H | (rw [hy20020]; exact H) | exact H
          have Ny20020 := Aside0.mk hy20020
          clear hy20020
          by_cases c15 : t20018 = 0
          · rw [if_pos c15] at H
            have c15b0 : (t20018 == 0) = true := beq_iff_eq.mpr c15
            have c15b1 : (t20018 != 0) = false := bne_eq_false_iff_eq.mpr c15
            clear c15
            replace H := Option.bind_eq_some_iff.mp H
            obtain ⟨⟨t20023, t20024⟩, A160, H⟩ := H
            replace H : (if x8_1.length < 17592186044416 then (spec_DrawWeaveData.l0 k1 y20020 x7_1 (x8_1 ++ [t20023]) t20013 (wrap64 (x17_1 + 1)) t20001 t20024) else (none)) = some (r1, r2, r3) := H
            have A16 := Aside0.mk A160
            clear A160
            by_cases c17 : x8_1.length < 17592186044416
            · rw [if_pos c17] at H
              have LMc17 := Aside0.mk c17
              clear c17
              obtain ⟨y20025, hy20025⟩ : ∃ y_ : List Int, y_ = (x8_1 ++ [t20023]) := ⟨_, rfl⟩
              replace H : (spec_DrawWeaveData.l0 k1 y20020 x7_1 y20025 t20013 (wrap64 (x17_1 + 1)) t20001 t20024) = some (r1, r2, r3) := by first | (rw [hy20025]; with_reducible exact H) | (have H2_ := (Option.bind_some _ _).symm.trans H; rw [hy20025]; with_reducible exact H2_) | (have H2_ := (Option.bind_some _ _).symm.trans H; with_reducible exact H2_) | with_reducible exact H | (rw [hy20025]; exact H) | exact H
              have Ny20025 := Aside0.mk hy20025
              clear hy20025
              have H' := Aside0.mk H
              clear H
              go_wp2_with (first | ((with_reducible refine gate_dst (N := 20) rfl ?_); refine Kd.R_lit (Kd.int .i64) _ 3 ?hg (N := 20) ?hd (xs := ([1, 0, 3, 0] : List Int)) (inner := [.int .i64 1, .int .i64 0, .int .i64 3, .int .i64 0]) (ok := fun _ => True) (okp := fun _ => True) ?hr ?hp (fun _ hk => hk) trivial (Below.refl _ _) (Nat.le_refl _) (by simp) ?_; (case hd => rfl); (case hg => rfl); (case hr => first | (go_simp; done) | (go_simp; rfl)); (case hp => exact (Reps.one (show Kd.M (Kd.int .i64) _ _ _ 1 [.int .i64 1] from rfl) (Reps.one (show Kd.M (Kd.int .i64) _ _ _ 0 [.int .i64 0] from rfl) (Reps.one (show Kd.M (Kd.int .i64) _ _ _ 3 [.int .i64 3] from rfl) (Reps.one (show Kd.M (Kd.int .i64) _ _ _ 0 [.int .i64 0] from rfl) (Reps.none _ _)))))); intro v20016 w18 ho19 hb hg_ hnew_; clear hg_ hnew_; (first | rw [← Ny20015.out] at ho19 | (simp only [Int.reduceToNat] at ho19; rw [← Ny20015.out] at ho19)); have n0_ := Aside0.mk (Kd.R_elder' (by (with_reducible repeat (first | apply Kd.R_alloc | apply Kd.R_drewN | apply Kd.R_drew)); exact HO_6.out) (Kd.R_base ho19) hb); have n1_ := Aside0.mk (Kd.R_elder' (by (with_reducible repeat (first | apply Kd.R_alloc | apply Kd.R_drewN | apply Kd.R_drew)); exact HO_7.out) (Kd.R_base ho19) hb); have n2_ := Aside0.mk (Kd.R_elder' (by (with_reducible repeat (first | apply Kd.R_alloc | apply Kd.R_drewN | apply Kd.R_drew)); exact HO_8.out) (Kd.R_base ho19) hb); have n3_ := Aside0.mk (Kd.R_lower (Kd.R_new' (Kd.R_new' (Kd.R_new' ho19 (Kd.R_lt (by (with_reducible repeat (first | apply Kd.R_alloc | apply Kd.R_drewN | apply Kd.R_drew)); exact HO_6.out))) (Kd.R_lt (by (with_reducible repeat (first | apply Kd.R_alloc | apply Kd.R_drewN | apply Kd.R_drew)); exact HO_7.out))) (Kd.R_lt (by (with_reducible repeat (first | apply Kd.R_alloc | apply Kd.R_drewN | apply Kd.R_drew)); exact HO_8.out))) (below_size (by repeat (first | (with_reducible first | exact HB.out | apply below_alloc | apply pw_below_drewN | apply below_drew1 | refine below_set ?_ (IsS65.ge HI20003.out)) | exact HB.out)))); have n4_ := Aside0.mk (IsS65.below (by repeat (first | (with_reducible first | exact HI20003.out | apply IsS65.alloc | apply IsS65.drewN | apply IsS65.drew | apply IsS65.set_1) | exact HI20003.out)) hb); have n5_ := Aside0.mk (below_step (by repeat (first | (with_reducible first | exact HB.out | apply below_alloc | apply pw_below_drewN | apply below_drew1 | refine below_set ?_ (IsS65.ge HI20003.out)) | exact HB.out)) hb); clear HO_6; clear HO_7; clear HO_8; clear HI20003; clear HB; have HO_6 := n0_; have HO_7 := n1_; have HO_8 := n2_; have HO20017 := n3_; have HI20003 := n4_; have HB := n5_; clear n0_ n1_ n2_ n3_ n4_ n5_; clear hb ho19; obtain ⟨Ao20, co20, eo20⟩ := Kd.R_slice HO20017.out; subst eo20) | ((with_reducible refine gate_callee (f := 66) rfl ?_); refine goesL_ (some 21) rfl rfl Try.func66 (by kernel_rfl) rfl #[.pointer (some ⟨g20003, 0, none⟩), .slice Ao20 y20015.length co20] rfl (by (try simp only [List.map_toArray, List.map_cons, List.map_nil]); first | done | rfl | (simp only [List.length_drop, List.length_take]; rfl)) ?_; (with_reducible refine (spec_l13Rd_num.calls k1 g20003 t20001 x20004001_1 _ _ y20015 t20018 t20019 w _ ?side1 ?side2 ?side3 ?side4 ?side5 A13.out).mono ?_); (case side1 => repeat (first | (with_reducible first | exact HI20003.out | apply IsS65.alloc | apply IsS65.drewN | apply IsS65.drew | apply IsS65.set_1) | exact HI20003.out)); (case side2 => repeat (first | (with_reducible first | exact HB.out | apply below_alloc | apply pw_below_drewN | apply below_drew1 | refine below_set ?_ (IsS65.ge HI20003.out)) | exact HB.out)); (case side3 => repeat (first | exact (Kd.R_reads' HO20017.out).2.2 | (with_reducible refine Kd.C_alloc ?_ _) | (with_reducible refine Kd.C_drewN ?_ _) | (with_reducible refine Kd.C_drew ?_))); (case side4 => exact (Kd.R_reads' HO20017.out).2.1); (case side5 => exact far_slice (IsS65.own_ne HI20003.out HO20017.out (by decide))); rintro e w21 ⟨rfl, hi, hb, hk⟩; refine ⟨_, rfl, ?_⟩; have n0_ := Aside0.mk (Kd.R_mono (Kd.R_keep (IsS65.apart (show IsS65 w _ g20003 t20001 x20004001_1 from by repeat (first | (with_reducible first | exact HI20003.out | apply IsS65.alloc | apply IsS65.drewN | apply IsS65.drew | apply IsS65.set_1) | exact HI20003.out)) (by (with_reducible repeat (first | apply Kd.R_alloc | apply Kd.R_drewN | apply Kd.R_drew)); exact HO_6.out) (by decide)) hk (fun _ h => h.2)) (fun _ h => h.1)); have n1_ := Aside0.mk (Kd.R_mono (Kd.R_keep (IsS65.apart (show IsS65 w _ g20003 t20001 x20004001_1 from by repeat (first | (with_reducible first | exact HI20003.out | apply IsS65.alloc | apply IsS65.drewN | apply IsS65.drew | apply IsS65.set_1) | exact HI20003.out)) (by (with_reducible repeat (first | apply Kd.R_alloc | apply Kd.R_drewN | apply Kd.R_drew)); exact HO_7.out) (by decide)) hk (fun _ h => h.2)) (fun _ h => h.1)); have n2_ := Aside0.mk (Kd.R_mono (Kd.R_keep (IsS65.apart (show IsS65 w _ g20003 t20001 x20004001_1 from by repeat (first | (with_reducible first | exact HI20003.out | apply IsS65.alloc | apply IsS65.drewN | apply IsS65.drew | apply IsS65.set_1) | exact HI20003.out)) (by (with_reducible repeat (first | apply Kd.R_alloc | apply Kd.R_drewN | apply Kd.R_drew)); exact HO_8.out) (by decide)) hk (fun _ h => h.2)) (fun _ h => h.1)); have n3_ := Aside0.mk (Kd.R_mono (Kd.R_keep (IsS65.apart (show IsS65 w _ g20003 t20001 x20004001_1 from by repeat (first | (with_reducible first | exact HI20003.out | apply IsS65.alloc | apply IsS65.drewN | apply IsS65.drew | apply IsS65.set_1) | exact HI20003.out)) (by (with_reducible repeat (first | apply Kd.R_alloc | apply Kd.R_drewN | apply Kd.R_drew)); exact HO20017.out) (by decide)) hk (fun _ h => h.2)) (fun _ h => h.1)); have n4_ := Aside0.mk (hb); have n5_ := Aside0.mk (hi); clear HO_6; clear HO_7; clear HO_8; clear HO20017; clear HB; clear HI20003; have HO_6 := n0_; have HO_7 := n1_; have HO_8 := n2_; have HO20017 := n3_; have HB := n4_; have HI20003 := n5_; clear n0_ n1_ n2_ n3_ n4_ n5_; (try clear hb); (try clear hb2); (try clear hk); (try clear hi)) | ((with_reducible refine gate_builtin (b := .append) (xs := #[.tmp 22, .tmp 24]) rfl ?_); at_builtin; refine Kd.R_append (Kd.int .i64) (w0 := w) w.heap.size rfl (.tmp 22) (.tmp 24) 22 3 (.int .i64 0) 8 rfl Try.underlying22 info3 rfl (by decide) (by omega) u6 x6_1 t20018 [.int .i64 t20018] (fun k_ => some k_ ≠ (u7 : Value).ownBlock ∧ some k_ ≠ (u8 : Value).ownBlock ∧ some k_ ≠ (.slice Ao20 y20015.length co20 : Value).ownBlock) (fun _ => False) rfl rfl ?aP (fun _ hk => hk.elim) ?aF ?aO ?aB ?aS ?aL ?_; (case aP => exact rfl); (case aB => exact (by repeat (first | (with_reducible first | exact HB.out | apply below_alloc | apply pw_below_drewN | apply below_drew1 | refine below_set ?_ (IsS65.ge HI20003.out)) | exact HB.out))); (case aF => exact (fun k_ hk => ⟨Kd.fresh' (Kd.R_lt (by (with_reducible repeat (first | apply Kd.R_alloc | apply Kd.R_drewN | apply Kd.R_drew)); exact HO_7.out)) k_ hk, Kd.fresh' (Kd.R_lt (by (with_reducible repeat (first | apply Kd.R_alloc | apply Kd.R_drewN | apply Kd.R_drew)); exact HO_8.out)) k_ hk, Kd.fresh' (Kd.R_lt (by (with_reducible repeat (first | apply Kd.R_alloc | apply Kd.R_drewN | apply Kd.R_drew)); exact HO20017.out)) k_ hk⟩)); (case aO => exact (by (with_reducible repeat (first | apply Kd.R_alloc | apply Kd.R_drewN | apply Kd.R_drew)); exact Kd.R_mono HO_6.out (fun _ hk => ⟨hk.1.1, ⟨hk.1.2, hk.2⟩⟩))); (case aS => exact (below_size (by repeat (first | (with_reducible first | exact HB.out | apply below_alloc | apply pw_below_drewN | apply below_drew1 | refine below_set ?_ (IsS65.ge HI20003.out)) | exact HB.out)))); (case aL => have := LMc14.out; omega); intro v20021 w22 ho hb hg hat; rw [← Ny20020.out] at ho; have n0_ := Aside0.mk (Kd.R_after (ok := (fun k_ => some k_ ≠ (u8 : Value).ownBlock ∧ some k_ ≠ (.slice Ao20 y20015.length co20 : Value).ownBlock)) (by (with_reducible repeat (first | apply Kd.R_alloc | apply Kd.R_drewN | apply Kd.R_drew)); exact Kd.R_mono HO_7.out (fun _ hk => ⟨⟨hk.1.2, hk.2⟩, hk.1.1⟩)) hg hat); have n1_ := Aside0.mk (Kd.R_after (ok := (fun k_ => some k_ ≠ (u7 : Value).ownBlock ∧ some k_ ≠ (.slice Ao20 y20015.length co20 : Value).ownBlock)) (by (with_reducible repeat (first | apply Kd.R_alloc | apply Kd.R_drewN | apply Kd.R_drew)); exact Kd.R_mono HO_8.out (fun _ hk => ⟨⟨hk.1.2, hk.2⟩, hk.1.1⟩)) hg hat); have n2_ := Aside0.mk (IsS65.grown (by repeat (first | (with_reducible first | exact HI20003.out | apply IsS65.alloc | apply IsS65.drewN | apply IsS65.drew | apply IsS65.set_1) | exact HI20003.out)) hg (IsS65.own_ne HI20003.out HO_6.out (by decide))); have n3_ := Aside0.mk (Kd.R_after (ok := (fun k_ => some k_ ≠ (u7 : Value).ownBlock ∧ some k_ ≠ (u8 : Value).ownBlock)) (by (with_reducible repeat (first | apply Kd.R_alloc | apply Kd.R_drewN | apply Kd.R_drew)); exact Kd.R_mono HO20017.out (fun _ hk => ⟨⟨hk.1.2, hk.2⟩, hk.1.1.2⟩)) hg hat); have n4_ := Aside0.mk (hb); have n5_ := Aside0.mk (ho); clear HO_7; clear HO_8; clear HI20003; clear HO20017; clear HB; clear HO_6; have HO_7 := n0_; have HO_8 := n1_; have HI20003 := n2_; have HO20017 := n3_; have HB := n4_; have HO20022 := n5_; clear n0_ n1_ n2_ n3_ n4_ n5_; clear ho hb hg hat) | ((with_reducible refine gate_callee (f := 65) rfl ?_); refine goesL_ (some 35) rfl rfl Try.func65 (by kernel_rfl) rfl #[.pointer (some ⟨g20003, 0, none⟩), .int .i64 100] rfl (by (try simp only [List.map_toArray, List.map_cons, List.map_nil]); first | done | rfl | (simp only [List.length_drop, List.length_take]; rfl)) ?_; (with_reducible refine (spec_l13Rd_pick.calls k1 g20003 t20001 t20019 100 t20023 t20024 w _ ?side1 ?side2 A16.out).mono ?_); (case side1 => repeat (first | (with_reducible first | exact HI20003.out | apply IsS65.alloc | apply IsS65.drewN | apply IsS65.drew | apply IsS65.set_1) | exact HI20003.out)); (case side2 => repeat (first | (with_reducible first | exact HB.out | apply below_alloc | apply pw_below_drewN | apply below_drew1 | refine below_set ?_ (IsS65.ge HI20003.out)) | exact HB.out)); rintro e w23 ⟨rfl, hi, hb, hk⟩; refine ⟨_, rfl, ?_⟩; have n0_ := Aside0.mk (Kd.R_mono (Kd.R_keep (IsS65.apart (show IsS65 w _ g20003 t20001 t20019 from by repeat (first | (with_reducible first | exact HI20003.out | apply IsS65.alloc | apply IsS65.drewN | apply IsS65.drew | apply IsS65.set_1) | exact HI20003.out)) (by (with_reducible repeat (first | apply Kd.R_alloc | apply Kd.R_drewN | apply Kd.R_drew)); exact HO_7.out) (by decide)) hk (fun _ h => h.2)) (fun _ h => h.1)); have n1_ := Aside0.mk (Kd.R_mono (Kd.R_keep (IsS65.apart (show IsS65 w _ g20003 t20001 t20019 from by repeat (first | (with_reducible first | exact HI20003.out | apply IsS65.alloc | apply IsS65.drewN | apply IsS65.drew | apply IsS65.set_1) | exact HI20003.out)) (by (with_reducible repeat (first | apply Kd.R_alloc | apply Kd.R_drewN | apply Kd.R_drew)); exact HO_8.out) (by decide)) hk (fun _ h => h.2)) (fun _ h => h.1)); have n2_ := Aside0.mk (Kd.R_mono (Kd.R_keep (IsS65.apart (show IsS65 w _ g20003 t20001 t20019 from by repeat (first | (with_reducible first | exact HI20003.out | apply IsS65.alloc | apply IsS65.drewN | apply IsS65.drew | apply IsS65.set_1) | exact HI20003.out)) (by (with_reducible repeat (first | apply Kd.R_alloc | apply Kd.R_drewN | apply Kd.R_drew)); exact HO20017.out) (by decide)) hk (fun _ h => h.2)) (fun _ h => h.1)); have n3_ := Aside0.mk (Kd.R_mono (Kd.R_keep (IsS65.apart (show IsS65 w _ g20003 t20001 t20019 from by repeat (first | (with_reducible first | exact HI20003.out | apply IsS65.alloc | apply IsS65.drewN | apply IsS65.drew | apply IsS65.set_1) | exact HI20003.out)) (by (with_reducible repeat (first | apply Kd.R_alloc | apply Kd.R_drewN | apply Kd.R_drew)); exact HO20022.out) (by decide)) hk (fun _ h => h.2)) (fun _ h => h.1)); have n4_ := Aside0.mk (hb); have n5_ := Aside0.mk (hi); clear HO_7; clear HO_8; clear HO20017; clear HO20022; clear HB; clear HI20003; have HO_7 := n0_; have HO_8 := n1_; have HO20017 := n2_; have HO20022 := n3_; have HB := n4_; have HI20003 := n5_; clear n0_ n1_ n2_ n3_ n4_ n5_; (try clear hb); (try clear hb2); (try clear hk); (try clear hi)) | ((with_reducible refine gate_builtin (b := .append) (xs := #[.tmp 33, .tmp 36]) rfl ?_); at_builtin; refine Kd.R_append (Kd.int .i64) (w0 := w) w.heap.size rfl (.tmp 33) (.tmp 36) 22 3 (.int .i64 0) 8 rfl Try.underlying22 info3 rfl (by decide) (by omega) u8 x8_1 t20023 [.int .i64 t20023] (fun k_ => some k_ ≠ (u7 : Value).ownBlock ∧ some k_ ≠ (.slice Ao20 y20015.length co20 : Value).ownBlock ∧ some k_ ≠ (v20021 : Value).ownBlock) (fun _ => False) rfl rfl ?aP (fun _ hk => hk.elim) ?aF ?aO ?aB ?aS ?aL ?_; (case aP => exact rfl); (case aB => exact (by repeat (first | (with_reducible first | exact HB.out | apply below_alloc | apply pw_below_drewN | apply below_drew1 | refine below_set ?_ (IsS65.ge HI20003.out)) | exact HB.out))); (case aF => exact (fun k_ hk => ⟨Kd.fresh' (Kd.R_lt (by (with_reducible repeat (first | apply Kd.R_alloc | apply Kd.R_drewN | apply Kd.R_drew)); exact HO_7.out)) k_ hk, Kd.fresh' (Kd.R_lt (by (with_reducible repeat (first | apply Kd.R_alloc | apply Kd.R_drewN | apply Kd.R_drew)); exact HO20017.out)) k_ hk, Kd.fresh' (Kd.R_lt (by (with_reducible repeat (first | apply Kd.R_alloc | apply Kd.R_drewN | apply Kd.R_drew)); exact HO20022.out)) k_ hk⟩)); (case aO => exact (by (with_reducible repeat (first | apply Kd.R_alloc | apply Kd.R_drewN | apply Kd.R_drew)); exact Kd.R_mono HO_8.out (fun _ hk => ⟨hk.1.1, ⟨hk.1.2, hk.2⟩⟩))); (case aS => exact (below_size (by repeat (first | (with_reducible first | exact HB.out | apply below_alloc | apply pw_below_drewN | apply below_drew1 | refine below_set ?_ (IsS65.ge HI20003.out)) | exact HB.out)))); (case aL => have := LMc17.out; omega); intro v20026 w24 ho hb hg hat; rw [← Ny20025.out] at ho; have n0_ := Aside0.mk (Kd.R_after (ok := (fun k_ => some k_ ≠ (.slice Ao20 y20015.length co20 : Value).ownBlock ∧ some k_ ≠ (v20021 : Value).ownBlock)) (by (with_reducible repeat (first | apply Kd.R_alloc | apply Kd.R_drewN | apply Kd.R_drew)); exact Kd.R_mono HO_7.out (fun _ hk => ⟨⟨hk.1.2, hk.2⟩, hk.1.1⟩)) hg hat); have n1_ := Aside0.mk (IsS65.grown (by repeat (first | (with_reducible first | exact HI20003.out | apply IsS65.alloc | apply IsS65.drewN | apply IsS65.drew | apply IsS65.set_1) | exact HI20003.out)) hg (IsS65.own_ne HI20003.out HO_8.out (by decide))); have n2_ := Aside0.mk (Kd.R_after (ok := (fun k_ => some k_ ≠ (u7 : Value).ownBlock ∧ some k_ ≠ (v20021 : Value).ownBlock)) (by (with_reducible repeat (first | apply Kd.R_alloc | apply Kd.R_drewN | apply Kd.R_drew)); exact Kd.R_mono HO20017.out (fun _ hk => ⟨⟨hk.1.1, hk.2⟩, hk.1.2⟩)) hg hat); have n3_ := Aside0.mk (Kd.R_after (ok := (fun k_ => some k_ ≠ (u7 : Value).ownBlock ∧ some k_ ≠ (.slice Ao20 y20015.length co20 : Value).ownBlock)) (by (with_reducible repeat (first | apply Kd.R_alloc | apply Kd.R_drewN | apply Kd.R_drew)); exact Kd.R_mono HO20022.out (fun _ hk => ⟨⟨hk.1, hk.2.2⟩, hk.2.1⟩)) hg hat); have n4_ := Aside0.mk (hb); have n5_ := Aside0.mk (ho); clear HO_7; clear HI20003; clear HO20017; clear HO20022; clear HB; clear HO_8; have HO_7 := n0_; have HI20003 := n1_; have HO20017 := n2_; have HO20022 := n3_; have HB := n4_; have HO20027 := n5_; clear n0_ n1_ n2_ n3_ n4_ n5_; clear ho hb hg hat))
              go_roundg k1
              case measure => have := HK1.out; omega
              case rel => exact ⟨(y20020), (x7_1), (y20025), (wrap64 (x17_1 + 1)), (t20024), (by first | rfl | (simp; done) | (simp [*]; done)), H', ⟨by have := HK1.out; omega⟩, ⟨by (with_reducible repeat (first | apply Kd.R_alloc | apply Kd.R_drewN | apply Kd.R_drew)); exact Kd.R_mono HO20022.out (fun _ hk => ⟨hk.1.1, hk.2⟩)⟩, ⟨by (with_reducible repeat (first | apply Kd.R_alloc | apply Kd.R_drewN | apply Kd.R_drew)); exact Kd.R_mono HO_7.out (fun _ hk => ⟨hk.1.2, hk.2⟩)⟩, ⟨by (with_reducible repeat (first | apply Kd.R_alloc | apply Kd.R_drewN | apply Kd.R_drew)); exact Kd.R_mono HO20027.out (fun _ hk => ⟨hk.2.2, hk.1⟩)⟩, ⟨by repeat (first | (with_reducible first | exact HI20003.out | apply IsS65.alloc | apply IsS65.drewN | apply IsS65.drew | apply IsS65.set_1) | exact HI20003.out)⟩, ⟨by repeat (first | (with_reducible first | exact HB.out | apply below_alloc | apply pw_below_drewN | apply below_drew1 | refine below_set ?_ (IsS65.ge HI20003.out)) | exact HB.out)⟩⟩
            · rw [if_neg c17] at H
              exact absurd H (by simp)
          · rw [if_neg c15] at H
            have c15b0 : (t20018 == 0) = false := beq_eq_false_iff_ne.mpr c15
            have c15b1 : (t20018 != 0) = true := bne_iff_ne.mpr c15
            replace H := Option.bind_eq_some_iff.mp H
            obtain ⟨⟨t20028, t20029⟩, A250, H⟩ := H
            replace H : (if x7_1.length < 17592186044416 then (spec_DrawWeaveData.l0 k1 y20020 (x7_1 ++ [t20028]) x8_1 t20013 (wrap64 (x17_1 + 1)) t20001 t20029) else (none)) = some (r1, r2, r3) := H
            have A25 := Aside0.mk A250
            clear A250
            by_cases c26 : x7_1.length < 17592186044416
            · rw [if_pos c26] at H
              have LMc26 := Aside0.mk c26
              clear c26
              obtain ⟨y20030, hy20030⟩ : ∃ y_ : List Int, y_ = (x7_1 ++ [t20028]) := ⟨_, rfl⟩
              replace H : (spec_DrawWeaveData.l0 k1 y20020 y20030 x8_1 t20013 (wrap64 (x17_1 + 1)) t20001 t20029) = some (r1, r2, r3) := by first | (rw [hy20030]; with_reducible exact H) | (have H2_ := (Option.bind_some _ _).symm.trans H; rw [hy20030]; with_reducible exact H2_) | (have H2_ := (Option.bind_some _ _).symm.trans H; with_reducible exact H2_) | with_reducible exact H | (rw [hy20030]; exact H) | exact H
              have Ny20030 := Aside0.mk hy20030
              clear hy20030
              have H' := Aside0.mk H
              clear H
              go_wp2_with (first | ((with_reducible refine gate_dst (N := 20) rfl ?_); refine Kd.R_lit (Kd.int .i64) _ 3 ?hg (N := 20) ?hd (xs := ([1, 0, 3, 0] : List Int)) (inner := [.int .i64 1, .int .i64 0, .int .i64 3, .int .i64 0]) (ok := fun _ => True) (okp := fun _ => True) ?hr ?hp (fun _ hk => hk) trivial (Below.refl _ _) (Nat.le_refl _) (by simp) ?_; (case hd => rfl); (case hg => rfl); (case hr => first | (go_simp; done) | (go_simp; rfl)); (case hp => exact (Reps.one (show Kd.M (Kd.int .i64) _ _ _ 1 [.int .i64 1] from rfl) (Reps.one (show Kd.M (Kd.int .i64) _ _ _ 0 [.int .i64 0] from rfl) (Reps.one (show Kd.M (Kd.int .i64) _ _ _ 3 [.int .i64 3] from rfl) (Reps.one (show Kd.M (Kd.int .i64) _ _ _ 0 [.int .i64 0] from rfl) (Reps.none _ _)))))); intro v20016 w27 ho28 hb hg_ hnew_; clear hg_ hnew_; (first | rw [← Ny20015.out] at ho28 | (simp only [Int.reduceToNat] at ho28; rw [← Ny20015.out] at ho28)); have n0_ := Aside0.mk (Kd.R_elder' (by (with_reducible repeat (first | apply Kd.R_alloc | apply Kd.R_drewN | apply Kd.R_drew)); exact HO_6.out) (Kd.R_base ho28) hb); have n1_ := Aside0.mk (Kd.R_elder' (by (with_reducible repeat (first | apply Kd.R_alloc | apply Kd.R_drewN | apply Kd.R_drew)); exact HO_7.out) (Kd.R_base ho28) hb); have n2_ := Aside0.mk (Kd.R_elder' (by (with_reducible repeat (first | apply Kd.R_alloc | apply Kd.R_drewN | apply Kd.R_drew)); exact HO_8.out) (Kd.R_base ho28) hb); have n3_ := Aside0.mk (Kd.R_lower (Kd.R_new' (Kd.R_new' (Kd.R_new' ho28 (Kd.R_lt (by (with_reducible repeat (first | apply Kd.R_alloc | apply Kd.R_drewN | apply Kd.R_drew)); exact HO_6.out))) (Kd.R_lt (by (with_reducible repeat (first | apply Kd.R_alloc | apply Kd.R_drewN | apply Kd.R_drew)); exact HO_7.out))) (Kd.R_lt (by (with_reducible repeat (first | apply Kd.R_alloc | apply Kd.R_drewN | apply Kd.R_drew)); exact HO_8.out))) (below_size (by repeat (first | (with_reducible first | exact HB.out | apply below_alloc | apply pw_below_drewN | apply below_drew1 | refine below_set ?_ (IsS65.ge HI20003.out)) | exact HB.out)))); have n4_ := Aside0.mk (IsS65.below (by repeat (first | (with_reducible first | exact HI20003.out | apply IsS65.alloc | apply IsS65.drewN | apply IsS65.drew | apply IsS65.set_1) | exact HI20003.out)) hb); have n5_ := Aside0.mk (below_step (by repeat (first | (with_reducible first | exact HB.out | apply below_alloc | apply pw_below_drewN | apply below_drew1 | refine below_set ?_ (IsS65.ge HI20003.out)) | exact HB.out)) hb); clear HO_6; clear HO_7; clear HO_8; clear HI20003; clear HB; have HO_6 := n0_; have HO_7 := n1_; have HO_8 := n2_; have HO20017 := n3_; have HI20003 := n4_; have HB := n5_; clear n0_ n1_ n2_ n3_ n4_ n5_; clear hb ho28; obtain ⟨Ao29, co29, eo29⟩ := Kd.R_slice HO20017.out; subst eo29) | ((with_reducible refine gate_callee (f := 66) rfl ?_); refine goesL_ (some 21) rfl rfl Try.func66 (by kernel_rfl) rfl #[.pointer (some ⟨g20003, 0, none⟩), .slice Ao29 y20015.length co29] rfl (by (try simp only [List.map_toArray, List.map_cons, List.map_nil]); first | done | rfl | (simp only [List.length_drop, List.length_take]; rfl)) ?_; (with_reducible refine (spec_l13Rd_num.calls k1 g20003 t20001 x20004001_1 _ _ y20015 t20018 t20019 w _ ?side1 ?side2 ?side3 ?side4 ?side5 A13.out).mono ?_); (case side1 => repeat (first | (with_reducible first | exact HI20003.out | apply IsS65.alloc | apply IsS65.drewN | apply IsS65.drew | apply IsS65.set_1) | exact HI20003.out)); (case side2 => repeat (first | (with_reducible first | exact HB.out | apply below_alloc | apply pw_below_drewN | apply below_drew1 | refine below_set ?_ (IsS65.ge HI20003.out)) | exact HB.out)); (case side3 => repeat (first | exact (Kd.R_reads' HO20017.out).2.2 | (with_reducible refine Kd.C_alloc ?_ _) | (with_reducible refine Kd.C_drewN ?_ _) | (with_reducible refine Kd.C_drew ?_))); (case side4 => exact (Kd.R_reads' HO20017.out).2.1); (case side5 => exact far_slice (IsS65.own_ne HI20003.out HO20017.out (by decide))); rintro e w30 ⟨rfl, hi, hb, hk⟩; refine ⟨_, rfl, ?_⟩; have n0_ := Aside0.mk (Kd.R_mono (Kd.R_keep (IsS65.apart (show IsS65 w _ g20003 t20001 x20004001_1 from by repeat (first | (with_reducible first | exact HI20003.out | apply IsS65.alloc | apply IsS65.drewN | apply IsS65.drew | apply IsS65.set_1) | exact HI20003.out)) (by (with_reducible repeat (first | apply Kd.R_alloc | apply Kd.R_drewN | apply Kd.R_drew)); exact HO_6.out) (by decide)) hk (fun _ h => h.2)) (fun _ h => h.1)); have n1_ := Aside0.mk (Kd.R_mono (Kd.R_keep (IsS65.apart (show IsS65 w _ g20003 t20001 x20004001_1 from by repeat (first | (with_reducible first | exact HI20003.out | apply IsS65.alloc | apply IsS65.drewN | apply IsS65.drew | apply IsS65.set_1) | exact HI20003.out)) (by (with_reducible repeat (first | apply Kd.R_alloc | apply Kd.R_drewN | apply Kd.R_drew)); exact HO_7.out) (by decide)) hk (fun _ h => h.2)) (fun _ h => h.1)); have n2_ := Aside0.mk (Kd.R_mono (Kd.R_keep (IsS65.apart (show IsS65 w _ g20003 t20001 x20004001_1 from by repeat (first | (with_reducible first | exact HI20003.out | apply IsS65.alloc | apply IsS65.drewN | apply IsS65.drew | apply IsS65.set_1) | exact HI20003.out)) (by (with_reducible repeat (first | apply Kd.R_alloc | apply Kd.R_drewN | apply Kd.R_drew)); exact HO_8.out) (by decide)) hk (fun _ h => h.2)) (fun _ h => h.1)); have n3_ := Aside0.mk (Kd.R_mono (Kd.R_keep (IsS65.apart (show IsS65 w _ g20003 t20001 x20004001_1 from by repeat (first | (with_reducible first | exact HI20003.out | apply IsS65.alloc | apply IsS65.drewN | apply IsS65.drew | apply IsS65.set_1) | exact HI20003.out)) (by (with_reducible repeat (first | apply Kd.R_alloc | apply Kd.R_drewN | apply Kd.R_drew)); exact HO20017.out) (by decide)) hk (fun _ h => h.2)) (fun _ h => h.1)); have n4_ := Aside0.mk (hb); have n5_ := Aside0.mk (hi); clear HO_6; clear HO_7; clear HO_8; clear HO20017; clear HB; clear HI20003; have HO_6 := n0_; have HO_7 := n1_; have HO_8 := n2_; have HO20017 := n3_; have HB := n4_; have HI20003 := n5_; clear n0_ n1_ n2_ n3_ n4_ n5_; (try clear hb); (try clear hb2); (try clear hk); (try clear hi)) | ((with_reducible refine gate_builtin (b := .append) (xs := #[.tmp 22, .tmp 24]) rfl ?_); at_builtin; refine Kd.R_append (Kd.int .i64) (w0 := w) w.heap.size rfl (.tmp 22) (.tmp 24) 22 3 (.int .i64 0) 8 rfl Try.underlying22 info3 rfl (by decide) (by omega) u6 x6_1 t20018 [.int .i64 t20018] (fun k_ => some k_ ≠ (u7 : Value).ownBlock ∧ some k_ ≠ (u8 : Value).ownBlock ∧ some k_ ≠ (.slice Ao29 y20015.length co29 : Value).ownBlock) (fun _ => False) rfl rfl ?aP (fun _ hk => hk.elim) ?aF ?aO ?aB ?aS ?aL ?_; (case aP => exact rfl); (case aB => exact (by repeat (first | (with_reducible first | exact HB.out | apply below_alloc | apply pw_below_drewN | apply below_drew1 | refine below_set ?_ (IsS65.ge HI20003.out)) | exact HB.out))); (case aF => exact (fun k_ hk => ⟨Kd.fresh' (Kd.R_lt (by (with_reducible repeat (first | apply Kd.R_alloc | apply Kd.R_drewN | apply Kd.R_drew)); exact HO_7.out)) k_ hk, Kd.fresh' (Kd.R_lt (by (with_reducible repeat (first | apply Kd.R_alloc | apply Kd.R_drewN | apply Kd.R_drew)); exact HO_8.out)) k_ hk, Kd.fresh' (Kd.R_lt (by (with_reducible repeat (first | apply Kd.R_alloc | apply Kd.R_drewN | apply Kd.R_drew)); exact HO20017.out)) k_ hk⟩)); (case aO => exact (by (with_reducible repeat (first | apply Kd.R_alloc | apply Kd.R_drewN | apply Kd.R_drew)); exact Kd.R_mono HO_6.out (fun _ hk => ⟨hk.1.1, ⟨hk.1.2, hk.2⟩⟩))); (case aS => exact (below_size (by repeat (first | (with_reducible first | exact HB.out | apply below_alloc | apply pw_below_drewN | apply below_drew1 | refine below_set ?_ (IsS65.ge HI20003.out)) | exact HB.out)))); (case aL => have := LMc14.out; omega); intro v20021 w31 ho hb hg hat; rw [← Ny20020.out] at ho; have n0_ := Aside0.mk (Kd.R_after (ok := (fun k_ => some k_ ≠ (u8 : Value).ownBlock ∧ some k_ ≠ (.slice Ao29 y20015.length co29 : Value).ownBlock)) (by (with_reducible repeat (first | apply Kd.R_alloc | apply Kd.R_drewN | apply Kd.R_drew)); exact Kd.R_mono HO_7.out (fun _ hk => ⟨⟨hk.1.2, hk.2⟩, hk.1.1⟩)) hg hat); have n1_ := Aside0.mk (Kd.R_after (ok := (fun k_ => some k_ ≠ (u7 : Value).ownBlock ∧ some k_ ≠ (.slice Ao29 y20015.length co29 : Value).ownBlock)) (by (with_reducible repeat (first | apply Kd.R_alloc | apply Kd.R_drewN | apply Kd.R_drew)); exact Kd.R_mono HO_8.out (fun _ hk => ⟨⟨hk.1.2, hk.2⟩, hk.1.1⟩)) hg hat); have n2_ := Aside0.mk (IsS65.grown (by repeat (first | (with_reducible first | exact HI20003.out | apply IsS65.alloc | apply IsS65.drewN | apply IsS65.drew | apply IsS65.set_1) | exact HI20003.out)) hg (IsS65.own_ne HI20003.out HO_6.out (by decide))); have n3_ := Aside0.mk (Kd.R_after (ok := (fun k_ => some k_ ≠ (u7 : Value).ownBlock ∧ some k_ ≠ (u8 : Value).ownBlock)) (by (with_reducible repeat (first | apply Kd.R_alloc | apply Kd.R_drewN | apply Kd.R_drew)); exact Kd.R_mono HO20017.out (fun _ hk => ⟨⟨hk.1.2, hk.2⟩, hk.1.1.2⟩)) hg hat); have n4_ := Aside0.mk (hb); have n5_ := Aside0.mk (ho); clear HO_7; clear HO_8; clear HI20003; clear HO20017; clear HB; clear HO_6; have HO_7 := n0_; have HO_8 := n1_; have HI20003 := n2_; have HO20017 := n3_; have HB := n4_; have HO20022 := n5_; clear n0_ n1_ n2_ n3_ n4_ n5_; clear ho hb hg hat) | ((with_reducible refine gate_callee (f := 65) rfl ?_); refine goesL_ (some 30) rfl rfl Try.func65 (by kernel_rfl) rfl #[.pointer (some ⟨g20003, 0, none⟩), .int .i64 100] rfl (by (try simp only [List.map_toArray, List.map_cons, List.map_nil]); first | done | rfl | (simp only [List.length_drop, List.length_take]; rfl)) ?_; (with_reducible refine (spec_l13Rd_pick.calls k1 g20003 t20001 t20019 100 t20028 t20029 w _ ?side1 ?side2 A25.out).mono ?_); (case side1 => repeat (first | (with_reducible first | exact HI20003.out | apply IsS65.alloc | apply IsS65.drewN | apply IsS65.drew | apply IsS65.set_1) | exact HI20003.out)); (case side2 => repeat (first | (with_reducible first | exact HB.out | apply below_alloc | apply pw_below_drewN | apply below_drew1 | refine below_set ?_ (IsS65.ge HI20003.out)) | exact HB.out)); rintro e w32 ⟨rfl, hi, hb, hk⟩; refine ⟨_, rfl, ?_⟩; have n0_ := Aside0.mk (Kd.R_mono (Kd.R_keep (IsS65.apart (show IsS65 w _ g20003 t20001 t20019 from by repeat (first | (with_reducible first | exact HI20003.out | apply IsS65.alloc | apply IsS65.drewN | apply IsS65.drew | apply IsS65.set_1) | exact HI20003.out)) (by (with_reducible repeat (first | apply Kd.R_alloc | apply Kd.R_drewN | apply Kd.R_drew)); exact HO_7.out) (by decide)) hk (fun _ h => h.2)) (fun _ h => h.1)); have n1_ := Aside0.mk (Kd.R_mono (Kd.R_keep (IsS65.apart (show IsS65 w _ g20003 t20001 t20019 from by repeat (first | (with_reducible first | exact HI20003.out | apply IsS65.alloc | apply IsS65.drewN | apply IsS65.drew | apply IsS65.set_1) | exact HI20003.out)) (by (with_reducible repeat (first | apply Kd.R_alloc | apply Kd.R_drewN | apply Kd.R_drew)); exact HO_8.out) (by decide)) hk (fun _ h => h.2)) (fun _ h => h.1)); have n2_ := Aside0.mk (Kd.R_mono (Kd.R_keep (IsS65.apart (show IsS65 w _ g20003 t20001 t20019 from by repeat (first | (with_reducible first | exact HI20003.out | apply IsS65.alloc | apply IsS65.drewN | apply IsS65.drew | apply IsS65.set_1) | exact HI20003.out)) (by (with_reducible repeat (first | apply Kd.R_alloc | apply Kd.R_drewN | apply Kd.R_drew)); exact HO20017.out) (by decide)) hk (fun _ h => h.2)) (fun _ h => h.1)); have n3_ := Aside0.mk (Kd.R_mono (Kd.R_keep (IsS65.apart (show IsS65 w _ g20003 t20001 t20019 from by repeat (first | (with_reducible first | exact HI20003.out | apply IsS65.alloc | apply IsS65.drewN | apply IsS65.drew | apply IsS65.set_1) | exact HI20003.out)) (by (with_reducible repeat (first | apply Kd.R_alloc | apply Kd.R_drewN | apply Kd.R_drew)); exact HO20022.out) (by decide)) hk (fun _ h => h.2)) (fun _ h => h.1)); have n4_ := Aside0.mk (hb); have n5_ := Aside0.mk (hi); clear HO_7; clear HO_8; clear HO20017; clear HO20022; clear HB; clear HI20003; have HO_7 := n0_; have HO_8 := n1_; have HO20017 := n2_; have HO20022 := n3_; have HB := n4_; have HI20003 := n5_; clear n0_ n1_ n2_ n3_ n4_ n5_; (try clear hb); (try clear hb2); (try clear hk); (try clear hi)) | ((with_reducible refine gate_builtin (b := .append) (xs := #[.tmp 28, .tmp 31]) rfl ?_); at_builtin; refine Kd.R_append (Kd.int .i64) (w0 := w) w.heap.size rfl (.tmp 28) (.tmp 31) 22 3 (.int .i64 0) 8 rfl Try.underlying22 info3 rfl (by decide) (by omega) u7 x7_1 t20028 [.int .i64 t20028] (fun k_ => some k_ ≠ (u8 : Value).ownBlock ∧ some k_ ≠ (.slice Ao29 y20015.length co29 : Value).ownBlock ∧ some k_ ≠ (v20021 : Value).ownBlock) (fun _ => False) rfl rfl ?aP (fun _ hk => hk.elim) ?aF ?aO ?aB ?aS ?aL ?_; (case aP => exact rfl); (case aB => exact (by repeat (first | (with_reducible first | exact HB.out | apply below_alloc | apply pw_below_drewN | apply below_drew1 | refine below_set ?_ (IsS65.ge HI20003.out)) | exact HB.out))); (case aF => exact (fun k_ hk => ⟨Kd.fresh' (Kd.R_lt (by (with_reducible repeat (first | apply Kd.R_alloc | apply Kd.R_drewN | apply Kd.R_drew)); exact HO_8.out)) k_ hk, Kd.fresh' (Kd.R_lt (by (with_reducible repeat (first | apply Kd.R_alloc | apply Kd.R_drewN | apply Kd.R_drew)); exact HO20017.out)) k_ hk, Kd.fresh' (Kd.R_lt (by (with_reducible repeat (first | apply Kd.R_alloc | apply Kd.R_drewN | apply Kd.R_drew)); exact HO20022.out)) k_ hk⟩)); (case aO => exact (by (with_reducible repeat (first | apply Kd.R_alloc | apply Kd.R_drewN | apply Kd.R_drew)); exact Kd.R_mono HO_7.out (fun _ hk => ⟨hk.1.1, ⟨hk.1.2, hk.2⟩⟩))); (case aS => exact (below_size (by repeat (first | (with_reducible first | exact HB.out | apply below_alloc | apply pw_below_drewN | apply below_drew1 | refine below_set ?_ (IsS65.ge HI20003.out)) | exact HB.out)))); (case aL => have := LMc26.out; omega); intro v20031 w33 ho hb hg hat; rw [← Ny20030.out] at ho; have n0_ := Aside0.mk (Kd.R_after (ok := (fun k_ => some k_ ≠ (.slice Ao29 y20015.length co29 : Value).ownBlock ∧ some k_ ≠ (v20021 : Value).ownBlock)) (by (with_reducible repeat (first | apply Kd.R_alloc | apply Kd.R_drewN | apply Kd.R_drew)); exact Kd.R_mono HO_8.out (fun _ hk => ⟨⟨hk.1.2, hk.2⟩, hk.1.1⟩)) hg hat); have n1_ := Aside0.mk (IsS65.grown (by repeat (first | (with_reducible first | exact HI20003.out | apply IsS65.alloc | apply IsS65.drewN | apply IsS65.drew | apply IsS65.set_1) | exact HI20003.out)) hg (IsS65.own_ne HI20003.out HO_7.out (by decide))); have n2_ := Aside0.mk (Kd.R_after (ok := (fun k_ => some k_ ≠ (u8 : Value).ownBlock ∧ some k_ ≠ (v20021 : Value).ownBlock)) (by (with_reducible repeat (first | apply Kd.R_alloc | apply Kd.R_drewN | apply Kd.R_drew)); exact Kd.R_mono HO20017.out (fun _ hk => ⟨⟨hk.1.2, hk.2⟩, hk.1.1⟩)) hg hat); have n3_ := Aside0.mk (Kd.R_after (ok := (fun k_ => some k_ ≠ (u8 : Value).ownBlock ∧ some k_ ≠ (.slice Ao29 y20015.length co29 : Value).ownBlock)) (by (with_reducible repeat (first | apply Kd.R_alloc | apply Kd.R_drewN | apply Kd.R_drew)); exact Kd.R_mono HO20022.out (fun _ hk => ⟨⟨hk.2.1, hk.2.2⟩, hk.1⟩)) hg hat); have n4_ := Aside0.mk (hb); have n5_ := Aside0.mk (ho); clear HO_8; clear HI20003; clear HO20017; clear HO20022; clear HB; clear HO_7; have HO_8 := n0_; have HI20003 := n1_; have HO20017 := n2_; have HO20022 := n3_; have HB := n4_; have HO20032 := n5_; clear n0_ n1_ n2_ n3_ n4_ n5_; clear ho hb hg hat))
              go_roundg k1
              case measure => have := HK1.out; omega
              case rel => exact ⟨(y20020), (y20030), (x8_1), (wrap64 (x17_1 + 1)), (t20029), (by first | rfl | (simp; done) | (simp [*]; done)), H', ⟨by have := HK1.out; omega⟩, ⟨by (with_reducible repeat (first | apply Kd.R_alloc | apply Kd.R_drewN | apply Kd.R_drew)); exact Kd.R_mono HO20022.out (fun _ hk => ⟨hk.2, hk.1.1⟩)⟩, ⟨by (with_reducible repeat (first | apply Kd.R_alloc | apply Kd.R_drewN | apply Kd.R_drew)); exact Kd.R_mono HO20032.out (fun _ hk => ⟨hk.2.2, hk.1⟩)⟩, ⟨by (with_reducible repeat (first | apply Kd.R_alloc | apply Kd.R_drewN | apply Kd.R_drew)); exact Kd.R_mono HO_8.out (fun _ hk => ⟨hk.1.2, hk.2⟩)⟩, ⟨by repeat (first | (with_reducible first | exact HI20003.out | apply IsS65.alloc | apply IsS65.drewN | apply IsS65.drew | apply IsS65.set_1) | exact HI20003.out)⟩, ⟨by repeat (first | (with_reducible first | exact HB.out | apply below_alloc | apply pw_below_drewN | apply below_drew1 | refine below_set ?_ (IsS65.ge HI20003.out)) | exact HB.out)⟩⟩
            · rw [if_neg c26] at H
              exact absurd H (by simp)
        · rw [if_neg c14] at H
          exact absurd H (by simp)
      · rw [if_neg c12] at H
        have c12b0 : decide (x17_1 < t20013) = false := decide_eq_false c12
        clear c12
        replace H := Option.bind_eq_some_iff.mp H
        obtain ⟨⟨t20033, t20034⟩, A340, H⟩ := H
        replace H : (if t20033 = 0 then ((spec_l13Rd_num.f k1 t20001 t20034 (([1, (-1)] : List Int))).bind fun bt20038 => (if x7_1.length < 17592186044416 then (some (x6_1, (x7_1 ++ [bt20038.1]), x8_1)) else (none))) else (some (x6_1, x7_1, x8_1))) = some (r1, r2, r3) := H
        have A34 := Aside0.mk A340
        clear A340
        by_cases c35 : t20033 = 0
        · rw [if_pos c35] at H
          have c35b0 : (t20033 == 0) = true := beq_iff_eq.mpr c35
          have c35b1 : (t20033 != 0) = false := bne_eq_false_iff_eq.mpr c35
          clear c35
          obtain ⟨y20035, hy20035⟩ : ∃ y_ : List Int, y_ = (([1, (-1)] : List Int)) := ⟨_, rfl⟩
          replace H : ((spec_l13Rd_num.f k1 t20001 t20034 y20035).bind fun bt20038 => (if x7_1.length < 17592186044416 then (some (x6_1, (x7_1 ++ [bt20038.1]), x8_1)) else (none))) = some (r1, r2, r3) := by first | (rw [hy20035]; with_reducible exact H) | (have H2_ := (Option.bind_some _ _).symm.trans H; rw [hy20035]; with_reducible exact H2_) | (have H2_ := (Option.bind_some _ _).symm.trans H; with_reducible exact H2_) | with_reducible exact H | (rw [hy20035]; exact H) | exact H
          have Ny20035 := Aside0.mk hy20035
          clear hy20035
          replace H := Option.bind_eq_some_iff.mp H
          obtain ⟨⟨t20038, t20039⟩, A360, H⟩ := H
          replace H : (if x7_1.length < 17592186044416 then (some (x6_1, (x7_1 ++ [t20038]), x8_1)) else (none)) = some (r1, r2, r3) := H
          have A36 := Aside0.mk A360
          clear A360
          by_cases c37 : x7_1.length < 17592186044416
          · rw [if_pos c37] at H
            have LMc37 := Aside0.mk c37
            clear c37
            obtain ⟨y20040, hy20040⟩ : ∃ y_ : List Int, y_ = (x7_1 ++ [t20038]) := ⟨_, rfl⟩
            replace H : (some (x6_1, y20040, x8_1)) = some (r1, r2, r3) := by first | (rw [hy20040]; with_reducible exact H) | (have H2_ := (Option.bind_some _ _).symm.trans H; rw [hy20040]; with_reducible exact H2_) | (have H2_ := (Option.bind_some _ _).symm.trans H; with_reducible exact H2_) | with_reducible exact H | (rw [hy20040]; exact H) | exact H
            have Ny20040 := Aside0.mk hy20040
            clear hy20040
            simp only [Option.some.injEq, Prod.mk.injEq] at H
            obtain ⟨rfl, rfl, rfl⟩ := H
            go_wp2_with (first | ((with_reducible refine gate_callee (f := 65) rfl ?_); refine goesL_ (some 40) rfl rfl Try.func65 (by kernel_rfl) rfl #[.pointer (some ⟨g20003, 0, none⟩), .int .i64 10] rfl (by (try simp only [List.map_toArray, List.map_cons, List.map_nil]); first | done | rfl | (simp only [List.length_drop, List.length_take]; rfl)) ?_; (with_reducible refine (spec_l13Rd_pick.calls k1 g20003 t20001 x20004001_1 10 t20033 t20034 w _ ?side1 ?side2 A34.out).mono ?_); (case side1 => repeat (first | (with_reducible first | exact HI20003.out | apply IsS65.alloc | apply IsS65.drewN | apply IsS65.drew | apply IsS65.set_1) | exact HI20003.out)); (case side2 => repeat (first | (with_reducible first | exact HB.out | apply below_alloc | apply pw_below_drewN | apply below_drew1 | refine below_set ?_ (IsS65.ge HI20003.out)) | exact HB.out)); rintro e w38 ⟨rfl, hi, hb, hk⟩; refine ⟨_, rfl, ?_⟩; have n0_ := Aside0.mk (Kd.R_mono (Kd.R_keep (IsS65.apart (show IsS65 w _ g20003 t20001 x20004001_1 from by repeat (first | (with_reducible first | exact HI20003.out | apply IsS65.alloc | apply IsS65.drewN | apply IsS65.drew | apply IsS65.set_1) | exact HI20003.out)) (by (with_reducible repeat (first | apply Kd.R_alloc | apply Kd.R_drewN | apply Kd.R_drew)); exact HO_6.out) (by decide)) hk (fun _ h => h.2)) (fun _ h => h.1)); have n1_ := Aside0.mk (Kd.R_mono (Kd.R_keep (IsS65.apart (show IsS65 w _ g20003 t20001 x20004001_1 from by repeat (first | (with_reducible first | exact HI20003.out | apply IsS65.alloc | apply IsS65.drewN | apply IsS65.drew | apply IsS65.set_1) | exact HI20003.out)) (by (with_reducible repeat (first | apply Kd.R_alloc | apply Kd.R_drewN | apply Kd.R_drew)); exact HO_7.out) (by decide)) hk (fun _ h => h.2)) (fun _ h => h.1)); have n2_ := Aside0.mk (Kd.R_mono (Kd.R_keep (IsS65.apart (show IsS65 w _ g20003 t20001 x20004001_1 from by repeat (first | (with_reducible first | exact HI20003.out | apply IsS65.alloc | apply IsS65.drewN | apply IsS65.drew | apply IsS65.set_1) | exact HI20003.out)) (by (with_reducible repeat (first | apply Kd.R_alloc | apply Kd.R_drewN | apply Kd.R_drew)); exact HO_8.out) (by decide)) hk (fun _ h => h.2)) (fun _ h => h.1)); have n3_ := Aside0.mk (hb); have n4_ := Aside0.mk (hi); clear HO_6; clear HO_7; clear HO_8; clear HB; clear HI20003; have HO_6 := n0_; have HO_7 := n1_; have HO_8 := n2_; have HB := n3_; have HI20003 := n4_; clear n0_ n1_ n2_ n3_ n4_; (try clear hb); (try clear hb2); (try clear hk); (try clear hi)) | ((with_reducible refine gate_dst (N := 44) rfl ?_); refine Kd.R_lit (Kd.int .i64) _ 3 ?hg (N := 44) ?hd (xs := ([1, (-1)] : List Int)) (inner := [.int .i64 1, .int .i64 (-1)]) (ok := fun _ => True) (okp := fun _ => True) ?hr ?hp (fun _ hk => hk) trivial (Below.refl _ _) (Nat.le_refl _) (by simp) ?_; (case hd => rfl); (case hg => rfl); (case hr => first | (go_simp; done) | (go_simp; rfl)); (case hp => exact (Reps.one (show Kd.M (Kd.int .i64) _ _ _ 1 [.int .i64 1] from rfl) (Reps.one (show Kd.M (Kd.int .i64) _ _ _ (-1) [.int .i64 (-1)] from rfl) (Reps.none _ _)))); intro v20036 w39 ho40 hb hg_ hnew_; clear hg_ hnew_; (first | rw [← Ny20035.out] at ho40 | (simp only [Int.reduceToNat] at ho40; rw [← Ny20035.out] at ho40)); have n0_ := Aside0.mk (Kd.R_elder' (by (with_reducible repeat (first | apply Kd.R_alloc | apply Kd.R_drewN | apply Kd.R_drew)); exact HO_6.out) (Kd.R_base ho40) hb); have n1_ := Aside0.mk (Kd.R_elder' (by (with_reducible repeat (first | apply Kd.R_alloc | apply Kd.R_drewN | apply Kd.R_drew)); exact HO_7.out) (Kd.R_base ho40) hb); have n2_ := Aside0.mk (Kd.R_elder' (by (with_reducible repeat (first | apply Kd.R_alloc | apply Kd.R_drewN | apply Kd.R_drew)); exact HO_8.out) (Kd.R_base ho40) hb); have n3_ := Aside0.mk (Kd.R_lower (Kd.R_new' (Kd.R_new' (Kd.R_new' ho40 (Kd.R_lt (by (with_reducible repeat (first | apply Kd.R_alloc | apply Kd.R_drewN | apply Kd.R_drew)); exact HO_6.out))) (Kd.R_lt (by (with_reducible repeat (first | apply Kd.R_alloc | apply Kd.R_drewN | apply Kd.R_drew)); exact HO_7.out))) (Kd.R_lt (by (with_reducible repeat (first | apply Kd.R_alloc | apply Kd.R_drewN | apply Kd.R_drew)); exact HO_8.out))) (below_size (by repeat (first | (with_reducible first | exact HB.out | apply below_alloc | apply pw_below_drewN | apply below_drew1 | refine below_set ?_ (IsS65.ge HI20003.out)) | exact HB.out)))); have n4_ := Aside0.mk (IsS65.below (by repeat (first | (with_reducible first | exact HI20003.out | apply IsS65.alloc | apply IsS65.drewN | apply IsS65.drew | apply IsS65.set_1) | exact HI20003.out)) hb); have n5_ := Aside0.mk (below_step (by repeat (first | (with_reducible first | exact HB.out | apply below_alloc | apply pw_below_drewN | apply below_drew1 | refine below_set ?_ (IsS65.ge HI20003.out)) | exact HB.out)) hb); clear HO_6; clear HO_7; clear HO_8; clear HI20003; clear HB; have HO_6 := n0_; have HO_7 := n1_; have HO_8 := n2_; have HO20037 := n3_; have HI20003 := n4_; have HB := n5_; clear n0_ n1_ n2_ n3_ n4_ n5_; clear hb ho40; obtain ⟨Ao41, co41, eo41⟩ := Kd.R_slice HO20037.out; subst eo41) | ((with_reducible refine gate_callee (f := 66) rfl ?_); refine goesL_ (some 45) rfl rfl Try.func66 (by kernel_rfl) rfl #[.pointer (some ⟨g20003, 0, none⟩), .slice Ao41 y20035.length co41] rfl (by (try simp only [List.map_toArray, List.map_cons, List.map_nil]); first | done | rfl | (simp only [List.length_drop, List.length_take]; rfl)) ?_; (with_reducible refine (spec_l13Rd_num.calls k1 g20003 t20001 t20034 _ _ y20035 t20038 t20039 w _ ?side1 ?side2 ?side3 ?side4 ?side5 A36.out).mono ?_); (case side1 => repeat (first | (with_reducible first | exact HI20003.out | apply IsS65.alloc | apply IsS65.drewN | apply IsS65.drew | apply IsS65.set_1) | exact HI20003.out)); (case side2 => repeat (first | (with_reducible first | exact HB.out | apply below_alloc | apply pw_below_drewN | apply below_drew1 | refine below_set ?_ (IsS65.ge HI20003.out)) | exact HB.out)); (case side3 => repeat (first | exact (Kd.R_reads' HO20037.out).2.2 | (with_reducible refine Kd.C_alloc ?_ _) | (with_reducible refine Kd.C_drewN ?_ _) | (with_reducible refine Kd.C_drew ?_))); (case side4 => exact (Kd.R_reads' HO20037.out).2.1); (case side5 => exact far_slice (IsS65.own_ne HI20003.out HO20037.out (by decide))); rintro e w42 ⟨rfl, hi, hb, hk⟩; refine ⟨_, rfl, ?_⟩; have n0_ := Aside0.mk (Kd.R_mono (Kd.R_keep (IsS65.apart (show IsS65 w _ g20003 t20001 t20034 from by repeat (first | (with_reducible first | exact HI20003.out | apply IsS65.alloc | apply IsS65.drewN | apply IsS65.drew | apply IsS65.set_1) | exact HI20003.out)) (by (with_reducible repeat (first | apply Kd.R_alloc | apply Kd.R_drewN | apply Kd.R_drew)); exact HO_6.out) (by decide)) hk (fun _ h => h.2)) (fun _ h => h.1)); have n1_ := Aside0.mk (Kd.R_mono (Kd.R_keep (IsS65.apart (show IsS65 w _ g20003 t20001 t20034 from by repeat (first | (with_reducible first | exact HI20003.out | apply IsS65.alloc | apply IsS65.drewN | apply IsS65.drew | apply IsS65.set_1) | exact HI20003.out)) (by (with_reducible repeat (first | apply Kd.R_alloc | apply Kd.R_drewN | apply Kd.R_drew)); exact HO_7.out) (by decide)) hk (fun _ h => h.2)) (fun _ h => h.1)); have n2_ := Aside0.mk (Kd.R_mono (Kd.R_keep (IsS65.apart (show IsS65 w _ g20003 t20001 t20034 from by repeat (first | (with_reducible first | exact HI20003.out | apply IsS65.alloc | apply IsS65.drewN | apply IsS65.drew | apply IsS65.set_1) | exact HI20003.out)) (by (with_reducible repeat (first | apply Kd.R_alloc | apply Kd.R_drewN | apply Kd.R_drew)); exact HO_8.out) (by decide)) hk (fun _ h => h.2)) (fun _ h => h.1)); have n3_ := Aside0.mk (Kd.R_mono (Kd.R_keep (IsS65.apart (show IsS65 w _ g20003 t20001 t20034 from by repeat (first | (with_reducible first | exact HI20003.out | apply IsS65.alloc | apply IsS65.drewN | apply IsS65.drew | apply IsS65.set_1) | exact HI20003.out)) (by (with_reducible repeat (first | apply Kd.R_alloc | apply Kd.R_drewN | apply Kd.R_drew)); exact HO20037.out) (by decide)) hk (fun _ h => h.2)) (fun _ h => h.1)); have n4_ := Aside0.mk (hb); have n5_ := Aside0.mk (hi); clear HO_6; clear HO_7; clear HO_8; clear HO20037; clear HB; clear HI20003; have HO_6 := n0_; have HO_7 := n1_; have HO_8 := n2_; have HO20037 := n3_; have HB := n4_; have HI20003 := n5_; clear n0_ n1_ n2_ n3_ n4_ n5_; (try clear hb); (try clear hb2); (try clear hk); (try clear hi)) | ((with_reducible refine gate_builtin (b := .append) (xs := #[.tmp 42, .tmp 46]) rfl ?_); at_builtin; refine Kd.R_append (Kd.int .i64) (w0 := w) w.heap.size rfl (.tmp 42) (.tmp 46) 22 3 (.int .i64 0) 8 rfl Try.underlying22 info3 rfl (by decide) (by omega) u7 x7_1 t20038 [.int .i64 t20038] (fun k_ => some k_ ≠ (u6 : Value).ownBlock ∧ some k_ ≠ (u8 : Value).ownBlock ∧ some k_ ≠ (.slice Ao41 y20035.length co41 : Value).ownBlock) (fun _ => False) rfl rfl ?aP (fun _ hk => hk.elim) ?aF ?aO ?aB ?aS ?aL ?_; (case aP => exact rfl); (case aB => exact (by repeat (first | (with_reducible first | exact HB.out | apply below_alloc | apply pw_below_drewN | apply below_drew1 | refine below_set ?_ (IsS65.ge HI20003.out)) | exact HB.out))); (case aF => exact (fun k_ hk => ⟨Kd.fresh' (Kd.R_lt (by (with_reducible repeat (first | apply Kd.R_alloc | apply Kd.R_drewN | apply Kd.R_drew)); exact HO_6.out)) k_ hk, Kd.fresh' (Kd.R_lt (by (with_reducible repeat (first | apply Kd.R_alloc | apply Kd.R_drewN | apply Kd.R_drew)); exact HO_8.out)) k_ hk, Kd.fresh' (Kd.R_lt (by (with_reducible repeat (first | apply Kd.R_alloc | apply Kd.R_drewN | apply Kd.R_drew)); exact HO20037.out)) k_ hk⟩)); (case aO => exact (by (with_reducible repeat (first | apply Kd.R_alloc | apply Kd.R_drewN | apply Kd.R_drew)); exact Kd.R_mono HO_7.out (fun _ hk => ⟨hk.1.1, ⟨hk.1.2, hk.2⟩⟩))); (case aS => exact (below_size (by repeat (first | (with_reducible first | exact HB.out | apply below_alloc | apply pw_below_drewN | apply below_drew1 | refine below_set ?_ (IsS65.ge HI20003.out)) | exact HB.out)))); (case aL => have := LMc37.out; omega); intro v20041 w43 ho hb hg hat; rw [← Ny20040.out] at ho; have n0_ := Aside0.mk (Kd.R_after (ok := (fun k_ => some k_ ≠ (u8 : Value).ownBlock ∧ some k_ ≠ (.slice Ao41 y20035.length co41 : Value).ownBlock)) (by (with_reducible repeat (first | apply Kd.R_alloc | apply Kd.R_drewN | apply Kd.R_drew)); exact Kd.R_mono HO_6.out (fun _ hk => ⟨⟨hk.1.2, hk.2⟩, hk.1.1⟩)) hg hat); have n1_ := Aside0.mk (Kd.R_after (ok := (fun k_ => some k_ ≠ (u6 : Value).ownBlock ∧ some k_ ≠ (.slice Ao41 y20035.length co41 : Value).ownBlock)) (by (with_reducible repeat (first | apply Kd.R_alloc | apply Kd.R_drewN | apply Kd.R_drew)); exact Kd.R_mono HO_8.out (fun _ hk => ⟨⟨hk.1.1, hk.2⟩, hk.1.2⟩)) hg hat); have n2_ := Aside0.mk (IsS65.grown (by repeat (first | (with_reducible first | exact HI20003.out | apply IsS65.alloc | apply IsS65.drewN | apply IsS65.drew | apply IsS65.set_1) | exact HI20003.out)) hg (IsS65.own_ne HI20003.out HO_7.out (by decide))); have n3_ := Aside0.mk (Kd.R_after (ok := (fun k_ => some k_ ≠ (u6 : Value).ownBlock ∧ some k_ ≠ (u8 : Value).ownBlock)) (by (with_reducible repeat (first | apply Kd.R_alloc | apply Kd.R_drewN | apply Kd.R_drew)); exact Kd.R_mono HO20037.out (fun _ hk => ⟨⟨hk.1.1.2, hk.2⟩, hk.1.2⟩)) hg hat); have n4_ := Aside0.mk (hb); have n5_ := Aside0.mk (ho); clear HO_6; clear HO_8; clear HI20003; clear HO20037; clear HB; clear HO_7; have HO_6 := n0_; have HO_8 := n1_; have HI20003 := n2_; have HO20037 := n3_; have HB := n4_; have HO20042 := n5_; clear n0_ n1_ n2_ n3_ n4_ n5_; clear ho hb hg hat))
            go_ret3
            exact ⟨_, _, _, by first | rfl | (simp [errW_none, errW_some] <;> rfl) | (simp [*, errW_none, errW_some] <;> rfl), by (with_reducible repeat (first | apply Kd.R_alloc | apply Kd.R_drewN | apply Kd.R_drew)); exact Kd.R_mono HO_6.out (fun _ hk => ⟨hk.2, hk.1.1⟩), by (with_reducible repeat (first | apply Kd.R_alloc | apply Kd.R_drewN | apply Kd.R_drew)); exact Kd.R_mono HO20042.out (fun _ hk => ⟨hk.1, hk.2.1⟩), by (with_reducible repeat (first | apply Kd.R_alloc | apply Kd.R_drewN | apply Kd.R_drew)); exact Kd.R_mono HO_8.out (fun _ hk => ⟨hk.1.1, hk.2⟩), by repeat (first | (with_reducible first | exact HB.out | apply below_alloc | apply pw_below_drewN | apply below_drew1 | refine below_set ?_ (IsS65.ge HI20003.out)) | exact HB.out)⟩
          · rw [if_neg c37] at H
            exact absurd H (by simp)
        · rw [if_neg c35] at H
          have c35b0 : (t20033 == 0) = false := beq_eq_false_iff_ne.mpr c35
          have c35b1 : (t20033 != 0) = true := bne_iff_ne.mpr c35
          simp only [Option.some.injEq, Prod.mk.injEq] at H
          obtain ⟨rfl, rfl, rfl⟩ := H
          go_wp2_with (first | ((with_reducible refine gate_callee (f := 65) rfl ?_); refine goesL_ (some 40) rfl rfl Try.func65 (by kernel_rfl) rfl #[.pointer (some ⟨g20003, 0, none⟩), .int .i64 10] rfl (by (try simp only [List.map_toArray, List.map_cons, List.map_nil]); first | done | rfl | (simp only [List.length_drop, List.length_take]; rfl)) ?_; (with_reducible refine (spec_l13Rd_pick.calls k1 g20003 t20001 x20004001_1 10 t20033 t20034 w _ ?side1 ?side2 A34.out).mono ?_); (case side1 => repeat (first | (with_reducible first | exact HI20003.out | apply IsS65.alloc | apply IsS65.drewN | apply IsS65.drew | apply IsS65.set_1) | exact HI20003.out)); (case side2 => repeat (first | (with_reducible first | exact HB.out | apply below_alloc | apply pw_below_drewN | apply below_drew1 | refine below_set ?_ (IsS65.ge HI20003.out)) | exact HB.out)); rintro e w44 ⟨rfl, hi, hb, hk⟩; refine ⟨_, rfl, ?_⟩; have n0_ := Aside0.mk (Kd.R_mono (Kd.R_keep (IsS65.apart (show IsS65 w _ g20003 t20001 x20004001_1 from by repeat (first | (with_reducible first | exact HI20003.out | apply IsS65.alloc | apply IsS65.drewN | apply IsS65.drew | apply IsS65.set_1) | exact HI20003.out)) (by (with_reducible repeat (first | apply Kd.R_alloc | apply Kd.R_drewN | apply Kd.R_drew)); exact HO_6.out) (by decide)) hk (fun _ h => h.2)) (fun _ h => h.1)); have n1_ := Aside0.mk (Kd.R_mono (Kd.R_keep (IsS65.apart (show IsS65 w _ g20003 t20001 x20004001_1 from by repeat (first | (with_reducible first | exact HI20003.out | apply IsS65.alloc | apply IsS65.drewN | apply IsS65.drew | apply IsS65.set_1) | exact HI20003.out)) (by (with_reducible repeat (first | apply Kd.R_alloc | apply Kd.R_drewN | apply Kd.R_drew)); exact HO_7.out) (by decide)) hk (fun _ h => h.2)) (fun _ h => h.1)); have n2_ := Aside0.mk (Kd.R_mono (Kd.R_keep (IsS65.apart (show IsS65 w _ g20003 t20001 x20004001_1 from by repeat (first | (with_reducible first | exact HI20003.out | apply IsS65.alloc | apply IsS65.drewN | apply IsS65.drew | apply IsS65.set_1) | exact HI20003.out)) (by (with_reducible repeat (first | apply Kd.R_alloc | apply Kd.R_drewN | apply Kd.R_drew)); exact HO_8.out) (by decide)) hk (fun _ h => h.2)) (fun _ h => h.1)); have n3_ := Aside0.mk (hb); have n4_ := Aside0.mk (hi); clear HO_6; clear HO_7; clear HO_8; clear HB; clear HI20003; have HO_6 := n0_; have HO_7 := n1_; have HO_8 := n2_; have HB := n3_; have HI20003 := n4_; clear n0_ n1_ n2_ n3_ n4_; (try clear hb); (try clear hb2); (try clear hk); (try clear hi)))
          go_ret3
          exact ⟨_, _, _, by first | rfl | (simp [errW_none, errW_some] <;> rfl) | (simp [*, errW_none, errW_some] <;> rfl), by (with_reducible repeat (first | apply Kd.R_alloc | apply Kd.R_drewN | apply Kd.R_drew)); exact HO_6.out, by (with_reducible repeat (first | apply Kd.R_alloc | apply Kd.R_drewN | apply Kd.R_drew)); exact HO_7.out, by (with_reducible repeat (first | apply Kd.R_alloc | apply Kd.R_drewN | apply Kd.R_drew)); exact HO_8.out, by repeat (first | (with_reducible first | exact HB.out | apply below_alloc | apply pw_below_drewN | apply below_drew1 | refine below_set ?_ (IsS65.ge HI20003.out)) | exact HB.out)⟩

/-! ### impl_WeaveData: function 48 -/
/-- Are numbers data? -/
def dataB (l : List Int) : Bool := if (l.length : Int) ≤ 400 then decide (idxOut 10006 l 0 < 0) else false
theorem dataB_eq (l : List Int) : impl_dataOk.f l = some (dataB l) := by
  unfold impl_dataOk.f impl_within.f dataB
  by_cases h : (l.length : Int) ≤ 400
  · rw [if_pos h, if_pos h, if_pos (by omega)]; rfl
  · rw [if_neg h, if_neg h]
theorem dataB_len {l : List Int} (h : dataB l = true) : l.length ≤ 400 := by
  unfold dataB at h; split at h
  · omega
  · cases h
/-- What is woven of two lists by flags; none if one of them is too short or too long. -/
def weaveGo : List Int → List Int → List Int → List Int → Option (List Int)
  | [], a, b, o => if a.isEmpty && b.isEmpty then some o else none
  | f :: fs, a, b, o => if f = 0 then (match b with | [] => none | x :: b' => weaveGo fs a b' (o ++ [x])) else (match a with | [] => none | x :: a' => weaveGo fs a' b (o ++ [x]))
def weaveR (o : Option (List Int)) : List Int × Bool := match o with | some l => (l, true) | none => ([], false)
def impl_WeaveData.f (l0 l1 l2 : List Int) : Option (List Int × Bool) := some (if dataB l0 && dataB l1 && dataB l2 then weaveR (weaveGo l0 l1 l2 []) else ([], false))

theorem dataOk_call (A0 : Option Addr) (c0 : Nat) (l0 : List Int) (w W : World) (hr0 : Kd.C (Kd.int .i64) w A0 l0.length l0) (hc0 : l0.length ≤ c0) (hB : Below w.heap.size w W) (b : Bool) (hb : dataB l0 = b) :
    Calls Try.prog 77 #[.slice A0 l0.length c0] W fun e w' => e = .returned (.bool b) ∧ Below W.heap.size W w' := impl_dataOk.calls A0 c0 l0 b W (Kd.C_below hr0 hB) hc0 (by rw [dataB_eq, hb])

set_option maxHeartbeats 1000000 in
set_option maxRecDepth 100000 in
theorem weave_no0 (A0 : Option Addr) (c0 : Nat) (l0 : List Int) (A1 : Option Addr) (c1 : Nat) (l1 : List Int) (A2 : Option Addr) (c2 : Nat) (l2 : List Int) (w : World) (hr0 : Kd.C (Kd.int .i64) w A0 l0.length l0) (hc0 : l0.length ≤ c0) (h0 : dataB l0 = false) :
    Calls Try.prog 48 #[.slice A0 l0.length c0, .slice A1 l1.length c1, .slice A2 l2.length c2] w fun e w' => e = .returned (.tuple #[.slice none 0 0, .bool false]) ∧ Below w.heap.size w w' := by
  have HB := Aside0.mk (show Below w.heap.size w ((w.alloc (.cells #[.slice A1 l1.length c1] 22)).alloc (.cells #[.slice A2 l2.length c2] 22)) from below_alloc (below_alloc (Below.refl _ _) _) _)
  have H0 := Aside0.mk (dataOk_call A0 c0 l0 w _ hr0 hc0 HB.out false h0)
  clear hr0 h0
  go_enter Try.func48, Try.ntmps48
  go_wp2_with (go_at_call 77; refine H0.out.mono ?_; rintro e w1 ⟨rfl, hb⟩)
  go_ret2
  exact ⟨rfl, below_step HB.out hb⟩

set_option maxHeartbeats 1000000 in
set_option maxRecDepth 100000 in
theorem weave_no1 (A0 : Option Addr) (c0 : Nat) (l0 : List Int) (A1 : Option Addr) (c1 : Nat) (l1 : List Int) (A2 : Option Addr) (c2 : Nat) (l2 : List Int) (w : World) (hr0 : Kd.C (Kd.int .i64) w A0 l0.length l0) (hc0 : l0.length ≤ c0) (hr1 : Kd.C (Kd.int .i64) w A1 l1.length l1) (hc1 : l1.length ≤ c1) (h0 : dataB l0 = true) (h1 : dataB l1 = false) :
    Calls Try.prog 48 #[.slice A0 l0.length c0, .slice A1 l1.length c1, .slice A2 l2.length c2] w fun e w' => e = .returned (.tuple #[.slice none 0 0, .bool false]) ∧ Below w.heap.size w w' := by
  obtain ⟨W, hW⟩ : ∃ W, W = ((w.alloc (.cells #[.slice A1 l1.length c1] 22)).alloc (.cells #[.slice A2 l2.length c2] 22)) := ⟨_, rfl⟩
  have HB := Aside0.mk (show Below w.heap.size w ((w.alloc (.cells #[.slice A1 l1.length c1] 22)).alloc (.cells #[.slice A2 l2.length c2] 22)) from below_alloc (below_alloc (Below.refl _ _) _) _)
  have H0 := Aside0.mk (dataOk_call A0 c0 l0 w _ hr0 hc0 HB.out true h0)
  have H1 := Aside0.mk (fun W1 (hB : Below w.heap.size w W1) => dataOk_call A1 c1 l1 w W1 hr1 hc1 hB false h1)
  clear hr0 h0 hr1 h1 hW
  go_enter Try.func48, Try.ntmps48
  go_wp2_with fail
  refine H0.out.mono ?_
  rintro e w1 ⟨rfl, hb⟩
  have hc4 := hb.cell (p := ⟨w.heap.size, 0, none⟩) (by simp; omega)
  have HB1 := Aside0.mk (below_step HB.out hb)
  clear hb
  go_wp2_with (go_at_call 77; refine (H1.out _ HB1.out).mono ?_; rintro e w2 ⟨rfl, hb2⟩)
  go_ret2
  exact ⟨rfl, below_step HB1.out hb2⟩

set_option maxHeartbeats 1000000 in
set_option maxRecDepth 100000 in
theorem weave_no2 (A0 : Option Addr) (c0 : Nat) (l0 : List Int) (A1 : Option Addr) (c1 : Nat) (l1 : List Int) (A2 : Option Addr) (c2 : Nat) (l2 : List Int) (w : World) (hr0 : Kd.C (Kd.int .i64) w A0 l0.length l0) (hc0 : l0.length ≤ c0) (hr1 : Kd.C (Kd.int .i64) w A1 l1.length l1) (hc1 : l1.length ≤ c1) (hr2 : Kd.C (Kd.int .i64) w A2 l2.length l2) (hc2 : l2.length ≤ c2) (h0 : dataB l0 = true) (h1 : dataB l1 = true) (h2 : dataB l2 = false) :
    Calls Try.prog 48 #[.slice A0 l0.length c0, .slice A1 l1.length c1, .slice A2 l2.length c2] w fun e w' => e = .returned (.tuple #[.slice none 0 0, .bool false]) ∧ Below w.heap.size w w' := by
  have HB := Aside0.mk (show Below w.heap.size w ((w.alloc (.cells #[.slice A1 l1.length c1] 22)).alloc (.cells #[.slice A2 l2.length c2] 22)) from below_alloc (below_alloc (Below.refl _ _) _) _)
  have H0 := Aside0.mk (dataOk_call A0 c0 l0 w _ hr0 hc0 HB.out true h0)
  have H1 := Aside0.mk (fun W1 (hB : Below w.heap.size w W1) => dataOk_call A1 c1 l1 w W1 hr1 hc1 hB true h1)
  have H2 := Aside0.mk (fun W1 (hB : Below w.heap.size w W1) => dataOk_call A2 c2 l2 w W1 hr2 hc2 hB false h2)
  clear hr0 h0 hr1 h1 hr2 h2
  go_enter Try.func48, Try.ntmps48
  go_wp2_with fail
  refine H0.out.mono ?_
  rintro e w1 ⟨rfl, hb⟩
  have hc4 := hb.cell (p := ⟨w.heap.size, 0, none⟩) (by simp; omega)
  have hc5 := hb.cell (p := ⟨w.heap.size + 1, 0, none⟩) (by simp)
  have HB1 := Aside0.mk (below_step HB.out hb)
  have hz1 := Aside0.mk (show w.heap.size + 1 + 1 ≤ w1.heap.size by have := hb.size; simpa using this)
  clear hb
  go_wp2_with fail
  refine (H1.out _ HB1.out).mono ?_
  rintro e w2 ⟨rfl, hb2⟩
  have hs2 := hb2.cell (p := ⟨w.heap.size + 1, 0, none⟩) (by show w.heap.size + 1 < w1.heap.size; have := hz1.out; omega)
  have hc6 := hs2.trans hc5
  have HB2 := Aside0.mk (below_step HB1.out hb2)
  clear hb2 hc4 hc5 hs2
  go_wp2_with (go_at_call 77; refine (H2.out _ HB2.out).mono ?_; rintro e w3 ⟨rfl, hb3⟩)
  go_ret2
  exact ⟨rfl, below_step HB2.out hb3⟩

/-- Where the loop begins: three calls have been made. -/
theorem heap_two (w : World) (x y : Obj) : ((w.alloc x).alloc y).heap[w.heap.size]? = some x ∧ ((w.alloc x).alloc y).heap[w.heap.size + 1]? = some y := by
  constructor
  · show ((w.heap.push x).push y)[w.heap.size]? = _
    simp [Array.getElem?_push]
  · show ((w.heap.push x).push y)[w.heap.size + 1]? = _
    rw [Array.getElem?_push, if_pos (by simp)]

set_option maxHeartbeats 2000000 in
set_option maxRecDepth 100000 in
theorem weave_yes (A0 : Option Addr) (c0 : Nat) (l0 : List Int) (A1 : Option Addr) (c1 : Nat) (l1 : List Int) (A2 : Option Addr) (c2 : Nat) (l2 : List Int) (w : World) (hr0 : Kd.C (Kd.int .i64) w A0 l0.length l0) (hc0 : l0.length ≤ c0) (hr1 : Kd.C (Kd.int .i64) w A1 l1.length l1) (hc1 : l1.length ≤ c1) (hr2 : Kd.C (Kd.int .i64) w A2 l2.length l2) (hc2 : l2.length ≤ c2) (h0 : dataB l0 = true) (h1 : dataB l1 = true) (h2 : dataB l2 = true) (r1 : List Int) (r2 : Bool) (hw : weaveR (weaveGo l0 l1 l2 []) = (r1, r2)) :
    Calls Try.prog 48 #[.slice A0 l0.length c0, .slice A1 l1.length c1, .slice A2 l2.length c2] w fun e w' => ∃ v0_ : Value, e = .returned (.tuple #[v0_, .bool r2]) ∧ Kd.R (Kd.int .i64) 3 w' w.heap.size (fun _ => True) v0_ r1 ∧ Below w.heap.size w w' := by
  have HB := Aside0.mk (show Below w.heap.size w ((w.alloc (.cells #[.slice A1 l1.length c1] 22)).alloc (.cells #[.slice A2 l2.length c2] 22)) from below_alloc (below_alloc (Below.refl _ _) _) _)
  have H0 := Aside0.mk (dataOk_call A0 c0 l0 w _ hr0 hc0 HB.out true h0)
  have H1 := Aside0.mk (fun W1 (hB : Below w.heap.size w W1) => dataOk_call A1 c1 l1 w W1 hr1 hc1 hB true h1)
  have H2 := Aside0.mk (fun W1 (hB : Below w.heap.size w W1) => dataOk_call A2 c2 l2 w W1 hr2 hc2 hB true h2)
  have HL0 := Aside0.mk (dataB_len h0)
  have HR0 := Aside0.mk hr0
  have HR1 := Aside0.mk hr1
  have HR2 := Aside0.mk hr2
  have HW := Aside0.mk hw
  have HCC := Aside0.mk (And.intro hc1 hc2)
  clear hr0 h0 hr1 h1 hr2 h2 hw
  go_enter Try.func48, Try.ntmps48
  go_wp2_with fail
  refine H0.out.mono ?_
  rintro e w1 ⟨rfl, hb⟩
  have HG1 := Aside0.mk (show w1.heap[w.heap.size]? = some (.cells #[.slice A1 l1.length c1] 22 (0, 0)) from (hb.block w.heap.size (by simp; omega)).trans (heap_two w _ _).1)
  have HG2 := Aside0.mk (show w1.heap[w.heap.size + 1]? = some (.cells #[.slice A2 l2.length c2] 22 (0, 0)) from (hb.block (w.heap.size + 1) (by simp)).trans (heap_two w _ _).2)
  have hc4 := cell_of_one HG1.out
  have HB1 := Aside0.mk (below_step HB.out hb)
  have hz1 := Aside0.mk (show w.heap.size + 1 + 1 ≤ w1.heap.size by have := hb.size; simpa using this)
  clear hb
  go_wp2_with fail
  refine (H1.out _ HB1.out).mono ?_
  rintro e w2 ⟨rfl, hb2⟩
  have HG3 := Aside0.mk ((hb2.block w.heap.size (by have := hz1.out; omega)).trans HG1.out)
  have HG4 := Aside0.mk ((hb2.block (w.heap.size + 1) (by have := hz1.out; omega)).trans HG2.out)
  have HB2 := Aside0.mk (below_step HB1.out hb2)
  have hz2 := Aside0.mk (show w.heap.size + 1 + 1 ≤ w2.heap.size by have := hb2.size; have := hz1.out; omega)
  have hc5 := cell_of_one HG4.out
  clear hb2 hc4 HG1 HG2 hz1 HB1
  go_wp2_with fail
  refine (H2.out _ HB2.out).mono ?_
  rintro e w3 ⟨rfl, hb3⟩
  have HG1 := Aside0.mk ((hb3.block w.heap.size (by have := hz2.out; omega)).trans HG3.out)
  have HG2 := Aside0.mk ((hb3.block (w.heap.size + 1) (by have := hz2.out; omega)).trans HG4.out)
  have HB3 := Aside0.mk (below_step HB2.out hb3)
  have hz3 := Aside0.mk (show w.heap.size + 1 + 1 ≤ w3.heap.size by have := hb3.size; have := hz2.out; omega)
  clear hb3 hc5 HG3 HG4 hz2 HB2 HB H0 H1 H2
  have HL1 := Aside0.mk (show l0.length ≤ 400 from HL0.out)
  go_wp2_with fail
  go_loopg [8, 28] l0.length (fun kq v8 v28 w' => ∃ (x28 : Int) (i : Nat) (a' b' o : List Int) (Aa Ab : Option Addr) (ca cb : Nat), v28 = .int .i64 x28 ∧ Aside0 (x28 = (i : Int)) ∧ Aside0 (kq + i = l0.length) ∧ Aside0 (w'.heap[w.heap.size]? = some (.cells #[.slice Aa a'.length ca] 22 (0, 0))) ∧ Aside0 (w'.heap[w.heap.size + 1]? = some (.cells #[.slice Ab b'.length cb] 22 (0, 0))) ∧ Aside0 (a'.length ≤ ca) ∧ Aside0 (b'.length ≤ cb) ∧ Aside0 (Kd.C (Kd.int .i64) w Aa a'.length a') ∧ Aside0 (Kd.C (Kd.int .i64) w Ab b'.length b') ∧ Aside0 (Kd.R (Kd.int .i64) 3 w' w.heap.size (fun k_ => k_ ≠ w.heap.size ∧ k_ ≠ w.heap.size + 1) v8 o) ∧ Aside0 (weaveR (weaveGo (l0.drop i) a' b' o) = (r1, r2)) ∧ Aside0 (o.length ≤ i) ∧ Aside0 (Below w.heap.size w w') ∧ Aside0 (w.heap.size + 1 + 1 ≤ w'.heap.size))
  case atStart =>
    refine ⟨0, 0, l1, l2, [], A1, A2, c1, c2, rfl, ⟨rfl⟩, ⟨by omega⟩, ⟨?_⟩, ⟨?_⟩, ⟨hc1⟩, ⟨hc2⟩, HR1, HR2, ⟨?_⟩, ⟨by rw [List.drop_zero]; exact HW.out⟩, ⟨by simp⟩, ⟨below_alloc HB3.out _⟩, ⟨?_⟩⟩
    · exact (Below.heap_alloc w3 _ _ (by have := hz3.out; omega)).trans HG1.out
    · exact (Below.heap_alloc w3 _ _ (by have := hz3.out; omega)).trans HG2.out
    · have h2 := World.ownsRow_lit (base := w.heap.size) (e := 3) (size := 1) w3 #[] 0 (by have := hz3.out; omega) (by simp [maxLen]) (by simp)
      have h3 : (w3.alloc (.cells #[] 3)).ownsRow w.heap.size 3 1 (.slice (some ⟨w3.heap.size, 0, none⟩) 0 0) 0 [] := by simpa using h2
      refine ⟨fun k hk => ?_, [], h3, Reps.none _ _⟩
      have : w3.heap.size = k := by simpa [Value.ownBlock] using hk
      have := hz3.out
      constructor <;> omega
    · have := hz3.out; simp; omega
  case round =>
    obtain ⟨x28, i, a', b', o, Aa, Ab, ca, cb, rfl, HX, HK, HGa, HGb, Hca, Hcb, HCa, HCb, HO, HV, HN, HB, HZ⟩ := hrel
    have hcA := cell_of_one HGa.out
    have hcB := cell_of_one HGb.out
    by_cases c1 : x28 < (l0.length : Int)
    · have c1b : decide (x28 < (l0.length : Int)) = true := decide_eq_true c1
      have hi0 : (0 : Int) ≤ x28 := by have := HX.out; omega
      have hi1 : x28 < (l0.length : Int) := c1
      have c1' : i < l0.length := by have := HX.out; omega
      obtain ⟨ad6, e6, hx6⟩ := Kd.at_int HR0.out x28 hi0 hi1
      cases e6
      (try replace hx6 := (HB.out.cell (World.block_lt_of_cell? w _ hx6)).trans hx6)
      have HD := Aside0.mk (show l0.drop i = rd l0 x28 :: l0.drop (i + 1) from by rw [HX.out, List.drop_eq_getElem_cons c1']; simp [rd, List.getD_eq_getElem?_getD, List.getElem?_eq_getElem c1'])
      clear c1 c1'
      replace hi0 := eq_true hi0
      replace hi1 := eq_true hi1
      by_cases c2 : rd l0 x28 = 0
      · have c2b : decide (rd l0 x28 = 0) = true := decide_eq_true c2
        have HV2 := HV.out
        rw [HD.out] at HV2
        clear HV
        cases b' with
        | nil =>
          simp only [weaveGo, if_pos c2, weaveR, Prod.mk.injEq] at HV2
          obtain ⟨rfl, rfl⟩ := HV2
          go_wp2
          go_ret2
          exact ⟨_, rfl, Kd.R_nil _ _ _ _ _, HB.out⟩
        | cons x b' =>
          simp only [weaveGo, if_pos c2] at HV2
          have HV := Aside0.mk HV2
          clear HV2
          have p0 : (0 : Int) ≤ 0 := by omega
          have q0 : (0 : Int) < ((x :: b').length : Int) := by simp
          obtain ⟨ad7, e7, hx7⟩ := Kd.at_int HCb.out (0 : Int) p0 q0
          cases e7
          (try replace hx7 := (HB.out.cell (World.block_lt_of_cell? w _ hx7)).trans hx7)
          have hx7' : rd (x :: b') 0 = x := rfl
          try rw [hx7'] at hx7
          have hx70 : wr.cell? (ad7.add 0) = some (.int .i64 x) := hx7
          have hx71 : wr.cell? ad7 = some (.int .i64 x) := by have h_ : ad7.add 0 = ad7 := by simp [Addr.add]
                                                              rw [← h_]; exact hx70
          obtain ⟨i0_, hi0_, _, hsz_, _⟩ := info_parts info3
          have hcut := cut_from (P := Try.prog) 22 3 .i64 Try.underlying22 hi0_ 1 hsz_ (some ad7) (x :: b').length cb (1 : Int) (by omega) (by simp; omega)
          go_wp2_with (first | ((with_reducible refine gate_builtin (b := .append) (xs := #[.tmp 39, .tmp 45]) rfl ?_); (try (refine gate_guard (by rfl) ?_; dsimp only)); at_builtin; refine Kd.R_append (Kd.int .i64) (w0 := w) w.heap.size rfl (.tmp 39) (.tmp 45) 22 3 (.int .i64 0) 8 rfl Try.underlying22 info3 rfl (by decide) (by omega) u8 o x [.int .i64 x] (fun k_ => k_ ≠ w.heap.size ∧ k_ ≠ w.heap.size + 1) (fun _ => False) rfl rfl ?aP (fun _ hk => hk.elim) ?aF ?aO ?aB ?aS ?aL ?_; (case aP => exact rfl); (case aB => exact HB.out); (case aF => exact fun k hk => by have := HZ.out; constructor <;> omega); (case aO => exact HO.out); (case aS => exact below_size HB.out); (case aL => have := HN.out; have := HK.out; have := HL1.out; omega); intro v9 w21 ho hb hg hat; have HO2 := Aside0.mk ho; have HB2 := Aside0.mk hb; have HGa2 := Aside0.mk ((hg.block w.heap.size (by have := HZ.out; omega) (fun e_ => (HO.out.1 _ e_.symm).1 rfl)).trans HGa.out); have HGb2 := Aside0.mk ((hg.block (w.heap.size + 1) (by have := HZ.out; omega) (fun e_ => (HO.out.1 _ e_.symm).2 rfl)).trans HGb.out); have HZ2 := Aside0.mk (show w.heap.size + 1 + 1 ≤ w21.heap.size from by have := hg.size; have := HZ.out; omega); have hc8 := cell_of_one HGb2.out; have hf8 := free_of_one HGb2.out; clear ho hb hg hat))
          all_goals
            have hlt := of_eq_true hi1
            have hD := Kd.C_drop (m := 1) (c := cb) HCb.out (by simp) Hcb.out
            have hcl : b'.length + 1 ≤ cb := by have := Hcb.out; simpa using this
            go_roundg (gk - 1)
            case measure => have := HK.out; have := HX.out; omega
            case rel =>
              refine ⟨wrap64 (x28 + 1), i + 1, a', b', o ++ [x], Aa, _, ca, _, rfl, ⟨?_⟩, ⟨?_⟩, ⟨(Below.heap_setCell _ _ _ _ (by simp)).trans HGa2.out⟩, ⟨one_setCell HGb2.out⟩, Hca, ⟨?_⟩, HCa, ⟨?_⟩, ⟨Kd.R_far HO2.out (fun k hk => hk.2) _⟩, ⟨HV.out⟩, ⟨?_⟩, ⟨HB2.out.setCell (by simp) _⟩, ⟨by simpa using HZ2.out⟩⟩
              · rw [HX.out, wrap64]; have := HL1.out; have := HX.out; omega
              · have := HK.out; have := HX.out; omega
              · omega
              · first | (rw [if_pos (by assumption)] at hD; exact hD) | (rw [if_neg (by assumption)] at hD; exact hD) | simpa [*] using hD
              · have := HN.out; simp; omega
      · have c2b : decide (rd l0 x28 = 0) = false := decide_eq_false c2
        have HV2 := HV.out
        rw [HD.out] at HV2
        clear HV
        cases a' with
        | nil =>
          simp only [weaveGo, if_neg c2, weaveR, Prod.mk.injEq] at HV2
          obtain ⟨rfl, rfl⟩ := HV2
          go_wp2
          go_ret2
          exact ⟨_, rfl, Kd.R_nil _ _ _ _ _, HB.out⟩
        | cons x a' =>
          simp only [weaveGo, if_neg c2] at HV2
          have HV := Aside0.mk HV2
          clear HV2
          have p0 : (0 : Int) ≤ 0 := by omega
          have q0 : (0 : Int) < ((x :: a').length : Int) := by simp
          obtain ⟨ad7, e7, hx7⟩ := Kd.at_int HCa.out (0 : Int) p0 q0
          cases e7
          (try replace hx7 := (HB.out.cell (World.block_lt_of_cell? w _ hx7)).trans hx7)
          have hx7' : rd (x :: a') 0 = x := rfl
          try rw [hx7'] at hx7
          have hx70 : wr.cell? (ad7.add 0) = some (.int .i64 x) := hx7
          have hx71 : wr.cell? ad7 = some (.int .i64 x) := by have h_ : ad7.add 0 = ad7 := by simp [Addr.add]
                                                              rw [← h_]; exact hx70
          obtain ⟨i0_, hi0_, _, hsz_, _⟩ := info_parts info3
          have hcut := cut_from (P := Try.prog) 22 3 .i64 Try.underlying22 hi0_ 1 hsz_ (some ad7) (x :: a').length ca (1 : Int) (by omega) (by simp; omega)
          go_wp2_with (first | ((with_reducible refine gate_builtin (b := .append) (xs := #[.tmp 39, .tmp 45]) rfl ?_); (try (refine gate_guard (by rfl) ?_; dsimp only)); at_builtin; refine Kd.R_append (Kd.int .i64) (w0 := w) w.heap.size rfl (.tmp 39) (.tmp 45) 22 3 (.int .i64 0) 8 rfl Try.underlying22 info3 rfl (by decide) (by omega) u8 o x [.int .i64 x] (fun k_ => k_ ≠ w.heap.size ∧ k_ ≠ w.heap.size + 1) (fun _ => False) rfl rfl ?aP (fun _ hk => hk.elim) ?aF ?aO ?aB ?aS ?aL ?_; (case aP => exact rfl); (case aB => exact HB.out); (case aF => exact fun k hk => by have := HZ.out; constructor <;> omega); (case aO => exact HO.out); (case aS => exact below_size HB.out); (case aL => have := HN.out; have := HK.out; have := HL1.out; omega); intro v9 w21 ho hb hg hat; have HO2 := Aside0.mk ho; have HB2 := Aside0.mk hb; have HGa2 := Aside0.mk ((hg.block w.heap.size (by have := HZ.out; omega) (fun e_ => (HO.out.1 _ e_.symm).1 rfl)).trans HGa.out); have HGb2 := Aside0.mk ((hg.block (w.heap.size + 1) (by have := HZ.out; omega) (fun e_ => (HO.out.1 _ e_.symm).2 rfl)).trans HGb.out); have HZ2 := Aside0.mk (show w.heap.size + 1 + 1 ≤ w21.heap.size from by have := hg.size; have := HZ.out; omega); have hc8 := cell_of_one HGa2.out; have hf8 := free_of_one HGa2.out; clear ho hb hg hat))
          all_goals
            have hlt := of_eq_true hi1
            have hD := Kd.C_drop (m := 1) (c := ca) HCa.out (by simp) Hca.out
            have hcl : a'.length + 1 ≤ ca := by have := Hca.out; simpa using this
            go_roundg (gk - 1)
            case measure => have := HK.out; have := HX.out; omega
            case rel =>
              refine ⟨wrap64 (x28 + 1), i + 1, a', b', o ++ [x], _, Ab, _, cb, rfl, ⟨?_⟩, ⟨?_⟩, ⟨one_setCell HGa2.out⟩, ⟨(Below.heap_setCell _ _ _ _ (by simp)).trans HGb2.out⟩, ⟨?_⟩, Hcb, ⟨?_⟩, HCb, ⟨Kd.R_far HO2.out (fun k hk => hk.1) _⟩, ⟨HV.out⟩, ⟨?_⟩, ⟨HB2.out.setCell (by simp) _⟩, ⟨by simpa using HZ2.out⟩⟩
              · rw [HX.out, wrap64]; have := HL1.out; have := HX.out; omega
              · have := HK.out; have := HX.out; omega
              · omega
              · first | (rw [if_pos (by assumption)] at hD; exact hD) | (rw [if_neg (by assumption)] at hD; exact hD) | simpa [*] using hD
              · have := HN.out; simp; omega
    · have c1b : decide (x28 < (l0.length : Int)) = false := decide_eq_false c1
      have HV2 := HV.out
      rw [List.drop_eq_nil_of_le (by have := HX.out; omega), weaveGo] at HV2
      clear c1
      clear HV
      cases a' with
      | nil =>
        cases b' with
        | nil =>
          simp only [List.isEmpty_nil, Bool.and_self, if_true, weaveR, Prod.mk.injEq] at HV2
          obtain ⟨rfl, rfl⟩ := HV2
          go_wp2
          go_ret2
          exact ⟨_, rfl, Kd.R_mono HO.out (fun _ _ => trivial), HB.out⟩
        | cons y b' =>
          simp only [List.isEmpty_nil, List.isEmpty_cons, Bool.and_false, Bool.false_eq_true, if_false, weaveR, Prod.mk.injEq] at HV2
          obtain ⟨rfl, rfl⟩ := HV2
          go_wp2
          go_ret2
          exact ⟨_, rfl, Kd.R_nil _ _ _ _ _, HB.out⟩
      | cons y a' =>
        simp only [List.isEmpty_cons, Bool.false_and, Bool.false_eq_true, if_false, weaveR, Prod.mk.injEq] at HV2
        obtain ⟨rfl, rfl⟩ := HV2
        go_wp2
        go_ret2
        exact ⟨_, rfl, Kd.R_nil _ _ _ _ _, HB.out⟩
theorem impl_WeaveData.calls (A0 : Option Addr) (c0 : Nat) (l0 : List Int) (A1 : Option Addr) (c1 : Nat) (l1 : List Int) (A2 : Option Addr) (c2 : Nat) (l2 : List Int) (r1 : List Int) (r2 : Bool) (w : World) (hr0 : Kd.C (Kd.int .i64) w A0 l0.length l0) (hc0 : l0.length ≤ c0) (hr1 : Kd.C (Kd.int .i64) w A1 l1.length l1) (hc1 : l1.length ≤ c1) (hr2 : Kd.C (Kd.int .i64) w A2 l2.length l2) (hc2 : l2.length ≤ c2) (h : impl_WeaveData.f l0 l1 l2 = some (r1, r2)) :
    Calls Try.prog 48 #[.slice A0 l0.length c0, .slice A1 l1.length c1, .slice A2 l2.length c2] w fun e w' => ∃ v0_ : Value, e = .returned (.tuple #[v0_, .bool r2]) ∧ Kd.R (Kd.int .i64) 3 w' w.heap.size (fun _ => True) v0_ r1 ∧ Below w.heap.size w w' := by
  unfold impl_WeaveData.f at h
  have no : (dataB l0 && dataB l1 && dataB l2) = false → (Calls Try.prog 48 #[.slice A0 l0.length c0, .slice A1 l1.length c1, .slice A2 l2.length c2] w fun e w' => e = .returned (.tuple #[.slice none 0 0, .bool false]) ∧ Below w.heap.size w w') → (Calls Try.prog 48 #[.slice A0 l0.length c0, .slice A1 l1.length c1, .slice A2 l2.length c2] w fun e w' => ∃ v0_ : Value, e = .returned (.tuple #[v0_, .bool r2]) ∧ Kd.R (Kd.int .i64) 3 w' w.heap.size (fun _ => True) v0_ r1 ∧ Below w.heap.size w w') := by
    intro hn hC
    rw [hn] at h
    simp only [Bool.false_eq_true, if_false, Option.some.injEq, Prod.mk.injEq] at h
    obtain ⟨rfl, rfl⟩ := h
    exact hC.mono fun e w' he => ⟨_, he.1, Kd.R_nil _ _ _ _ _, he.2⟩
  cases h0 : dataB l0 with
  | false => exact no (by simp [h0]) (weave_no0 A0 c0 l0 A1 c1 l1 A2 c2 l2 w hr0 hc0 h0)
  | true =>
    cases h1 : dataB l1 with
    | false => exact no (by simp [h1]) (weave_no1 A0 c0 l0 A1 c1 l1 A2 c2 l2 w hr0 hc0 hr1 hc1 h0 h1)
    | true =>
      cases h2 : dataB l2 with
      | false => exact no (by simp [h2]) (weave_no2 A0 c0 l0 A1 c1 l1 A2 c2 l2 w hr0 hc0 hr1 hc1 hr2 hc2 h0 h1 h2)
      | true =>
        rw [h0, h1, h2] at h
        exact weave_yes A0 c0 l0 A1 c1 l1 A2 c2 l2 w hr0 hc0 hr1 hc1 hr2 hc2 h0 h1 h2 r1 r2 (by simpa using h)

/-! ### spec_l4Data: function 84 -/
def spec_l4Data.f (k : Nat) (l0 : List Int) : Option (Bool) := (spec_l3Numbers.f k l0).bind fun t20001 => (if t20001 = true then (some (decide ((l0.length : Int) ≤ 400))) else (some false))
theorem spec_l4Data.mono : ∀ a0 k, LeO (spec_l4Data.f k a0) (spec_l4Data.f (k + 1) a0) := by
  intro a0 k
  unfold spec_l4Data.f
  repeat' first
      | (with_reducible exact spec_l3Numbers.mono _ _)
      | (with_reducible exact LeO.refl _)
      | (with_reducible exact LeO.none _)
      | (with_reducible refine LeO.ite ?_ ?_)
      | (with_reducible refine LeO.bind ?_ (fun _ => ?_))
      | exact spec_l3Numbers.mono _ _
      | exact LeO.none _
      | refine LeO.ite ?_ ?_
      | refine LeO.bind ?_ (fun _ => ?_)
set_option maxHeartbeats 8000000 in
set_option maxRecDepth 100000 in
theorem spec_l4Data.calls (k : Nat) (A0 : Option Addr) (c0 : Nat) (l0 : List Int) (r : Bool) (w : World) (hr0 : Kd.C (Kd.int .i64) w A0 l0.length l0) (hc0 : l0.length ≤ c0) (h : spec_l4Data.f k l0 = some r) :
    Calls Try.prog 84 #[.slice A0 l0.length c0] w fun e w' => e = .returned (.bool r) ∧ Drawn0 w w' := by
  have HR0 := Aside0.mk hr0
  have HC0 := Aside0.mk hc0
  clear hr0 hc0
  have H : ((spec_l3Numbers.f k l0).bind fun t20001 => (if t20001 = true then (some (decide ((l0.length : Int) ≤ 400))) else (some false))) = some r := h
  clear h
  replace H := Option.bind_eq_some_iff.mp H
  obtain ⟨t20001, A20, H⟩ := H
  replace H : (if t20001 = true then (some (decide ((l0.length : Int) ≤ 400))) else (some false)) = some r := H
  have A2 := Aside0.mk A20
  clear A20
  by_cases c3 : t20001 = true
  · subst c3
    have H1 : (some (decide ((l0.length : Int) ≤ 400))) = some r := by rw [if_pos rfl] at H; exact H
    clear H
    have H := H1
    clear H1
    obtain rfl := Option.some.inj H
    go_enter Try.func84, Try.ntmps84
    go_wp2_with (first | ((with_reducible refine gate_callee (f := 78) rfl ?_); refine goesL_ (some 4) rfl rfl Try.func78 (by kernel_rfl) rfl #[.slice A0 l0.length c0] rfl (by (try simp only [List.map_toArray, List.map_cons, List.map_nil]); first | done | rfl | (simp only [List.length_drop, List.length_take]; rfl)) ?_; (with_reducible refine (spec_l3Numbers.calls k _ _ l0 true _ ?side1 ?side2 A2.out).mono ?_); (case side1 => repeat (first | exact HR0.out | (with_reducible refine Kd.C_alloc ?_ _) | (with_reducible refine Kd.C_drewN ?_ _) | (with_reducible refine Kd.C_drew ?_))); (case side2 => exact HC0.out); rintro e w' ⟨rfl, ⟨nd, rfl⟩⟩; refine ⟨_, rfl, ?_⟩))
    go_ret
    exact ⟨by first | rfl | (simp; done) | (simp [*]; done), by repeat (first | exact Drawn0.refl _ | apply Drawn0.step)⟩
  · replace c3 := Bool.eq_false_iff.mpr c3
    subst c3
    have H1 : (some false) = some r := by rw [if_neg (show ¬ (false = true) by decide)] at H; exact H
    clear H
    have H := H1
    clear H1
    obtain rfl := Option.some.inj H
    go_enter Try.func84, Try.ntmps84
    go_wp2_with (first | ((with_reducible refine gate_callee (f := 78) rfl ?_); refine goesL_ (some 4) rfl rfl Try.func78 (by kernel_rfl) rfl #[.slice A0 l0.length c0] rfl (by (try simp only [List.map_toArray, List.map_cons, List.map_nil]); first | done | rfl | (simp only [List.length_drop, List.length_take]; rfl)) ?_; (with_reducible refine (spec_l3Numbers.calls k _ _ l0 false _ ?side1 ?side2 A2.out).mono ?_); (case side1 => repeat (first | exact HR0.out | (with_reducible refine Kd.C_alloc ?_ _) | (with_reducible refine Kd.C_drewN ?_ _) | (with_reducible refine Kd.C_drew ?_))); (case side2 => exact HC0.out); rintro e w' ⟨rfl, ⟨nd, rfl⟩⟩; refine ⟨_, rfl, ?_⟩))
    go_ret
    exact ⟨by first | rfl | (simp; done) | (simp [*]; done), by repeat (first | exact Drawn0.refl _ | apply Drawn0.step)⟩

end Go.Proofs.Ytnehpbkjmmadkaa.Pw
