-- Written for this claim by a program (wip/hyb/hyb.py).
import Derived.Test.YtlakjonnkggomaaDoorPa0
import Derived.Test.YtlakjonnkggomaaDoorPa1
import Derived.Test.YtlakjonnkggomaaDoorPa2
import Derived.Test.YtlakjonnkggomaaDoorPa3
namespace Go.Proofs.YtlakjonnkggomaaDoor.Pa
open Go.RowKit Go.Proofs.YtlakjonnkggomaaDoorW.PrintWords Go.Proofs.YtlakjonnkggomaaDoorW.PrintLast Go.Proofs.YtlakjonnkggomaaDoorW.PrintMore
attribute [local go_sem] max2_int min2_int max_two min_two max_three min_three max_four min_four   -- for this text's walks alone
set_option linter.unusedVariables false
set_option linter.unusedSimpArgs false

/-! ### spec_l2RawParseLayout: function 25 -/
def spec_l2RawParseLayout.l0 : Nat → ByteArray → List ByteArray → List ByteArray → Int → Int → List (List Int) → List Int → Option ((List (List Int)) × List Int × Bool)
  | 0, _, _, _, _, _, _, _ => none
  | k + 1, x0, x4, x15, x16, x17, x20012000, x20012001 => if x17 < x16 then (if 0 ≤ x17 then (if x17 < (x15.length : Int) then ((spec_l2Read.f k (rdOf ByteArray.empty x15 x17)).bind fun bt20013 => (if bt20013.2 = true then (if x17 = (wrap64 ((x4.length : Int) - 1)) then (spec_l2RawParseLayout.l0 k x0 x4 x15 x16 (wrap64 (x17 + 1)) x20012000 bt20013.1) else (if x20012000.length < 5864062014805 then (spec_l2RawParseLayout.l0 k x0 x4 x15 x16 (wrap64 (x17 + 1)) (x20012000 ++ [bt20013.1]) x20012001) else (none))) else (some (([] : List (List Int)), ([] : List Int), false)))) else (none)) else (none)) else ((spec_LayoutValid.f k x20012000 x20012001).bind fun t20020 => (if t20020 = true then ((spec_FormatLayout.f x20012000 x20012001).bind fun t20021 => (if t20021.toList = x0.toList then (some (x20012000, x20012001, true)) else (some (([] : List (List Int)), ([] : List Int), false)))) else (some (([] : List (List Int)), ([] : List Int), false))))
def spec_l2RawParseLayout.f (k : Nat) (a0 : ByteArray) : Option ((List (List Int)) × List Int × Bool) := (spec_l13Cut.f k a0 124).bind fun t20002 => (spec_l2RawParseLayout.l0 k a0 t20002 t20002 (t20002.length : Int) 0 (([] : List (List Int))) (([] : List Int)))
theorem spec_l2RawParseLayout.mono_l : ∀ k, (∀ y0 y1 y2 y3 y4 y5 y6, LeO (spec_l2RawParseLayout.l0 k y0 y1 y2 y3 y4 y5 y6) (spec_l2RawParseLayout.l0 (k + 1) y0 y1 y2 y3 y4 y5 y6))
  | 0 => fun _ _ _ _ _ _ _ r h => by simp [spec_l2RawParseLayout.l0] at h
  | k + 1 => by
    have ih0 := spec_l2RawParseLayout.mono_l k
    · intro y0 y1 y2 y3 y4 y5 y6
      unfold spec_l2RawParseLayout.l0
      repeat' first
      | (with_reducible exact ih0 _ _ _ _ _ _ _)
      | (with_reducible exact spec_LayoutValid.mono _ _ _)
      | (with_reducible exact spec_l13Cut.mono _ _ _)
      | (with_reducible exact spec_l2Read.mono _ _)
      | (with_reducible exact LeO.refl _)
      | (with_reducible exact LeO.none _)
      | (with_reducible refine LeO.ite ?_ ?_)
      | (with_reducible refine LeO.bind ?_ (fun _ => ?_))
      | exact ih0 _ _ _ _ _ _ _
      | exact spec_LayoutValid.mono _ _ _
      | exact spec_l13Cut.mono _ _ _
      | exact spec_l2Read.mono _ _
      | exact LeO.none _
      | refine LeO.ite ?_ ?_
      | refine LeO.bind ?_ (fun _ => ?_)
theorem spec_l2RawParseLayout.mono : ∀ a0 k, LeO (spec_l2RawParseLayout.f k a0) (spec_l2RawParseLayout.f (k + 1) a0) := by
  intro a0 k
  have ih0 := spec_l2RawParseLayout.mono_l k
  unfold spec_l2RawParseLayout.f
  repeat' first
      | (with_reducible exact ih0 _ _ _ _ _ _ _)
      | (with_reducible exact spec_LayoutValid.mono _ _ _)
      | (with_reducible exact spec_l13Cut.mono _ _ _)
      | (with_reducible exact spec_l2Read.mono _ _)
      | (with_reducible exact LeO.refl _)
      | (with_reducible exact LeO.none _)
      | (with_reducible refine LeO.ite ?_ ?_)
      | (with_reducible refine LeO.bind ?_ (fun _ => ?_))
      | exact ih0 _ _ _ _ _ _ _
      | exact spec_LayoutValid.mono _ _ _
      | exact spec_l13Cut.mono _ _ _
      | exact spec_l2Read.mono _ _
      | exact LeO.none _
      | refine LeO.ite ?_ ?_
      | refine LeO.bind ?_ (fun _ => ?_)
set_option maxHeartbeats 8000000 in
set_option maxRecDepth 100000 in
theorem spec_l2RawParseLayout.calls (k : Nat) (a0 : ByteArray) (r1 : List (List Int)) (r2 : List Int) (r3 : Bool) (w : World) (h : spec_l2RawParseLayout.f k a0 = some (r1, r2, r3)) :
    Calls Tryd.prog 25 #[.string a0] w fun e w' => ∃ v0_ v1_ : Value, e = .returned (.tuple #[.agg #[v0_, v1_], .bool r3]) ∧ Kd.S (Kd.slice 3 (Kd.int .i64)) 23 w' w.heap.size (fun k_ => some k_ ≠ (v1_ : Value).ownBlock) v0_ r1 ∧ Kd.R (Kd.int .i64) 3 w' w.heap.size (fun _ => True) v1_ r2 ∧ Below w.heap.size w w' := by
  have hu28 := Tryd.underlying28
  have HB := Aside0.mk (Below.refl w.heap.size w)
  have H : ((spec_l13Cut.f k a0 124).bind fun t20002 => (spec_l2RawParseLayout.l0 k a0 t20002 t20002 (t20002.length : Int) 0 (([] : List (List Int))) (([] : List Int)))) = some (r1, r2, r3) := h
  clear h
  replace H := Option.bind_eq_some_iff.mp H
  obtain ⟨t20002, A20, H⟩ := H
  replace H : (spec_l2RawParseLayout.l0 k a0 t20002 t20002 (t20002.length : Int) 0 (([] : List (List Int))) (([] : List Int))) = some (r1, r2, r3) := H
  have A2 := Aside0.mk A20
  clear A20
  obtain ⟨y20005, hy20005⟩ : ∃ y_ : List (List Int), y_ = (([] : List (List Int))) := ⟨_, rfl⟩
  replace H : (spec_l2RawParseLayout.l0 k a0 t20002 t20002 (t20002.length : Int) 0 y20005 (([] : List Int))) = some (r1, r2, r3) := by first | (rw [hy20005]; with_reducible exact H) | (have H2_ := (Option.bind_some _ _).symm.trans H; rw [hy20005]; with_reducible exact H2_) | (have H2_ := (Option.bind_some _ _).symm.trans H; with_reducible exact H2_) | with_reducible exact H | (rw [hy20005]; exact H) | exact H
  have Ny20005 := Aside0.mk hy20005
  clear hy20005
  obtain ⟨y20008, hy20008⟩ : ∃ y_ : List Int, y_ = (([] : List Int)) := ⟨_, rfl⟩
  replace H : (spec_l2RawParseLayout.l0 k a0 t20002 t20002 (t20002.length : Int) 0 y20005 y20008) = some (r1, r2, r3) := by first | (rw [hy20008]; with_reducible exact H) | (have H2_ := (Option.bind_some _ _).symm.trans H; rw [hy20008]; with_reducible exact H2_) | (have H2_ := (Option.bind_some _ _).symm.trans H; with_reducible exact H2_) | with_reducible exact H | (rw [hy20008]; exact H) | exact H
  have Ny20008 := Aside0.mk hy20008
  clear hy20008
  have H' := Aside0.mk H
  clear H
  go_enter Tryd.func25, Tryd.ntmps25
  go_wp2_with (first | ((with_reducible refine gate_dst (N := 2) rfl ?_); refine box_event ?hg (N := 2) ?hd (cs := #[.slice none 0 0, .slice none 0 0]) (t := 28) ?hr ?_; (case hd => rfl); (case hg => rfl); (case hr => first | (go_simp; done) | (go_simp; rfl)); intro gb20001 hg w3 hbox hb; have n0_ := Aside0.mk (below_step (by repeat (first | (with_reducible first | exact HB.out | apply below_alloc | apply pw_below_drewN | apply below_drew1) | exact HB.out)) hb); have n1_ := Aside0.mk (hbox); have n2_ := Aside0.mk ((by rw [hg]; exact (below_size (by repeat (first | (with_reducible first | exact HB.out | apply below_alloc | apply pw_below_drewN | apply below_drew1) | exact HB.out))) : w.heap.size ≤ gb20001)); have n3_ := Aside0.mk ((by rw [hg]; exact (below_size (by repeat (first | (with_reducible first | exact HB.out | apply below_alloc | apply pw_below_drewN | apply below_drew1) | exact HB.out))) : w.heap.size ≤ gb20001)); clear HB; have HB := n0_; have BK20001 := n1_; have GW20001 := n2_; have GE20001 := n3_; clear n0_ n1_ n2_ n3_; clear hb hbox hg) | ((with_reducible refine gate_callee (f := 43) rfl ?_); refine goesL_ (some 11) rfl rfl Tryd.func43 (by kernel_rfl) rfl #[.string a0, .int .u8 124] rfl (by (try simp only [List.map_toArray, List.map_cons, List.map_nil]); first | done | rfl | (simp only [List.length_drop, List.length_take]; rfl)) ?_; (with_reducible refine (spec_l13Cut.calls k a0 124 t20002 _ A2.out).mono ?_); rintro e w4 ⟨v20003, rfl, ho0, hb⟩; refine ⟨_, rfl, ?_⟩; have n0_ := Aside0.mk (Kd.R_lower ho0 (below_size (by repeat (first | (with_reducible first | exact HB.out | apply below_alloc | apply pw_below_drewN | apply below_drew1 | refine below_set ?_ GE20001.out) | exact HB.out)))); have n1_ := Aside0.mk (blk_below (g := gb20001) (o := .cells #[.slice none 0 0, .slice none 0 0] 28 (0, 0)) (by (with_reducible repeat (first | refine blk_drewN ?_ _ | refine blk_drew ?_ | refine blk_alloc ?_ _)); exact BK20001.out) hb); have n2_ := Aside0.mk (below_step (by repeat (first | (with_reducible first | exact HB.out | apply below_alloc | apply pw_below_drewN | apply below_drew1 | refine below_set ?_ GE20001.out) | exact HB.out)) hb); clear BK20001; clear HB; have HO20004 := n0_; have BK20001 := n1_; have HB := n2_; clear n0_ n1_ n2_; (try clear hb); (try clear hb2); (try clear hk); (try clear hi); (try clear ho0)) | ((with_reducible refine gate_dst (N := 12) rfl ?_); refine Kd.S_lit (Kd.slice 3 (Kd.int .i64)) _ 23 ?hg (N := 12) ?hd (xs := ([] : List (List Int))) (inner := []) (ok := fun _ => True) (okp := fun _ => True) ?hr ?hp (fun _ hk => hk) trivial (Below.refl _ _) (Nat.le_refl _) (by simp) ?_; (case hd => rfl); (case hg => rfl); (case hr => first | (go_simp; done) | (go_simp; rfl)); (case hp => exact (Reps.none _ _)); intro v20006 w5 ho6 hb hg_ hnew_; clear hg_ hnew_; (first | rw [← Ny20005.out] at ho6 | (simp only [Int.reduceToNat] at ho6; rw [← Ny20005.out] at ho6)); have n0_ := Aside0.mk (Kd.R_below (by (with_reducible repeat (first | apply Kd.R_alloc | apply Kd.R_drewN | apply Kd.R_drew)); exact HO20004.out) hb); have n1_ := Aside0.mk (Kd.S_lower ho6 (below_size (by repeat (first | (with_reducible first | exact HB.out | apply below_alloc | apply pw_below_drewN | apply below_drew1 | refine below_set ?_ GE20001.out) | exact HB.out)))); have n2_ := Aside0.mk (blk_below (g := gb20001) (o := .cells #[.slice none 0 0, .slice none 0 0] 28 (0, 0)) (by (with_reducible repeat (first | refine blk_drewN ?_ _ | refine blk_drew ?_ | refine blk_alloc ?_ _)); exact BK20001.out) hb); have n3_ := Aside0.mk (below_step (by repeat (first | (with_reducible first | exact HB.out | apply below_alloc | apply pw_below_drewN | apply below_drew1 | refine below_set ?_ GE20001.out) | exact HB.out)) hb); clear HO20004; clear BK20001; clear HB; have HO20004 := n0_; have HO20007 := n1_; have BK20001 := n2_; have HB := n3_; clear n0_ n1_ n2_ n3_; clear hb ho6) | ((with_reducible refine gate_dst (N := 13) rfl ?_); refine Kd.R_lit (Kd.int .i64) _ 3 ?hg (N := 13) ?hd (xs := ([] : List Int)) (inner := []) (ok := fun _ => True) (okp := fun _ => True) ?hr ?hp (fun _ hk => hk) trivial (Below.refl _ _) (Nat.le_refl _) (by simp) ?_; (case hd => rfl); (case hg => rfl); (case hr => first | (go_simp; done) | (go_simp; rfl)); (case hp => exact (Reps.none _ _)); intro v20009 w7 ho8 hb hg_ hnew_; clear hg_ hnew_; (first | rw [← Ny20008.out] at ho8 | (simp only [Int.reduceToNat] at ho8; rw [← Ny20008.out] at ho8)); have n0_ := Aside0.mk (Kd.R_below (by (with_reducible repeat (first | apply Kd.R_alloc | apply Kd.R_drewN | apply Kd.R_drew)); exact HO20004.out) hb); have n1_ := Aside0.mk (Kd.S_elder' (by (with_reducible repeat (first | apply Kd.S_alloc | apply Kd.S_drewN | apply Kd.S_drew)); exact HO20007.out) (Kd.R_base ho8) hb); have n2_ := Aside0.mk (Kd.R_lower ho8 (below_size (by repeat (first | (with_reducible first | exact HB.out | apply below_alloc | apply pw_below_drewN | apply below_drew1 | refine below_set ?_ GE20001.out) | exact HB.out)))); have n3_ := Aside0.mk (blk_below (g := gb20001) (o := .cells #[.slice none 0 0, .slice none 0 0] 28 (0, 0)) (by (with_reducible repeat (first | refine blk_drewN ?_ _ | refine blk_drew ?_ | refine blk_alloc ?_ _)); exact BK20001.out) hb); have n4_ := Aside0.mk (below_step (by repeat (first | (with_reducible first | exact HB.out | apply below_alloc | apply pw_below_drewN | apply below_drew1 | refine below_set ?_ GE20001.out) | exact HB.out)) hb); clear HO20004; clear HO20007; clear BK20001; clear HB; have HO20004 := n0_; have HO20007 := n1_; have HO20010 := n2_; have BK20001 := n3_; have HB := n4_; clear n0_ n1_ n2_ n3_ n4_; clear hb ho8; obtain ⟨Ao9, co9, eo9⟩ := Kd.R_slice HO20010.out; subst eo9; obtain ⟨Ao10, co10, eo10⟩ := Kd.S_slice HO20007.out; subst eo10) | ((with_reducible refine gate_dst (N := 5) rfl ?_); refine box_event ?hg (N := 5) ?hd (cs := #[.slice none 0 0, .slice none 0 0]) (t := 28) ?hr ?_; (case hd => rfl); (case hg => rfl); (case hr => first | (go_simp; done) | (go_simp; rfl)); intro gb20011 hg w11 hbox hb; have n0_ := Aside0.mk (Kd.R_below (by (with_reducible repeat (first | apply Kd.R_alloc | apply Kd.R_drewN | apply Kd.R_drew)); exact HO20004.out) hb); have n1_ := Aside0.mk (Kd.S_below (by (with_reducible repeat (first | apply Kd.S_alloc | apply Kd.S_drewN | apply Kd.S_drew)); exact HO20007.out) hb); have n2_ := Aside0.mk (Kd.R_below (by (with_reducible repeat (first | apply Kd.R_alloc | apply Kd.R_drewN | apply Kd.R_drew)); exact HO20010.out) hb); have n3_ := Aside0.mk (blk_below (g := gb20001) (o := .cells #[.slice none 0 0, .slice none 0 0] 28 (0, 0)) (by (with_reducible repeat (first | refine blk_drewN ?_ _ | refine blk_drew ?_ | refine blk_alloc ?_ _)); exact BK20001.out) hb); have n4_ := Aside0.mk (below_step (by repeat (first | (with_reducible first | exact HB.out | apply below_alloc | apply pw_below_drewN | apply below_drew1 | refine below_set ?_ GE20001.out) | exact HB.out)) hb); have n5_ := Aside0.mk (hbox); have n6_ := Aside0.mk ((by rw [hg]; exact (below_size (by repeat (first | (with_reducible first | exact HB.out | apply below_alloc | apply pw_below_drewN | apply below_drew1 | refine below_set ?_ GE20001.out) | exact HB.out))) : w.heap.size ≤ gb20011)); have n7_ := Aside0.mk ((by rw [hg]; exact (below_size (by repeat (first | (with_reducible first | exact HB.out | apply below_alloc | apply pw_below_drewN | apply below_drew1 | refine below_set ?_ GE20001.out) | exact HB.out))) : w.heap.size ≤ gb20011)); have n8_ := Aside0.mk ((by rw [hg]; exact Nat.ne_of_lt (blk_lt (g := gb20001) (o := .cells #[.slice none 0 0, .slice none 0 0] 28 (0, 0)) (by (with_reducible repeat (first | refine blk_drewN ?_ _ | refine blk_drew ?_ | refine blk_alloc ?_ _)); exact BK20001.out)) : gb20001 ≠ gb20011)); have n9_ := Aside0.mk ((by rw [hg]; exact Nat.ne_of_gt (blk_lt (g := gb20001) (o := .cells #[.slice none 0 0, .slice none 0 0] 28 (0, 0)) (by (with_reducible repeat (first | refine blk_drewN ?_ _ | refine blk_drew ?_ | refine blk_alloc ?_ _)); exact BK20001.out)) : gb20011 ≠ gb20001)); clear HO20004; clear HO20007; clear HO20010; clear BK20001; clear HB; have HO20004 := n0_; have HO20007 := n1_; have HO20010 := n2_; have BK20001 := n3_; have HB := n4_; have BK20011 := n5_; have GW20011 := n6_; have GE20011 := n7_; have NB20001_20011 := n8_; have NB20011_20001 := n9_; clear n0_ n1_ n2_ n3_ n4_ n5_ n6_ n7_ n8_ n9_; clear hb hbox hg; have hnb12 := NB20011_20001.out; have hnc12 := NB20001_20011.out; have hcz13_0 : w11.cell? ⟨gb20011, 0, none⟩ = some (.slice none 0 0) := (blk_cell BK20011.out 0).trans rfl; have hcz13_1 : w11.cell? ⟨gb20011, 1, none⟩ = some (.slice none 0 0) := (blk_cell BK20011.out 1).trans rfl; have hfz13_0 := blk_frozen BK20011.out 0; have hfz13_1 := blk_frozen BK20011.out 1; obtain ⟨Ao14, co14, eo14⟩ := Kd.R_slice HO20004.out; subst eo14))
  go_loopg [17] k (fun kq v17 w' => ∃ (x17_1 : Int) (x20012000_1 : List (List Int)) (x20012001_1 : List Int) (u20012000 : Value) (u20012001 : Value), v17 = .int .i64 x17_1 ∧ Aside0 (spec_l2RawParseLayout.l0 kq a0 t20002 t20002 (t20002.length : Int) x17_1 x20012000_1 x20012001_1 = some (r1, r2, r3)) ∧ Aside0 (kq ≤ k) ∧ Aside0 (Kd.R Kd.string 9 w' w.heap.size (fun _ => True) (.slice Ao14 t20002.length co14) t20002) ∧ Aside0 (Kd.R Kd.string 9 w' w.heap.size (fun _ => True) (.slice Ao14 t20002.length co14) t20002) ∧ Aside0 (Kd.S (Kd.slice 3 (Kd.int .i64)) 23 w' w.heap.size (fun k_ => some k_ ≠ (u20012001 : Value).ownBlock) u20012000 x20012000_1) ∧ Aside0 (Kd.R (Kd.int .i64) 3 w' w.heap.size (fun _ => True) u20012001 x20012001_1) ∧ Aside0 (w'.heap[gb20001]? = some (.cells #[(.slice none 0 0), (.slice none 0 0)] 28 (0, 0))) ∧ Aside0 (w'.heap[gb20011]? = some (.cells #[u20012000, u20012001] 28 (0, 0))) ∧ Aside0 (Below w.heap.size w w'))
  case atStart => exact ⟨(0), (y20005), (y20008), (.slice Ao10 y20005.length co10), (.slice Ao9 y20008.length co9), (by first | rfl | (simp; done) | (simp [*]; done)), H', ⟨Nat.le_refl _⟩, ⟨by (with_reducible repeat (first | apply Kd.R_alloc | apply Kd.R_drewN | apply Kd.R_drew)); exact Kd.R_mono (Kd.R_far (p := ⟨gb20011, 1, none⟩) (Kd.R_far (p := ⟨gb20011, 0, none⟩) (Kd.R_types HO20004.out BK20011.out (by decide)) (fun _ hk => hk.2) (.slice Ao10 y20005.length co10)) (fun _ hk => hk.2) (.slice Ao9 y20008.length co9)) (fun _ hk => trivial)⟩, ⟨by (with_reducible repeat (first | apply Kd.R_alloc | apply Kd.R_drewN | apply Kd.R_drew)); exact Kd.R_mono (Kd.R_far (p := ⟨gb20011, 1, none⟩) (Kd.R_far (p := ⟨gb20011, 0, none⟩) (Kd.R_types HO20004.out BK20011.out (by decide)) (fun _ hk => hk.2) (.slice Ao10 y20005.length co10)) (fun _ hk => hk.2) (.slice Ao9 y20008.length co9)) (fun _ hk => trivial)⟩, ⟨by (with_reducible repeat (first | apply Kd.S_alloc | apply Kd.S_drewN | apply Kd.S_drew)); exact Kd.S_mono (Kd.S_far (p := ⟨gb20011, 1, none⟩) (Kd.S_far (p := ⟨gb20011, 0, none⟩) (Kd.S_types HO20007.out BK20011.out (by decide)) (fun _ hk => hk.2) (.slice Ao10 y20005.length co10)) (fun _ hk => hk.2) (.slice Ao9 y20008.length co9)) (fun _ hk => hk.1.2)⟩, ⟨by (with_reducible repeat (first | apply Kd.R_alloc | apply Kd.R_drewN | apply Kd.R_drew)); exact Kd.R_mono (Kd.R_far (p := ⟨gb20011, 1, none⟩) (Kd.R_far (p := ⟨gb20011, 0, none⟩) (Kd.R_types HO20010.out BK20011.out (by decide)) (fun _ hk => hk.2) (.slice Ao10 y20005.length co10)) (fun _ hk => hk.2) (.slice Ao9 y20008.length co9)) (fun _ hk => trivial)⟩, ⟨by (with_reducible repeat (first | refine blk_drewN ?_ _ | refine blk_drew ?_ | refine blk_alloc ?_ _)); refine blk_far ?_ NB20001_20011.out _; (with_reducible repeat (first | refine blk_drewN ?_ _ | refine blk_drew ?_ | refine blk_alloc ?_ _)); refine blk_far ?_ NB20001_20011.out _; (with_reducible repeat (first | refine blk_drewN ?_ _ | refine blk_drew ?_ | refine blk_alloc ?_ _)); exact BK20001.out⟩, ⟨by (with_reducible repeat (first | refine blk_drewN ?_ _ | refine blk_drew ?_ | refine blk_alloc ?_ _)); refine blk_put (cs := #[.slice Ao10 y20005.length co10, .slice none 0 0]) ?_ 1 _ rfl; (with_reducible repeat (first | refine blk_drewN ?_ _ | refine blk_drew ?_ | refine blk_alloc ?_ _)); refine blk_put (cs := #[.slice none 0 0, .slice none 0 0]) ?_ 0 _ rfl; (with_reducible repeat (first | refine blk_drewN ?_ _ | refine blk_drew ?_ | refine blk_alloc ?_ _)); exact BK20011.out⟩, ⟨by repeat (first | (with_reducible first | exact HB.out | apply below_alloc | apply pw_below_drewN | apply below_drew1 | refine below_set ?_ GE20001.out | refine below_set ?_ GE20011.out) | exact HB.out)⟩⟩
  case round =>
    clear H'
    try clear c1
    try clear c2
    try clear p2
    try clear c4
    try clear c12
    try clear hcz13_0
    try clear hcz13_1
    try clear hfz13_0
    try clear hfz13_1
    obtain ⟨x17_1, x20012000_1, x20012001_1, u20012000, u20012001, rfl, HA, HK1, HO_4, HO_15, HO_20012000, HO_20012001, BK20001, BK20011, HB⟩ := hrel
    cases gk with
    | zero => exact absurd HA.out (by simp [spec_l2RawParseLayout.l0])
    | succ k1 =>
      have H := HA.out
      clear HA
      simp only [spec_l2RawParseLayout.l0] at H
      by_cases c15 : x17_1 < (t20002.length : Int)
      · rw [if_pos c15] at H
        have c15b0 : decide (x17_1 < (t20002.length : Int)) = true := decide_eq_true c15
        clear c15
        by_cases c16 : 0 ≤ x17_1
        · rw [if_pos c16] at H
          have c16b0 : decide (0 ≤ x17_1) = true := decide_eq_true c16
          clear c16
          by_cases c17 : x17_1 < (t20002.length : Int)
          · rw [if_pos c17] at H
            have c17b0 : decide (x17_1 < (t20002.length : Int)) = true := decide_eq_true c17
            clear c17
            replace H := Option.bind_eq_some_iff.mp H
            obtain ⟨⟨t20013, t20014⟩, A180, H⟩ := H
            replace H : (if t20014 = true then (if x17_1 = (wrap64 ((t20002.length : Int) - 1)) then (spec_l2RawParseLayout.l0 k1 a0 t20002 t20002 (t20002.length : Int) (wrap64 (x17_1 + 1)) x20012000_1 t20013) else (if x20012000_1.length < 5864062014805 then (spec_l2RawParseLayout.l0 k1 a0 t20002 t20002 (t20002.length : Int) (wrap64 (x17_1 + 1)) (x20012000_1 ++ [t20013]) x20012001_1) else (none))) else (some (([] : List (List Int)), ([] : List Int), false))) = some (r1, r2, r3) := H
            have A18 := Aside0.mk A180
            clear A180
            by_cases c19 : t20014 = true
            · subst c19
              have H1 : (if x17_1 = (wrap64 ((t20002.length : Int) - 1)) then (spec_l2RawParseLayout.l0 k1 a0 t20002 t20002 (t20002.length : Int) (wrap64 (x17_1 + 1)) x20012000_1 t20013) else (if x20012000_1.length < 5864062014805 then (spec_l2RawParseLayout.l0 k1 a0 t20002 t20002 (t20002.length : Int) (wrap64 (x17_1 + 1)) (x20012000_1 ++ [t20013]) x20012001_1) else (none))) = some (r1, r2, r3) := by rw [if_pos rfl] at H; exact H
              clear H
              have H := H1
              clear H1
              by_cases c20 : x17_1 = (wrap64 ((t20002.length : Int) - 1))
              · rw [if_pos c20] at H
                have c20b0 : (x17_1 == (wrap64 ((t20002.length : Int) - 1))) = true := beq_iff_eq.mpr c20
                have c20b1 : (x17_1 != (wrap64 ((t20002.length : Int) - 1))) = false := bne_eq_false_iff_eq.mpr c20
                clear c20
                have H' := Aside0.mk H
                clear H
                have p20012 : 0 ≤ (x17_1 : Int) := of_decide_eq_true (by first | (with_reducible assumption) | assumption)
                have q20012 : x17_1 < (t20002.length : Int) := of_decide_eq_true (by first | (with_reducible assumption) | assumption)
                obtain ⟨ad20012, e20012, hx20012_0⟩ := Kd.at_string (Kd.R_reads' HO_15.out).2.2 x17_1 p20012 q20012
                cases e20012
                replace p20012 := eq_true p20012
                replace q20012 := eq_true q20012
                go_wp2_with (first | ((with_reducible refine gate_callee (f := 44) rfl ?_); refine goesL_ (some 24) rfl rfl Tryd.func44 (by kernel_rfl) rfl #[.string (rdOf ByteArray.empty t20002 x17_1)] rfl (by (try simp only [List.map_toArray, List.map_cons, List.map_nil]); first | done | rfl | (simp only [List.length_drop, List.length_take]; rfl)) ?_; (with_reducible refine (spec_l2Read.calls k1 (rdOf ByteArray.empty t20002 x17_1) t20013 true _ A18.out).mono ?_); rintro e w21 ⟨v20015, rfl, ho0, hb⟩; refine ⟨_, rfl, ?_⟩; have n0_ := Aside0.mk (Kd.R_below (by (with_reducible repeat (first | apply Kd.R_alloc | apply Kd.R_drewN | apply Kd.R_drew)); exact HO_4.out) hb); have n1_ := Aside0.mk (Kd.R_below (by (with_reducible repeat (first | apply Kd.R_alloc | apply Kd.R_drewN | apply Kd.R_drew)); exact HO_15.out) hb); have n2_ := Aside0.mk (Kd.S_elder' (by (with_reducible repeat (first | apply Kd.S_alloc | apply Kd.S_drewN | apply Kd.S_drew)); exact HO_20012000.out) (Kd.R_base ho0) hb); have n3_ := Aside0.mk (Kd.R_elder' (by (with_reducible repeat (first | apply Kd.R_alloc | apply Kd.R_drewN | apply Kd.R_drew)); exact HO_20012001.out) (Kd.R_base ho0) hb); have n4_ := Aside0.mk (Kd.R_lower (Kd.R_new' ho0 (Kd.R_lt (by (with_reducible repeat (first | apply Kd.R_alloc | apply Kd.R_drewN | apply Kd.R_drew)); exact HO_20012001.out))) (below_size (by repeat (first | (with_reducible first | exact HB.out | apply below_alloc | apply pw_below_drewN | apply below_drew1 | refine below_set ?_ GE20001.out | refine below_set ?_ GE20011.out) | exact HB.out)))); have n5_ := Aside0.mk (blk_below (g := gb20001) (o := .cells #[.slice none 0 0, .slice none 0 0] 28 (0, 0)) (by (with_reducible repeat (first | refine blk_drewN ?_ _ | refine blk_drew ?_ | refine blk_alloc ?_ _)); exact BK20001.out) hb); have n6_ := Aside0.mk (blk_below (g := gb20011) (o := .cells #[u20012000, u20012001] 28 (0, 0)) (by (with_reducible repeat (first | refine blk_drewN ?_ _ | refine blk_drew ?_ | refine blk_alloc ?_ _)); exact BK20011.out) hb); have n7_ := Aside0.mk (below_step (by repeat (first | (with_reducible first | exact HB.out | apply below_alloc | apply pw_below_drewN | apply below_drew1 | refine below_set ?_ GE20001.out | refine below_set ?_ GE20011.out) | exact HB.out)) hb); clear HO_4; clear HO_15; clear HO_20012000; clear HO_20012001; clear BK20001; clear BK20011; clear HB; have HO_4 := n0_; have HO_15 := n1_; have HO_20012000 := n2_; have HO_20012001 := n3_; have HO20016 := n4_; have BK20001 := n5_; have BK20011 := n6_; have HB := n7_; clear n0_ n1_ n2_ n3_ n4_ n5_ n6_ n7_; (try clear hb); (try clear hb2); (try clear hk); (try clear hi); (try clear ho0); obtain ⟨Ao22, co22, eo22⟩ := Kd.R_slice HO20016.out; subst eo22; have hnb23 := NB20011_20001.out; have hnc23 := NB20001_20011.out; have hcz24_0 : w21.cell? ⟨gb20011, 0, none⟩ = some (u20012000) := (blk_cell BK20011.out 0).trans rfl; have hcz24_1 : w21.cell? ⟨gb20011, 1, none⟩ = some (u20012001) := (blk_cell BK20011.out 1).trans rfl; have hfz24_0 := blk_frozen BK20011.out 0; have hfz24_1 := blk_frozen BK20011.out 1))
                go_roundg k1
                case measure => have := HK1.out; omega
                case rel => exact ⟨(wrap64 (x17_1 + 1)), (x20012000_1), (t20013), (u20012000), (.slice Ao22 t20013.length co22), (by first | rfl | (simp; done) | (simp [*]; done)), H', ⟨by have := HK1.out; omega⟩, ⟨by (with_reducible repeat (first | apply Kd.R_alloc | apply Kd.R_drewN | apply Kd.R_drew)); exact Kd.R_mono (Kd.R_far (p := ⟨gb20011, 1, none⟩) (Kd.R_types HO_4.out BK20011.out (by decide)) (fun _ hk => hk.2) (.slice Ao22 t20013.length co22)) (fun _ hk => trivial)⟩, ⟨by (with_reducible repeat (first | apply Kd.R_alloc | apply Kd.R_drewN | apply Kd.R_drew)); exact Kd.R_mono (Kd.R_far (p := ⟨gb20011, 1, none⟩) (Kd.R_types HO_15.out BK20011.out (by decide)) (fun _ hk => hk.2) (.slice Ao22 t20013.length co22)) (fun _ hk => trivial)⟩, ⟨by (with_reducible repeat (first | apply Kd.S_alloc | apply Kd.S_drewN | apply Kd.S_drew)); exact Kd.S_mono (Kd.S_far (p := ⟨gb20011, 1, none⟩) (Kd.S_types HO_20012000.out BK20011.out (by decide)) (fun _ hk => hk.2) (.slice Ao22 t20013.length co22)) (fun _ hk => hk.1.2)⟩, ⟨by (with_reducible repeat (first | apply Kd.R_alloc | apply Kd.R_drewN | apply Kd.R_drew)); exact Kd.R_mono (Kd.R_far (p := ⟨gb20011, 1, none⟩) (Kd.R_types HO20016.out BK20011.out (by decide)) (fun _ hk => hk.2) (.slice Ao22 t20013.length co22)) (fun _ hk => trivial)⟩, ⟨by (with_reducible repeat (first | refine blk_drewN ?_ _ | refine blk_drew ?_ | refine blk_alloc ?_ _)); refine blk_far ?_ NB20001_20011.out _; (with_reducible repeat (first | refine blk_drewN ?_ _ | refine blk_drew ?_ | refine blk_alloc ?_ _)); exact BK20001.out⟩, ⟨by (with_reducible repeat (first | refine blk_drewN ?_ _ | refine blk_drew ?_ | refine blk_alloc ?_ _)); refine blk_put (cs := #[u20012000, u20012001]) ?_ 1 _ rfl; (with_reducible repeat (first | refine blk_drewN ?_ _ | refine blk_drew ?_ | refine blk_alloc ?_ _)); exact BK20011.out⟩, ⟨by repeat (first | (with_reducible first | exact HB.out | apply below_alloc | apply pw_below_drewN | apply below_drew1 | refine below_set ?_ GE20001.out | refine below_set ?_ GE20011.out) | exact HB.out)⟩⟩
              · rw [if_neg c20] at H
                have c20b0 : (x17_1 == (wrap64 ((t20002.length : Int) - 1))) = false := beq_eq_false_iff_ne.mpr c20
                have c20b1 : (x17_1 != (wrap64 ((t20002.length : Int) - 1))) = true := bne_iff_ne.mpr c20
                by_cases c25 : x20012000_1.length < 5864062014805
                · rw [if_pos c25] at H
                  have LMc25 := Aside0.mk c25
                  clear c25
                  obtain ⟨y20017, hy20017⟩ : ∃ y_ : List (List Int), y_ = (x20012000_1 ++ [t20013]) := ⟨_, rfl⟩
                  replace H : (spec_l2RawParseLayout.l0 k1 a0 t20002 t20002 (t20002.length : Int) (wrap64 (x17_1 + 1)) y20017 x20012001_1) = some (r1, r2, r3) := by first | (rw [hy20017]; with_reducible exact H) | (have H2_ := (Option.bind_some _ _).symm.trans H; rw [hy20017]; with_reducible exact H2_) | (have H2_ := (Option.bind_some _ _).symm.trans H; with_reducible exact H2_) | with_reducible exact H | (rw [hy20017]; exact H) | exact H
                  have Ny20017 := Aside0.mk hy20017
                  clear hy20017
                  have H' := Aside0.mk H
                  clear H
                  have p20012 : 0 ≤ (x17_1 : Int) := of_decide_eq_true (by first | (with_reducible assumption) | assumption)
                  have q20012 : x17_1 < (t20002.length : Int) := of_decide_eq_true (by first | (with_reducible assumption) | assumption)
                  obtain ⟨ad20012, e20012, hx20012_0⟩ := Kd.at_string (Kd.R_reads' HO_15.out).2.2 x17_1 p20012 q20012
                  cases e20012
                  replace p20012 := eq_true p20012
                  replace q20012 := eq_true q20012
                  go_wp2_with (first | ((with_reducible refine gate_callee (f := 44) rfl ?_); refine goesL_ (some 24) rfl rfl Tryd.func44 (by kernel_rfl) rfl #[.string (rdOf ByteArray.empty t20002 x17_1)] rfl (by (try simp only [List.map_toArray, List.map_cons, List.map_nil]); first | done | rfl | (simp only [List.length_drop, List.length_take]; rfl)) ?_; (with_reducible refine (spec_l2Read.calls k1 (rdOf ByteArray.empty t20002 x17_1) t20013 true _ A18.out).mono ?_); rintro e w26 ⟨v20015, rfl, ho0, hb⟩; refine ⟨_, rfl, ?_⟩; have n0_ := Aside0.mk (Kd.R_below (by (with_reducible repeat (first | apply Kd.R_alloc | apply Kd.R_drewN | apply Kd.R_drew)); exact HO_4.out) hb); have n1_ := Aside0.mk (Kd.R_below (by (with_reducible repeat (first | apply Kd.R_alloc | apply Kd.R_drewN | apply Kd.R_drew)); exact HO_15.out) hb); have n2_ := Aside0.mk (Kd.S_elder' (by (with_reducible repeat (first | apply Kd.S_alloc | apply Kd.S_drewN | apply Kd.S_drew)); exact HO_20012000.out) (Kd.R_base ho0) hb); have n3_ := Aside0.mk (Kd.R_elder' (by (with_reducible repeat (first | apply Kd.R_alloc | apply Kd.R_drewN | apply Kd.R_drew)); exact HO_20012001.out) (Kd.R_base ho0) hb); have n4_ := Aside0.mk (Kd.R_lower (Kd.R_new' ho0 (Kd.R_lt (by (with_reducible repeat (first | apply Kd.R_alloc | apply Kd.R_drewN | apply Kd.R_drew)); exact HO_20012001.out))) (below_size (by repeat (first | (with_reducible first | exact HB.out | apply below_alloc | apply pw_below_drewN | apply below_drew1 | refine below_set ?_ GE20001.out | refine below_set ?_ GE20011.out) | exact HB.out)))); have n5_ := Aside0.mk (blk_below (g := gb20001) (o := .cells #[.slice none 0 0, .slice none 0 0] 28 (0, 0)) (by (with_reducible repeat (first | refine blk_drewN ?_ _ | refine blk_drew ?_ | refine blk_alloc ?_ _)); exact BK20001.out) hb); have n6_ := Aside0.mk (blk_below (g := gb20011) (o := .cells #[u20012000, u20012001] 28 (0, 0)) (by (with_reducible repeat (first | refine blk_drewN ?_ _ | refine blk_drew ?_ | refine blk_alloc ?_ _)); exact BK20011.out) hb); have n7_ := Aside0.mk (below_step (by repeat (first | (with_reducible first | exact HB.out | apply below_alloc | apply pw_below_drewN | apply below_drew1 | refine below_set ?_ GE20001.out | refine below_set ?_ GE20011.out) | exact HB.out)) hb); clear HO_4; clear HO_15; clear HO_20012000; clear HO_20012001; clear BK20001; clear BK20011; clear HB; have HO_4 := n0_; have HO_15 := n1_; have HO_20012000 := n2_; have HO_20012001 := n3_; have HO20016 := n4_; have BK20001 := n5_; have BK20011 := n6_; have HB := n7_; clear n0_ n1_ n2_ n3_ n4_ n5_ n6_ n7_; (try clear hb); (try clear hb2); (try clear hk); (try clear hi); (try clear ho0); have hnb27 := NB20011_20001.out; have hnc27 := NB20001_20011.out; have hcz28_0 : w26.cell? ⟨gb20011, 0, none⟩ = some (u20012000) := (blk_cell BK20011.out 0).trans rfl; have hcz28_1 : w26.cell? ⟨gb20011, 1, none⟩ = some (u20012001) := (blk_cell BK20011.out 1).trans rfl; have hfz28_0 := blk_frozen BK20011.out 0; have hfz28_1 := blk_frozen BK20011.out 1; obtain ⟨Ao30, co30, eo30⟩ := Kd.R_slice HO20016.out; subst eo30) | ((with_reducible refine gate_builtin (b := .append) (xs := #[.tmp 38, .tmp 40]) rfl ?_); at_builtin; refine Kd.S_append (Kd.slice 3 (Kd.int .i64)) (w0 := w) w.heap.size rfl (.tmp 38) (.tmp 40) 22 23 (.slice none 0 0) 24 rfl Tryd.underlying22 info23 rfl (by decide) (by omega) u20012000 x20012000_1 t20013 [.slice Ao30 t20013.length co30] (fun k_ => some k_ ≠ (u20012001 : Value).ownBlock) (fun k_ => some k_ = (.slice Ao30 t20013.length co30 : Value).ownBlock) rfl rfl ?aP (fun k_ hk_ => ((Kd.R_mono (ok' := fun k_ => ((fun k_ => some k_ ≠ (u20012001 : Value).ownBlock)) k_ ∧ some k_ ≠ (u20012000 : Value).ownBlock) (Kd.R_apart' (HO20016.out) (Kd.S_typed HO_20012000.out) (by decide)) (fun k_ hk => ⟨hk.1.2, hk.2⟩))).1 k_ hk_.symm) ?aF ?aO ?aB ?aS ?aL ?_; (case aP => exact Kd.M_row (Kd.R_mono (Kd.R_tight rfl (Kd.R_mono (ok' := fun k_ => ((fun k_ => some k_ ≠ (u20012001 : Value).ownBlock)) k_ ∧ some k_ ≠ (u20012000 : Value).ownBlock) (Kd.R_apart' (HO20016.out) (Kd.S_typed HO_20012000.out) (by decide)) (fun k_ hk => ⟨hk.1.2, hk.2⟩))) (fun _ h_ => h_))); (case aB => exact (by repeat (first | (with_reducible first | exact HB.out | apply below_alloc | apply pw_below_drewN | apply below_drew1 | refine below_set ?_ GE20001.out | refine below_set ?_ GE20011.out) | exact HB.out))); (case aF => exact (fun k_ hk => Kd.fresh' (Kd.R_lt (by (with_reducible repeat (first | apply Kd.R_alloc | apply Kd.R_drewN | apply Kd.R_drew)); exact HO_20012001.out)) k_ hk)); (case aO => exact (by (with_reducible repeat (first | apply Kd.S_alloc | apply Kd.S_drewN | apply Kd.S_drew)); exact Kd.S_mono HO_20012000.out (fun k_ hk => ⟨hk.1, fun e_ => hk.2 e_⟩))); (case aS => exact (below_size (by repeat (first | (with_reducible first | exact HB.out | apply below_alloc | apply pw_below_drewN | apply below_drew1 | refine below_set ?_ GE20001.out | refine below_set ?_ GE20011.out) | exact HB.out)))); (case aL => have := LMc25.out; omega); intro v20018 w29 ho hb hg hat; rw [← Ny20017.out] at ho; have n0_ := Aside0.mk (Kd.R_over' (by (with_reducible repeat (first | apply Kd.R_alloc | apply Kd.R_drewN | apply Kd.R_drew)); exact HO_4.out) (Kd.S_typed (by (with_reducible repeat (first | apply Kd.S_alloc | apply Kd.S_drewN | apply Kd.S_drew)); exact HO_20012000.out)) (by decide) hg); have n1_ := Aside0.mk (Kd.R_over' (by (with_reducible repeat (first | apply Kd.R_alloc | apply Kd.R_drewN | apply Kd.R_drew)); exact HO_15.out) (Kd.S_typed (by (with_reducible repeat (first | apply Kd.S_alloc | apply Kd.S_drewN | apply Kd.S_drew)); exact HO_20012000.out)) (by decide) hg); have n2_ := Aside0.mk (Kd.R_over' (by (with_reducible repeat (first | apply Kd.R_alloc | apply Kd.R_drewN | apply Kd.R_drew)); exact HO_20012001.out) (Kd.S_typed (by (with_reducible repeat (first | apply Kd.S_alloc | apply Kd.S_drewN | apply Kd.S_drew)); exact HO_20012000.out)) (by decide) hg); have n3_ := Aside0.mk (blk_grown (g := gb20001) (o := .cells #[.slice none 0 0, .slice none 0 0] 28 (0, 0)) (by (with_reducible repeat (first | refine blk_drewN ?_ _ | refine blk_drew ?_ | refine blk_alloc ?_ _)); exact BK20001.out) hg (Kd.S_ne HO_20012000.out BK20001.out (by decide))); have n4_ := Aside0.mk (blk_grown (g := gb20011) (o := .cells #[u20012000, u20012001] 28 (0, 0)) (by (with_reducible repeat (first | refine blk_drewN ?_ _ | refine blk_drew ?_ | refine blk_alloc ?_ _)); exact BK20011.out) hg (Kd.S_ne HO_20012000.out BK20011.out (by decide))); have n5_ := Aside0.mk (hb); have n6_ := Aside0.mk (ho); clear HO_4; clear HO_15; clear HO_20012001; clear BK20001; clear BK20011; clear HB; clear HO_20012000; clear HO20016; have HO_4 := n0_; have HO_15 := n1_; have HO_20012001 := n2_; have BK20001 := n3_; have BK20011 := n4_; have HB := n5_; have HO20019 := n6_; clear n0_ n1_ n2_ n3_ n4_ n5_ n6_; clear ho hb hg hat; obtain ⟨Ao31, co31, eo31⟩ := Kd.S_slice HO20019.out; subst eo31; have hcz32_0 : w29.cell? ⟨gb20011, 0, none⟩ = some (u20012000) := (blk_cell BK20011.out 0).trans rfl; have hcz32_1 : w29.cell? ⟨gb20011, 1, none⟩ = some (u20012001) := (blk_cell BK20011.out 1).trans rfl; have hfz32_0 := blk_frozen BK20011.out 0; have hfz32_1 := blk_frozen BK20011.out 1))
                  go_roundg k1
                  case measure => have := HK1.out; omega
                  case rel => exact ⟨(wrap64 (x17_1 + 1)), (y20017), (x20012001_1), (.slice Ao31 y20017.length co31), (u20012001), (by first | rfl | (simp; done) | (simp [*]; done)), H', ⟨by have := HK1.out; omega⟩, ⟨by (with_reducible repeat (first | apply Kd.R_alloc | apply Kd.R_drewN | apply Kd.R_drew)); exact Kd.R_mono (Kd.R_far (p := ⟨gb20011, 0, none⟩) (Kd.R_types HO_4.out BK20011.out (by decide)) (fun _ hk => hk.2) (.slice Ao31 y20017.length co31)) (fun _ hk => trivial)⟩, ⟨by (with_reducible repeat (first | apply Kd.R_alloc | apply Kd.R_drewN | apply Kd.R_drew)); exact Kd.R_mono (Kd.R_far (p := ⟨gb20011, 0, none⟩) (Kd.R_types HO_15.out BK20011.out (by decide)) (fun _ hk => hk.2) (.slice Ao31 y20017.length co31)) (fun _ hk => trivial)⟩, ⟨by (with_reducible repeat (first | apply Kd.S_alloc | apply Kd.S_drewN | apply Kd.S_drew)); exact Kd.S_mono (Kd.S_far (p := ⟨gb20011, 0, none⟩) (Kd.S_types HO20019.out BK20011.out (by decide)) (fun _ hk => hk.2) (.slice Ao31 y20017.length co31)) (fun _ hk => hk.1)⟩, ⟨by (with_reducible repeat (first | apply Kd.R_alloc | apply Kd.R_drewN | apply Kd.R_drew)); exact Kd.R_mono (Kd.R_far (p := ⟨gb20011, 0, none⟩) (Kd.R_types HO_20012001.out BK20011.out (by decide)) (fun _ hk => hk.2) (.slice Ao31 y20017.length co31)) (fun _ hk => trivial)⟩, ⟨by (with_reducible repeat (first | refine blk_drewN ?_ _ | refine blk_drew ?_ | refine blk_alloc ?_ _)); refine blk_far ?_ NB20001_20011.out _; (with_reducible repeat (first | refine blk_drewN ?_ _ | refine blk_drew ?_ | refine blk_alloc ?_ _)); exact BK20001.out⟩, ⟨by (with_reducible repeat (first | refine blk_drewN ?_ _ | refine blk_drew ?_ | refine blk_alloc ?_ _)); refine blk_put (cs := #[u20012000, u20012001]) ?_ 0 _ rfl; (with_reducible repeat (first | refine blk_drewN ?_ _ | refine blk_drew ?_ | refine blk_alloc ?_ _)); exact BK20011.out⟩, ⟨by repeat (first | (with_reducible first | exact HB.out | apply below_alloc | apply pw_below_drewN | apply below_drew1 | refine below_set ?_ GE20001.out | refine below_set ?_ GE20011.out) | exact HB.out)⟩⟩
                · rw [if_neg c25] at H
                  exact absurd H (by simp)
            · replace c19 := Bool.eq_false_iff.mpr c19
              subst c19
              have H1 : (some (([] : List (List Int)), ([] : List Int), false)) = some (r1, r2, r3) := by rw [if_neg (show ¬ (false = true) by decide)] at H; exact H
              clear H
              have H := H1
              clear H1
              simp only [Option.some.injEq, Prod.mk.injEq] at H
              obtain ⟨rfl, rfl, rfl⟩ := H
              have p20012 : 0 ≤ (x17_1 : Int) := of_decide_eq_true (by first | (with_reducible assumption) | assumption)
              have q20012 : x17_1 < (t20002.length : Int) := of_decide_eq_true (by first | (with_reducible assumption) | assumption)
              obtain ⟨ad20012, e20012, hx20012_0⟩ := Kd.at_string (Kd.R_reads' HO_15.out).2.2 x17_1 p20012 q20012
              cases e20012
              replace p20012 := eq_true p20012
              replace q20012 := eq_true q20012
              go_wp2_with (first | ((with_reducible refine gate_callee (f := 44) rfl ?_); refine goesL_ (some 24) rfl rfl Tryd.func44 (by kernel_rfl) rfl #[.string (rdOf ByteArray.empty t20002 x17_1)] rfl (by (try simp only [List.map_toArray, List.map_cons, List.map_nil]); first | done | rfl | (simp only [List.length_drop, List.length_take]; rfl)) ?_; (with_reducible refine (spec_l2Read.calls k1 (rdOf ByteArray.empty t20002 x17_1) t20013 false _ A18.out).mono ?_); rintro e w33 ⟨v20015, rfl, ho0, hb⟩; refine ⟨_, rfl, ?_⟩; have n0_ := Aside0.mk (Kd.R_below (by (with_reducible repeat (first | apply Kd.R_alloc | apply Kd.R_drewN | apply Kd.R_drew)); exact HO_4.out) hb); have n1_ := Aside0.mk (Kd.R_below (by (with_reducible repeat (first | apply Kd.R_alloc | apply Kd.R_drewN | apply Kd.R_drew)); exact HO_15.out) hb); have n2_ := Aside0.mk (Kd.S_elder' (by (with_reducible repeat (first | apply Kd.S_alloc | apply Kd.S_drewN | apply Kd.S_drew)); exact HO_20012000.out) (Kd.R_base ho0) hb); have n3_ := Aside0.mk (Kd.R_elder' (by (with_reducible repeat (first | apply Kd.R_alloc | apply Kd.R_drewN | apply Kd.R_drew)); exact HO_20012001.out) (Kd.R_base ho0) hb); have n4_ := Aside0.mk (Kd.R_lower (Kd.R_new' ho0 (Kd.R_lt (by (with_reducible repeat (first | apply Kd.R_alloc | apply Kd.R_drewN | apply Kd.R_drew)); exact HO_20012001.out))) (below_size (by repeat (first | (with_reducible first | exact HB.out | apply below_alloc | apply pw_below_drewN | apply below_drew1 | refine below_set ?_ GE20001.out | refine below_set ?_ GE20011.out) | exact HB.out)))); have n5_ := Aside0.mk (blk_below (g := gb20001) (o := .cells #[.slice none 0 0, .slice none 0 0] 28 (0, 0)) (by (with_reducible repeat (first | refine blk_drewN ?_ _ | refine blk_drew ?_ | refine blk_alloc ?_ _)); exact BK20001.out) hb); have n6_ := Aside0.mk (blk_below (g := gb20011) (o := .cells #[u20012000, u20012001] 28 (0, 0)) (by (with_reducible repeat (first | refine blk_drewN ?_ _ | refine blk_drew ?_ | refine blk_alloc ?_ _)); exact BK20011.out) hb); have n7_ := Aside0.mk (below_step (by repeat (first | (with_reducible first | exact HB.out | apply below_alloc | apply pw_below_drewN | apply below_drew1 | refine below_set ?_ GE20001.out | refine below_set ?_ GE20011.out) | exact HB.out)) hb); clear HO_4; clear HO_15; clear HO_20012000; clear HO_20012001; clear BK20001; clear BK20011; clear HB; have HO_4 := n0_; have HO_15 := n1_; have HO_20012000 := n2_; have HO_20012001 := n3_; have HO20016 := n4_; have BK20001 := n5_; have BK20011 := n6_; have HB := n7_; clear n0_ n1_ n2_ n3_ n4_ n5_ n6_ n7_; (try clear hb); (try clear hb2); (try clear hk); (try clear hi); (try clear ho0); have hnb34 := NB20001_20011.out; have hnc34 := NB20011_20001.out; have hcz35_0 : w33.cell? ⟨gb20001, 0, none⟩ = some (.slice none 0 0) := (blk_cell BK20001.out 0).trans rfl; have hcz35_1 : w33.cell? ⟨gb20001, 1, none⟩ = some (.slice none 0 0) := (blk_cell BK20001.out 1).trans rfl; have hfz35_0 := blk_frozen BK20001.out 0; have hfz35_1 := blk_frozen BK20001.out 1))
              refine bodyPost_ret (results_ct rfl _ _ gb20001 28 #[.slice none 0 0, .slice none 0 0] (0, 0) _ rfl (by (with_reducible repeat (first | refine blk_drewN ?_ _ | refine blk_drew ?_ | refine blk_alloc ?_ _)); refine blk_put (cs := #[.slice none 0 0, .slice none 0 0]) ?_ 1 _ rfl; (with_reducible repeat (first | refine blk_drewN ?_ _ | refine blk_drew ?_ | refine blk_alloc ?_ _)); refine blk_put (cs := #[.slice none 0 0, .slice none 0 0]) ?_ 0 _ rfl; (with_reducible repeat (first | refine blk_drewN ?_ _ | refine blk_drew ?_ | refine blk_alloc ?_ _)); exact BK20001.out) Tryd.underlying28 rfl (by kernel_rfl)) rfl ?_
              exact ⟨_, _, by first | rfl | (simp [errW_none, errW_some] <;> rfl) | (simp [*, errW_none, errW_some] <;> rfl), by first | exact Kd.S_nil _ _ _ _ _ | exact Kd.N_nil _ _ _ _ _ | exact Kd.V_nil _ _ _ _ _ | exact Kd.Q_nil _ _ _ _ _ | exact Kd.R_nil _ _ _ _ _, by first | exact Kd.R_nil _ _ _ _ _ | exact Kd.N_nil _ _ _ _ _ | exact Kd.V_nil _ _ _ _ _ | exact Kd.Q_nil _ _ _ _ _ | exact Kd.S_nil _ _ _ _ _, by repeat (first | (with_reducible first | exact HB.out | apply below_alloc | apply pw_below_drewN | apply below_drew1 | refine below_set ?_ GE20001.out | refine below_set ?_ GE20011.out) | exact HB.out)⟩
          · rw [if_neg c17] at H
            exact absurd H (by simp)
        · rw [if_neg c16] at H
          exact absurd H (by simp)
      · rw [if_neg c15] at H
        have c15b0 : decide (x17_1 < (t20002.length : Int)) = false := decide_eq_false c15
        clear c15
        replace H := Option.bind_eq_some_iff.mp H
        obtain ⟨t20020, A360, H⟩ := H
        replace H : (if t20020 = true then ((spec_FormatLayout.f x20012000_1 x20012001_1).bind fun t20021 => (if t20021.toList = a0.toList then (some (x20012000_1, x20012001_1, true)) else (some (([] : List (List Int)), ([] : List Int), false)))) else (some (([] : List (List Int)), ([] : List Int), false))) = some (r1, r2, r3) := H
        have A36 := Aside0.mk A360
        clear A360
        by_cases c37 : t20020 = true
        · subst c37
          have H1 : ((spec_FormatLayout.f x20012000_1 x20012001_1).bind fun t20021 => (if t20021.toList = a0.toList then (some (x20012000_1, x20012001_1, true)) else (some (([] : List (List Int)), ([] : List Int), false)))) = some (r1, r2, r3) := by rw [if_pos rfl] at H; exact H
          clear H
          have H := H1
          clear H1
          replace H := Option.bind_eq_some_iff.mp H
          obtain ⟨t20021, A380, H⟩ := H
          replace H : (if t20021.toList = a0.toList then (some (x20012000_1, x20012001_1, true)) else (some (([] : List (List Int)), ([] : List Int), false))) = some (r1, r2, r3) := H
          have A38 := Aside0.mk A380
          clear A380
          by_cases c39 : t20021.toList = a0.toList
          · rw [if_pos c39] at H
            have c39b0 : (t20021.toList == a0.toList) = true := beq_iff_eq.mpr c39
            have c39b1 : (t20021.toList != a0.toList) = false := bne_eq_false_iff_eq.mpr c39
            clear c39
            simp only [Option.some.injEq, Prod.mk.injEq] at H
            obtain ⟨rfl, rfl, rfl⟩ := H
            have hnb40 := NB20011_20001.out
            have hnc40 := NB20001_20011.out
            have hcz41_0 : wr.cell? ⟨gb20011, 0, none⟩ = some (u20012000) := (blk_cell BK20011.out 0).trans rfl
            have hcz41_1 : wr.cell? ⟨gb20011, 1, none⟩ = some (u20012001) := (blk_cell BK20011.out 1).trans rfl
            have hfz41_0 := blk_frozen BK20011.out 0
            have hfz41_1 := blk_frozen BK20011.out 1
            obtain ⟨Ao42, co42, eo42⟩ := Kd.S_slice HO_20012000.out
            subst eo42
            obtain ⟨Ao43, co43, eo43⟩ := Kd.R_slice HO_20012001.out
            subst eo43
            go_wp2_with (first | ((with_reducible refine gate_callee (f := 35) rfl ?_); refine goesL_ (some 45) rfl rfl Tryd.func35 (by kernel_rfl) rfl #[.agg #[.slice Ao42 x20012000_1.length co42, .slice Ao43 x20012001_1.length co43]] rfl (by (try simp only [List.map_toArray, List.map_cons, List.map_nil]); first | done | rfl | (simp only [List.length_drop, List.length_take]; rfl)) ?_; (with_reducible refine (spec_LayoutValid.calls k1 _ _ x20012000_1 _ _ x20012001_1 true _ ?side1 ?side2 ?side3 ?side4 A36.out).mono ?_); (case side1 => repeat (first | exact (Kd.S_reads' HO_20012000.out).2.2 | (with_reducible refine Kd.C_alloc ?_ _) | (with_reducible refine Kd.C_drewN ?_ _) | (with_reducible refine Kd.C_drew ?_))); (case side2 => exact (Kd.S_reads' HO_20012000.out).2.1); (case side3 => repeat (first | exact (Kd.R_reads' HO_20012001.out).2.2 | (with_reducible refine Kd.C_alloc ?_ _) | (with_reducible refine Kd.C_drewN ?_ _) | (with_reducible refine Kd.C_drew ?_))); (case side4 => exact (Kd.R_reads' HO_20012001.out).2.1); rintro e w44 ⟨rfl, hb⟩; refine ⟨_, rfl, ?_⟩; have n0_ := Aside0.mk (Kd.R_below (by (with_reducible repeat (first | apply Kd.R_alloc | apply Kd.R_drewN | apply Kd.R_drew)); exact HO_4.out) hb); have n1_ := Aside0.mk (Kd.R_below (by (with_reducible repeat (first | apply Kd.R_alloc | apply Kd.R_drewN | apply Kd.R_drew)); exact HO_15.out) hb); have n2_ := Aside0.mk (Kd.S_below (by (with_reducible repeat (first | apply Kd.S_alloc | apply Kd.S_drewN | apply Kd.S_drew)); exact HO_20012000.out) hb); have n3_ := Aside0.mk (Kd.R_below (by (with_reducible repeat (first | apply Kd.R_alloc | apply Kd.R_drewN | apply Kd.R_drew)); exact HO_20012001.out) hb); have n4_ := Aside0.mk (blk_below (g := gb20001) (o := .cells #[.slice none 0 0, .slice none 0 0] 28 (0, 0)) (by (with_reducible repeat (first | refine blk_drewN ?_ _ | refine blk_drew ?_ | refine blk_alloc ?_ _)); exact BK20001.out) hb); have n5_ := Aside0.mk (blk_below (g := gb20011) (o := .cells #[.slice Ao42 x20012000_1.length co42, .slice Ao43 x20012001_1.length co43] 28 (0, 0)) (by (with_reducible repeat (first | refine blk_drewN ?_ _ | refine blk_drew ?_ | refine blk_alloc ?_ _)); exact BK20011.out) hb); have n6_ := Aside0.mk (below_step (by repeat (first | (with_reducible first | exact HB.out | apply below_alloc | apply pw_below_drewN | apply below_drew1 | refine below_set ?_ GE20001.out | refine below_set ?_ GE20011.out) | exact HB.out)) hb); clear HO_4; clear HO_15; clear HO_20012000; clear HO_20012001; clear BK20001; clear BK20011; clear HB; have HO_4 := n0_; have HO_15 := n1_; have HO_20012000 := n2_; have HO_20012001 := n3_; have BK20001 := n4_; have BK20011 := n5_; have HB := n6_; clear n0_ n1_ n2_ n3_ n4_ n5_ n6_; (try clear hb); (try clear hb2); (try clear hk); (try clear hi); have hcz45_0 : w44.cell? ⟨gb20011, 0, none⟩ = some (.slice Ao42 x20012000_1.length co42) := (blk_cell BK20011.out 0).trans rfl; have hcz45_1 : w44.cell? ⟨gb20011, 1, none⟩ = some (.slice Ao43 x20012001_1.length co43) := (blk_cell BK20011.out 1).trans rfl; have hfz45_0 := blk_frozen BK20011.out 0; have hfz45_1 := blk_frozen BK20011.out 1) | (go_at_call 7; (with_reducible refine (spec_FormatLayout.calls _ _ x20012000_1 _ _ x20012001_1 t20021 _ ?side1 ?side2 ?side3 ?side4 A38.out).mono ?_); (case side1 => repeat (first | exact (Kd.S_reads' HO_20012000.out).2.2 | (with_reducible refine Kd.C_alloc ?_ _) | (with_reducible refine Kd.C_drewN ?_ _) | (with_reducible refine Kd.C_drew ?_))); (case side2 => exact (Kd.S_reads' HO_20012000.out).2.1); (case side3 => repeat (first | exact (Kd.R_reads' HO_20012001.out).2.2 | (with_reducible refine Kd.C_alloc ?_ _) | (with_reducible refine Kd.C_drewN ?_ _) | (with_reducible refine Kd.C_drew ?_))); (case side4 => exact (Kd.R_reads' HO_20012001.out).2.1); rintro e w46 ⟨rfl, hb⟩; have n0_ := Aside0.mk (Kd.R_below (by (with_reducible repeat (first | apply Kd.R_alloc | apply Kd.R_drewN | apply Kd.R_drew)); exact HO_4.out) hb); have n1_ := Aside0.mk (Kd.R_below (by (with_reducible repeat (first | apply Kd.R_alloc | apply Kd.R_drewN | apply Kd.R_drew)); exact HO_15.out) hb); have n2_ := Aside0.mk (Kd.S_below (by (with_reducible repeat (first | apply Kd.S_alloc | apply Kd.S_drewN | apply Kd.S_drew)); exact HO_20012000.out) hb); have n3_ := Aside0.mk (Kd.R_below (by (with_reducible repeat (first | apply Kd.R_alloc | apply Kd.R_drewN | apply Kd.R_drew)); exact HO_20012001.out) hb); have n4_ := Aside0.mk (blk_below (g := gb20001) (o := .cells #[.slice none 0 0, .slice none 0 0] 28 (0, 0)) (by (with_reducible repeat (first | refine blk_drewN ?_ _ | refine blk_drew ?_ | refine blk_alloc ?_ _)); exact BK20001.out) hb); have n5_ := Aside0.mk (blk_below (g := gb20011) (o := .cells #[.slice Ao42 x20012000_1.length co42, .slice Ao43 x20012001_1.length co43] 28 (0, 0)) (by (with_reducible repeat (first | refine blk_drewN ?_ _ | refine blk_drew ?_ | refine blk_alloc ?_ _)); exact BK20011.out) hb); have n6_ := Aside0.mk (below_step (by repeat (first | (with_reducible first | exact HB.out | apply below_alloc | apply pw_below_drewN | apply below_drew1 | refine below_set ?_ GE20001.out | refine below_set ?_ GE20011.out) | exact HB.out)) hb); clear HO_4; clear HO_15; clear HO_20012000; clear HO_20012001; clear BK20001; clear BK20011; clear HB; have HO_4 := n0_; have HO_15 := n1_; have HO_20012000 := n2_; have HO_20012001 := n3_; have BK20001 := n4_; have BK20011 := n5_; have HB := n6_; clear n0_ n1_ n2_ n3_ n4_ n5_ n6_; (try clear hb); (try clear hb2); (try clear hk); (try clear hi); have hcz47_0 : w46.cell? ⟨gb20011, 0, none⟩ = some (.slice Ao42 x20012000_1.length co42) := (blk_cell BK20011.out 0).trans rfl; have hcz47_1 : w46.cell? ⟨gb20011, 1, none⟩ = some (.slice Ao43 x20012001_1.length co43) := (blk_cell BK20011.out 1).trans rfl; have hfz47_0 := blk_frozen BK20011.out 0; have hfz47_1 := blk_frozen BK20011.out 1; have hcz48_0 : w46.cell? ⟨gb20001, 0, none⟩ = some (.slice none 0 0) := (blk_cell BK20001.out 0).trans rfl; have hcz48_1 : w46.cell? ⟨gb20001, 1, none⟩ = some (.slice none 0 0) := (blk_cell BK20001.out 1).trans rfl; have hfz48_0 := blk_frozen BK20001.out 0; have hfz48_1 := blk_frozen BK20001.out 1))
            refine bodyPost_ret (results_ct rfl _ _ gb20001 28 #[.slice Ao42 x20012000_1.length co42, .slice Ao43 x20012001_1.length co43] (0, 0) _ rfl (by (with_reducible repeat (first | refine blk_drewN ?_ _ | refine blk_drew ?_ | refine blk_alloc ?_ _)); refine blk_put (cs := #[.slice Ao42 x20012000_1.length co42, .slice none 0 0]) ?_ 1 _ rfl; (with_reducible repeat (first | refine blk_drewN ?_ _ | refine blk_drew ?_ | refine blk_alloc ?_ _)); refine blk_put (cs := #[.slice none 0 0, .slice none 0 0]) ?_ 0 _ rfl; (with_reducible repeat (first | refine blk_drewN ?_ _ | refine blk_drew ?_ | refine blk_alloc ?_ _)); exact BK20001.out) Tryd.underlying28 rfl (by kernel_rfl)) rfl ?_
            exact ⟨_, _, by first | rfl | (simp [errW_none, errW_some] <;> rfl) | (simp [*, errW_none, errW_some] <;> rfl), by (with_reducible repeat (first | apply Kd.S_alloc | apply Kd.S_drewN | apply Kd.S_drew)); exact Kd.S_mono (Kd.S_far (p := ⟨gb20001, 1, none⟩) (Kd.S_far (p := ⟨gb20001, 0, none⟩) (Kd.S_types HO_20012000.out BK20001.out (by decide)) (fun _ hk => hk.2) (.slice Ao42 x20012000_1.length co42)) (fun _ hk => hk.2) (.slice Ao43 x20012001_1.length co43)) (fun _ hk => hk.1), by (with_reducible repeat (first | apply Kd.R_alloc | apply Kd.R_drewN | apply Kd.R_drew)); exact Kd.R_mono (Kd.R_far (p := ⟨gb20001, 1, none⟩) (Kd.R_far (p := ⟨gb20001, 0, none⟩) (Kd.R_types HO_20012001.out BK20001.out (by decide)) (fun _ hk => hk.2) (.slice Ao42 x20012000_1.length co42)) (fun _ hk => hk.2) (.slice Ao43 x20012001_1.length co43)) (fun _ hk => trivial), by repeat (first | (with_reducible first | exact HB.out | apply below_alloc | apply pw_below_drewN | apply below_drew1 | refine below_set ?_ GE20001.out | refine below_set ?_ GE20011.out) | exact HB.out)⟩
          · rw [if_neg c39] at H
            have c39b0 : (t20021.toList == a0.toList) = false := beq_eq_false_iff_ne.mpr c39
            have c39b1 : (t20021.toList != a0.toList) = true := bne_iff_ne.mpr c39
            simp only [Option.some.injEq, Prod.mk.injEq] at H
            obtain ⟨rfl, rfl, rfl⟩ := H
            have hnb49 := NB20011_20001.out
            have hnc49 := NB20001_20011.out
            have hcz50_0 : wr.cell? ⟨gb20011, 0, none⟩ = some (u20012000) := (blk_cell BK20011.out 0).trans rfl
            have hcz50_1 : wr.cell? ⟨gb20011, 1, none⟩ = some (u20012001) := (blk_cell BK20011.out 1).trans rfl
            have hfz50_0 := blk_frozen BK20011.out 0
            have hfz50_1 := blk_frozen BK20011.out 1
            obtain ⟨Ao51, co51, eo51⟩ := Kd.S_slice HO_20012000.out
            subst eo51
            obtain ⟨Ao52, co52, eo52⟩ := Kd.R_slice HO_20012001.out
            subst eo52
            go_wp2_with (first | ((with_reducible refine gate_callee (f := 35) rfl ?_); refine goesL_ (some 45) rfl rfl Tryd.func35 (by kernel_rfl) rfl #[.agg #[.slice Ao51 x20012000_1.length co51, .slice Ao52 x20012001_1.length co52]] rfl (by (try simp only [List.map_toArray, List.map_cons, List.map_nil]); first | done | rfl | (simp only [List.length_drop, List.length_take]; rfl)) ?_; (with_reducible refine (spec_LayoutValid.calls k1 _ _ x20012000_1 _ _ x20012001_1 true _ ?side1 ?side2 ?side3 ?side4 A36.out).mono ?_); (case side1 => repeat (first | exact (Kd.S_reads' HO_20012000.out).2.2 | (with_reducible refine Kd.C_alloc ?_ _) | (with_reducible refine Kd.C_drewN ?_ _) | (with_reducible refine Kd.C_drew ?_))); (case side2 => exact (Kd.S_reads' HO_20012000.out).2.1); (case side3 => repeat (first | exact (Kd.R_reads' HO_20012001.out).2.2 | (with_reducible refine Kd.C_alloc ?_ _) | (with_reducible refine Kd.C_drewN ?_ _) | (with_reducible refine Kd.C_drew ?_))); (case side4 => exact (Kd.R_reads' HO_20012001.out).2.1); rintro e w53 ⟨rfl, hb⟩; refine ⟨_, rfl, ?_⟩; have n0_ := Aside0.mk (Kd.R_below (by (with_reducible repeat (first | apply Kd.R_alloc | apply Kd.R_drewN | apply Kd.R_drew)); exact HO_4.out) hb); have n1_ := Aside0.mk (Kd.R_below (by (with_reducible repeat (first | apply Kd.R_alloc | apply Kd.R_drewN | apply Kd.R_drew)); exact HO_15.out) hb); have n2_ := Aside0.mk (Kd.S_below (by (with_reducible repeat (first | apply Kd.S_alloc | apply Kd.S_drewN | apply Kd.S_drew)); exact HO_20012000.out) hb); have n3_ := Aside0.mk (Kd.R_below (by (with_reducible repeat (first | apply Kd.R_alloc | apply Kd.R_drewN | apply Kd.R_drew)); exact HO_20012001.out) hb); have n4_ := Aside0.mk (blk_below (g := gb20001) (o := .cells #[.slice none 0 0, .slice none 0 0] 28 (0, 0)) (by (with_reducible repeat (first | refine blk_drewN ?_ _ | refine blk_drew ?_ | refine blk_alloc ?_ _)); exact BK20001.out) hb); have n5_ := Aside0.mk (blk_below (g := gb20011) (o := .cells #[.slice Ao51 x20012000_1.length co51, .slice Ao52 x20012001_1.length co52] 28 (0, 0)) (by (with_reducible repeat (first | refine blk_drewN ?_ _ | refine blk_drew ?_ | refine blk_alloc ?_ _)); exact BK20011.out) hb); have n6_ := Aside0.mk (below_step (by repeat (first | (with_reducible first | exact HB.out | apply below_alloc | apply pw_below_drewN | apply below_drew1 | refine below_set ?_ GE20001.out | refine below_set ?_ GE20011.out) | exact HB.out)) hb); clear HO_4; clear HO_15; clear HO_20012000; clear HO_20012001; clear BK20001; clear BK20011; clear HB; have HO_4 := n0_; have HO_15 := n1_; have HO_20012000 := n2_; have HO_20012001 := n3_; have BK20001 := n4_; have BK20011 := n5_; have HB := n6_; clear n0_ n1_ n2_ n3_ n4_ n5_ n6_; (try clear hb); (try clear hb2); (try clear hk); (try clear hi); have hcz54_0 : w53.cell? ⟨gb20011, 0, none⟩ = some (.slice Ao51 x20012000_1.length co51) := (blk_cell BK20011.out 0).trans rfl; have hcz54_1 : w53.cell? ⟨gb20011, 1, none⟩ = some (.slice Ao52 x20012001_1.length co52) := (blk_cell BK20011.out 1).trans rfl; have hfz54_0 := blk_frozen BK20011.out 0; have hfz54_1 := blk_frozen BK20011.out 1) | (go_at_call 7; (with_reducible refine (spec_FormatLayout.calls _ _ x20012000_1 _ _ x20012001_1 t20021 _ ?side1 ?side2 ?side3 ?side4 A38.out).mono ?_); (case side1 => repeat (first | exact (Kd.S_reads' HO_20012000.out).2.2 | (with_reducible refine Kd.C_alloc ?_ _) | (with_reducible refine Kd.C_drewN ?_ _) | (with_reducible refine Kd.C_drew ?_))); (case side2 => exact (Kd.S_reads' HO_20012000.out).2.1); (case side3 => repeat (first | exact (Kd.R_reads' HO_20012001.out).2.2 | (with_reducible refine Kd.C_alloc ?_ _) | (with_reducible refine Kd.C_drewN ?_ _) | (with_reducible refine Kd.C_drew ?_))); (case side4 => exact (Kd.R_reads' HO_20012001.out).2.1); rintro e w55 ⟨rfl, hb⟩; have n0_ := Aside0.mk (Kd.R_below (by (with_reducible repeat (first | apply Kd.R_alloc | apply Kd.R_drewN | apply Kd.R_drew)); exact HO_4.out) hb); have n1_ := Aside0.mk (Kd.R_below (by (with_reducible repeat (first | apply Kd.R_alloc | apply Kd.R_drewN | apply Kd.R_drew)); exact HO_15.out) hb); have n2_ := Aside0.mk (Kd.S_below (by (with_reducible repeat (first | apply Kd.S_alloc | apply Kd.S_drewN | apply Kd.S_drew)); exact HO_20012000.out) hb); have n3_ := Aside0.mk (Kd.R_below (by (with_reducible repeat (first | apply Kd.R_alloc | apply Kd.R_drewN | apply Kd.R_drew)); exact HO_20012001.out) hb); have n4_ := Aside0.mk (blk_below (g := gb20001) (o := .cells #[.slice none 0 0, .slice none 0 0] 28 (0, 0)) (by (with_reducible repeat (first | refine blk_drewN ?_ _ | refine blk_drew ?_ | refine blk_alloc ?_ _)); exact BK20001.out) hb); have n5_ := Aside0.mk (blk_below (g := gb20011) (o := .cells #[.slice Ao51 x20012000_1.length co51, .slice Ao52 x20012001_1.length co52] 28 (0, 0)) (by (with_reducible repeat (first | refine blk_drewN ?_ _ | refine blk_drew ?_ | refine blk_alloc ?_ _)); exact BK20011.out) hb); have n6_ := Aside0.mk (below_step (by repeat (first | (with_reducible first | exact HB.out | apply below_alloc | apply pw_below_drewN | apply below_drew1 | refine below_set ?_ GE20001.out | refine below_set ?_ GE20011.out) | exact HB.out)) hb); clear HO_4; clear HO_15; clear HO_20012000; clear HO_20012001; clear BK20001; clear BK20011; clear HB; have HO_4 := n0_; have HO_15 := n1_; have HO_20012000 := n2_; have HO_20012001 := n3_; have BK20001 := n4_; have BK20011 := n5_; have HB := n6_; clear n0_ n1_ n2_ n3_ n4_ n5_ n6_; (try clear hb); (try clear hb2); (try clear hk); (try clear hi); have hcz56_0 : w55.cell? ⟨gb20001, 0, none⟩ = some (.slice none 0 0) := (blk_cell BK20001.out 0).trans rfl; have hcz56_1 : w55.cell? ⟨gb20001, 1, none⟩ = some (.slice none 0 0) := (blk_cell BK20001.out 1).trans rfl; have hfz56_0 := blk_frozen BK20001.out 0; have hfz56_1 := blk_frozen BK20001.out 1))
            refine bodyPost_ret (results_ct rfl _ _ gb20001 28 #[.slice none 0 0, .slice none 0 0] (0, 0) _ rfl (by (with_reducible repeat (first | refine blk_drewN ?_ _ | refine blk_drew ?_ | refine blk_alloc ?_ _)); refine blk_put (cs := #[.slice none 0 0, .slice none 0 0]) ?_ 1 _ rfl; (with_reducible repeat (first | refine blk_drewN ?_ _ | refine blk_drew ?_ | refine blk_alloc ?_ _)); refine blk_put (cs := #[.slice none 0 0, .slice none 0 0]) ?_ 0 _ rfl; (with_reducible repeat (first | refine blk_drewN ?_ _ | refine blk_drew ?_ | refine blk_alloc ?_ _)); exact BK20001.out) Tryd.underlying28 rfl (by kernel_rfl)) rfl ?_
            exact ⟨_, _, by first | rfl | (simp [errW_none, errW_some] <;> rfl) | (simp [*, errW_none, errW_some] <;> rfl), by first | exact Kd.S_nil _ _ _ _ _ | exact Kd.N_nil _ _ _ _ _ | exact Kd.V_nil _ _ _ _ _ | exact Kd.Q_nil _ _ _ _ _ | exact Kd.R_nil _ _ _ _ _, by first | exact Kd.R_nil _ _ _ _ _ | exact Kd.N_nil _ _ _ _ _ | exact Kd.V_nil _ _ _ _ _ | exact Kd.Q_nil _ _ _ _ _ | exact Kd.S_nil _ _ _ _ _, by repeat (first | (with_reducible first | exact HB.out | apply below_alloc | apply pw_below_drewN | apply below_drew1 | refine below_set ?_ GE20001.out | refine below_set ?_ GE20011.out) | exact HB.out)⟩
        · replace c37 := Bool.eq_false_iff.mpr c37
          subst c37
          have H1 : (some (([] : List (List Int)), ([] : List Int), false)) = some (r1, r2, r3) := by rw [if_neg (show ¬ (false = true) by decide)] at H; exact H
          clear H
          have H := H1
          clear H1
          simp only [Option.some.injEq, Prod.mk.injEq] at H
          obtain ⟨rfl, rfl, rfl⟩ := H
          have hnb57 := NB20011_20001.out
          have hnc57 := NB20001_20011.out
          have hcz58_0 : wr.cell? ⟨gb20011, 0, none⟩ = some (u20012000) := (blk_cell BK20011.out 0).trans rfl
          have hcz58_1 : wr.cell? ⟨gb20011, 1, none⟩ = some (u20012001) := (blk_cell BK20011.out 1).trans rfl
          have hfz58_0 := blk_frozen BK20011.out 0
          have hfz58_1 := blk_frozen BK20011.out 1
          obtain ⟨Ao59, co59, eo59⟩ := Kd.S_slice HO_20012000.out
          subst eo59
          obtain ⟨Ao60, co60, eo60⟩ := Kd.R_slice HO_20012001.out
          subst eo60
          go_wp2_with (first | ((with_reducible refine gate_callee (f := 35) rfl ?_); refine goesL_ (some 45) rfl rfl Tryd.func35 (by kernel_rfl) rfl #[.agg #[.slice Ao59 x20012000_1.length co59, .slice Ao60 x20012001_1.length co60]] rfl (by (try simp only [List.map_toArray, List.map_cons, List.map_nil]); first | done | rfl | (simp only [List.length_drop, List.length_take]; rfl)) ?_; (with_reducible refine (spec_LayoutValid.calls k1 _ _ x20012000_1 _ _ x20012001_1 false _ ?side1 ?side2 ?side3 ?side4 A36.out).mono ?_); (case side1 => repeat (first | exact (Kd.S_reads' HO_20012000.out).2.2 | (with_reducible refine Kd.C_alloc ?_ _) | (with_reducible refine Kd.C_drewN ?_ _) | (with_reducible refine Kd.C_drew ?_))); (case side2 => exact (Kd.S_reads' HO_20012000.out).2.1); (case side3 => repeat (first | exact (Kd.R_reads' HO_20012001.out).2.2 | (with_reducible refine Kd.C_alloc ?_ _) | (with_reducible refine Kd.C_drewN ?_ _) | (with_reducible refine Kd.C_drew ?_))); (case side4 => exact (Kd.R_reads' HO_20012001.out).2.1); rintro e w61 ⟨rfl, hb⟩; refine ⟨_, rfl, ?_⟩; have n0_ := Aside0.mk (Kd.R_below (by (with_reducible repeat (first | apply Kd.R_alloc | apply Kd.R_drewN | apply Kd.R_drew)); exact HO_4.out) hb); have n1_ := Aside0.mk (Kd.R_below (by (with_reducible repeat (first | apply Kd.R_alloc | apply Kd.R_drewN | apply Kd.R_drew)); exact HO_15.out) hb); have n2_ := Aside0.mk (Kd.S_below (by (with_reducible repeat (first | apply Kd.S_alloc | apply Kd.S_drewN | apply Kd.S_drew)); exact HO_20012000.out) hb); have n3_ := Aside0.mk (Kd.R_below (by (with_reducible repeat (first | apply Kd.R_alloc | apply Kd.R_drewN | apply Kd.R_drew)); exact HO_20012001.out) hb); have n4_ := Aside0.mk (blk_below (g := gb20001) (o := .cells #[.slice none 0 0, .slice none 0 0] 28 (0, 0)) (by (with_reducible repeat (first | refine blk_drewN ?_ _ | refine blk_drew ?_ | refine blk_alloc ?_ _)); exact BK20001.out) hb); have n5_ := Aside0.mk (blk_below (g := gb20011) (o := .cells #[.slice Ao59 x20012000_1.length co59, .slice Ao60 x20012001_1.length co60] 28 (0, 0)) (by (with_reducible repeat (first | refine blk_drewN ?_ _ | refine blk_drew ?_ | refine blk_alloc ?_ _)); exact BK20011.out) hb); have n6_ := Aside0.mk (below_step (by repeat (first | (with_reducible first | exact HB.out | apply below_alloc | apply pw_below_drewN | apply below_drew1 | refine below_set ?_ GE20001.out | refine below_set ?_ GE20011.out) | exact HB.out)) hb); clear HO_4; clear HO_15; clear HO_20012000; clear HO_20012001; clear BK20001; clear BK20011; clear HB; have HO_4 := n0_; have HO_15 := n1_; have HO_20012000 := n2_; have HO_20012001 := n3_; have BK20001 := n4_; have BK20011 := n5_; have HB := n6_; clear n0_ n1_ n2_ n3_ n4_ n5_ n6_; (try clear hb); (try clear hb2); (try clear hk); (try clear hi); have hcz62_0 : w61.cell? ⟨gb20001, 0, none⟩ = some (.slice none 0 0) := (blk_cell BK20001.out 0).trans rfl; have hcz62_1 : w61.cell? ⟨gb20001, 1, none⟩ = some (.slice none 0 0) := (blk_cell BK20001.out 1).trans rfl; have hfz62_0 := blk_frozen BK20001.out 0; have hfz62_1 := blk_frozen BK20001.out 1))
          refine bodyPost_ret (results_ct rfl _ _ gb20001 28 #[.slice none 0 0, .slice none 0 0] (0, 0) _ rfl (by (with_reducible repeat (first | refine blk_drewN ?_ _ | refine blk_drew ?_ | refine blk_alloc ?_ _)); refine blk_put (cs := #[.slice none 0 0, .slice none 0 0]) ?_ 1 _ rfl; (with_reducible repeat (first | refine blk_drewN ?_ _ | refine blk_drew ?_ | refine blk_alloc ?_ _)); refine blk_put (cs := #[.slice none 0 0, .slice none 0 0]) ?_ 0 _ rfl; (with_reducible repeat (first | refine blk_drewN ?_ _ | refine blk_drew ?_ | refine blk_alloc ?_ _)); exact BK20001.out) Tryd.underlying28 rfl (by kernel_rfl)) rfl ?_
          exact ⟨_, _, by first | rfl | (simp [errW_none, errW_some] <;> rfl) | (simp [*, errW_none, errW_some] <;> rfl), by first | exact Kd.S_nil _ _ _ _ _ | exact Kd.N_nil _ _ _ _ _ | exact Kd.V_nil _ _ _ _ _ | exact Kd.Q_nil _ _ _ _ _ | exact Kd.R_nil _ _ _ _ _, by first | exact Kd.R_nil _ _ _ _ _ | exact Kd.N_nil _ _ _ _ _ | exact Kd.V_nil _ _ _ _ _ | exact Kd.Q_nil _ _ _ _ _ | exact Kd.S_nil _ _ _ _ _, by repeat (first | (with_reducible first | exact HB.out | apply below_alloc | apply pw_below_drewN | apply below_drew1 | refine below_set ?_ GE20001.out | refine below_set ?_ GE20011.out) | exact HB.out)⟩

/-! ### spec_l13OwnListListint: function 45 -/
def spec_l13OwnListListint.l0 : Nat → List (List Int) → List (List Int) → Int → Int → Option ((List (List Int)))
  | 0, _, _, _, _ => none
  | k + 1, x3, x7, x8, x9 => if x9 < x8 then (if 0 ≤ x9 then (if x9 < (x7.length : Int) then ((some (([] : List Int) : List Int)).bind fun y20005 => (if y20005.length + (rd_L1 x7 x9).length < 17592186044416 then (if x3.length < 5864062014805 then (spec_l13OwnListListint.l0 k (x3 ++ [(y20005 ++ (rd_L1 x7 x9))]) x7 x8 (wrap64 (x9 + 1))) else (none)) else (none))) else (none)) else (none)) else (some x3)
def spec_l13OwnListListint.f (k : Nat) (l0 : List (List Int)) : Option ((List (List Int))) := spec_l13OwnListListint.l0 k (([] : List (List Int))) l0 (l0.length : Int) 0
theorem spec_l13OwnListListint.mono_l : ∀ k, (∀ y0 y1 y2 y3, LeO (spec_l13OwnListListint.l0 k y0 y1 y2 y3) (spec_l13OwnListListint.l0 (k + 1) y0 y1 y2 y3))
  | 0 => fun _ _ _ _ r h => by simp [spec_l13OwnListListint.l0] at h
  | k + 1 => by
    have ih0 := spec_l13OwnListListint.mono_l k
    · intro y0 y1 y2 y3
      unfold spec_l13OwnListListint.l0
      repeat' first
      | (with_reducible exact ih0 _ _ _ _)
      | (with_reducible exact LeO.refl _)
      | (with_reducible exact LeO.none _)
      | (with_reducible refine LeO.ite ?_ ?_)
      | (with_reducible refine LeO.bind ?_ (fun _ => ?_))
      | exact ih0 _ _ _ _
      | exact LeO.none _
      | refine LeO.ite ?_ ?_
      | refine LeO.bind ?_ (fun _ => ?_)
theorem spec_l13OwnListListint.mono : ∀ a0 k, LeO (spec_l13OwnListListint.f k a0) (spec_l13OwnListListint.f (k + 1) a0) := by
  intro a0 k
  have ih0 := spec_l13OwnListListint.mono_l k
  unfold spec_l13OwnListListint.f
  repeat' first
      | (with_reducible exact ih0 _ _ _ _)
      | (with_reducible exact LeO.refl _)
      | (with_reducible exact LeO.none _)
      | (with_reducible refine LeO.ite ?_ ?_)
      | (with_reducible refine LeO.bind ?_ (fun _ => ?_))
      | exact ih0 _ _ _ _
      | exact LeO.none _
      | refine LeO.ite ?_ ?_
      | refine LeO.bind ?_ (fun _ => ?_)
set_option maxHeartbeats 8000000 in
set_option maxRecDepth 100000 in
theorem spec_l13OwnListListint.calls (k : Nat) (A0 : Option Addr) (c0 : Nat) (l0 : List (List Int)) (r : List (List Int)) (w : World) (hr0 : Kd.C (Kd.slice 3 (Kd.int .i64)) w A0 l0.length l0) (hc0 : l0.length ≤ c0) (h : spec_l13OwnListListint.f k l0 = some r) :
    Calls Tryd.prog 45 #[.slice A0 l0.length c0] w fun e w' => ∃ v0_ : Value, e = .returned (v0_) ∧ Kd.S (Kd.slice 3 (Kd.int .i64)) 23 w' w.heap.size (fun _ => True) v0_ r ∧ Below w.heap.size w w' := by
  have HR0 := Aside0.mk hr0
  have HC0 := Aside0.mk hc0
  clear hr0 hc0
  have HB := Aside0.mk (Below.refl w.heap.size w)
  have H : (spec_l13OwnListListint.l0 k (([] : List (List Int))) l0 (l0.length : Int) 0) = some r := h
  clear h
  obtain ⟨y20001, hy20001⟩ : ∃ y_ : List (List Int), y_ = (([] : List (List Int))) := ⟨_, rfl⟩
  replace H : (spec_l13OwnListListint.l0 k y20001 l0 (l0.length : Int) 0) = some r := by first | (rw [hy20001]; with_reducible exact H) | (have H2_ := (Option.bind_some _ _).symm.trans H; rw [hy20001]; with_reducible exact H2_) | (have H2_ := (Option.bind_some _ _).symm.trans H; with_reducible exact H2_) | with_reducible exact H | (rw [hy20001]; exact H) | exact H
  have Ny20001 := Aside0.mk hy20001
  clear hy20001
  have H' := Aside0.mk H
  clear H
  go_enter Tryd.func45, Tryd.ntmps45
  go_wp2_with (first | ((with_reducible refine gate_dst (N := 6) rfl ?_); refine Kd.S_lit (Kd.slice 3 (Kd.int .i64)) _ 23 ?hg (N := 6) ?hd (xs := ([] : List (List Int))) (inner := []) (ok := fun _ => True) (okp := fun _ => True) ?hr ?hp (fun _ hk => hk) trivial (Below.refl _ _) (Nat.le_refl _) (by simp) ?_; (case hd => rfl); (case hg => rfl); (case hr => first | (go_simp; done) | (go_simp; rfl)); (case hp => exact (Reps.none _ _)); intro v20002 w2 ho3 hb hg_ hnew_; clear hg_ hnew_; (first | rw [← Ny20001.out] at ho3 | (simp only [Int.reduceToNat] at ho3; rw [← Ny20001.out] at ho3)); have n0_ := Aside0.mk (Kd.S_lower ho3 (below_size (by repeat (first | (with_reducible first | exact HB.out | apply below_alloc | apply pw_below_drewN | apply below_drew1) | exact HB.out)))); have n1_ := Aside0.mk (below_step (by repeat (first | (with_reducible first | exact HB.out | apply below_alloc | apply pw_below_drewN | apply below_drew1) | exact HB.out)) hb); clear HB; have HO20003 := n0_; have HB := n1_; clear n0_ n1_; clear hb ho3))
  go_loopg [3, 9] k (fun kq v3 v9 w' => ∃ (x3_1 : List (List Int)) (x9_1 : Int), v9 = .int .i64 x9_1 ∧ Aside0 (spec_l13OwnListListint.l0 kq x3_1 l0 (l0.length : Int) x9_1 = some r) ∧ Aside0 (kq ≤ k) ∧ Aside0 (Kd.S (Kd.slice 3 (Kd.int .i64)) 23 w' w.heap.size (fun _ => True) v3 x3_1) ∧ Aside0 (Below w.heap.size w w'))
  case atStart => exact ⟨(y20001), (0), (by first | rfl | (simp; done) | (simp [*]; done)), H', ⟨Nat.le_refl _⟩, ⟨by (with_reducible repeat (first | apply Kd.S_alloc | apply Kd.S_drewN | apply Kd.S_drew)); exact HO20003.out⟩, ⟨by repeat (first | (with_reducible first | exact HB.out | apply below_alloc | apply pw_below_drewN | apply below_drew1) | exact HB.out)⟩⟩
  case round =>
    clear H'
    try clear p2
    obtain ⟨x3_1, x9_1, rfl, HA, HK1, HO_3, HB⟩ := hrel
    cases gk with
    | zero => exact absurd HA.out (by simp [spec_l13OwnListListint.l0])
    | succ k1 =>
      have H := HA.out
      clear HA
      simp only [spec_l13OwnListListint.l0] at H
      by_cases c4 : x9_1 < (l0.length : Int)
      · rw [if_pos c4] at H
        have c4b0 : decide (x9_1 < (l0.length : Int)) = true := decide_eq_true c4
        clear c4
        by_cases c5 : 0 ≤ x9_1
        · rw [if_pos c5] at H
          have c5b0 : decide (0 ≤ x9_1) = true := decide_eq_true c5
          clear c5
          by_cases c6 : x9_1 < (l0.length : Int)
          · rw [if_pos c6] at H
            have c6b0 : decide (x9_1 < (l0.length : Int)) = true := decide_eq_true c6
            clear c6
            obtain ⟨y20005, hy20005⟩ : ∃ y_ : List Int, y_ = (([] : List Int)) := ⟨_, rfl⟩
            replace H : (if y20005.length + (rd_L1 l0 x9_1).length < 17592186044416 then (if x3_1.length < 5864062014805 then (spec_l13OwnListListint.l0 k1 (x3_1 ++ [(y20005 ++ (rd_L1 l0 x9_1))]) l0 (l0.length : Int) (wrap64 (x9_1 + 1))) else (none)) else (none)) = some r := by first | (rw [hy20005]; with_reducible exact H) | (have H2_ := (Option.bind_some _ _).symm.trans H; rw [hy20005]; with_reducible exact H2_) | (have H2_ := (Option.bind_some _ _).symm.trans H; with_reducible exact H2_) | with_reducible exact H | (rw [hy20005]; exact H) | exact H
            have Ny20005 := Aside0.mk hy20005
            clear hy20005
            by_cases c7 : y20005.length + (rd_L1 l0 x9_1).length < 17592186044416
            · rw [if_pos c7] at H
              have LMc7 := Aside0.mk c7
              clear c7
              obtain ⟨y20008, hy20008⟩ : ∃ y_ : List Int, y_ = (y20005 ++ (rd_L1 l0 x9_1)) := ⟨_, rfl⟩
              replace H : (if x3_1.length < 5864062014805 then (spec_l13OwnListListint.l0 k1 (x3_1 ++ [y20008]) l0 (l0.length : Int) (wrap64 (x9_1 + 1))) else (none)) = some r := by first | (rw [hy20008]; with_reducible exact H) | (have H2_ := (Option.bind_some _ _).symm.trans H; rw [hy20008]; with_reducible exact H2_) | (have H2_ := (Option.bind_some _ _).symm.trans H; with_reducible exact H2_) | with_reducible exact H | (rw [hy20008]; exact H) | exact H
              have Ny20008 := Aside0.mk hy20008
              clear hy20008
              by_cases c8 : x3_1.length < 5864062014805
              · rw [if_pos c8] at H
                have LMc8 := Aside0.mk c8
                clear c8
                obtain ⟨y20011, hy20011⟩ : ∃ y_ : List (List Int), y_ = (x3_1 ++ [y20008]) := ⟨_, rfl⟩
                replace H : (spec_l13OwnListListint.l0 k1 y20011 l0 (l0.length : Int) (wrap64 (x9_1 + 1))) = some r := by first | (rw [hy20011]; with_reducible exact H) | (have H2_ := (Option.bind_some _ _).symm.trans H; rw [hy20011]; with_reducible exact H2_) | (have H2_ := (Option.bind_some _ _).symm.trans H; with_reducible exact H2_) | with_reducible exact H | (rw [hy20011]; exact H) | exact H
                have Ny20011 := Aside0.mk hy20011
                clear hy20011
                have H' := Aside0.mk H
                clear H
                have p20004 : 0 ≤ (x9_1 : Int) := of_decide_eq_true (by first | (with_reducible assumption) | assumption)
                have q20004 : x9_1 < (l0.length : Int) := of_decide_eq_true (by first | (with_reducible assumption) | assumption)
                obtain ⟨ad20004, A20004_0, c20004_0, e20004, hx20004_0, hl20004_0, hi20004_0⟩ := at_L1 HR0.out x9_1 p20004 q20004
                cases e20004
                (try replace hx20004_0 := (HB.out.cell (World.block_lt_of_cell? w _ hx20004_0)).trans hx20004_0)
                have HR20004_0 := Aside0.mk hi20004_0
                have HC20004_0 := Aside0.mk hl20004_0
                clear hi20004_0 hl20004_0
                replace p20004 := eq_true p20004
                replace q20004 := eq_true q20004
                go_wp2_with (first | ((with_reducible refine gate_dst (N := 14) rfl ?_); refine Kd.R_lit (Kd.int .i64) _ 3 ?hg (N := 14) ?hd (xs := ([] : List Int)) (inner := []) (ok := fun _ => True) (okp := fun _ => True) ?hr ?hp (fun _ hk => hk) trivial (Below.refl _ _) (Nat.le_refl _) (by simp) ?_; (case hd => rfl); (case hg => rfl); (case hr => first | (go_simp; done) | (go_simp; rfl)); (case hp => exact (Reps.none _ _)); intro v20006 w9 ho10 hb hg_ hnew_; clear hg_ hnew_; (first | rw [← Ny20005.out] at ho10 | (simp only [Int.reduceToNat] at ho10; rw [← Ny20005.out] at ho10)); have n0_ := Aside0.mk (Kd.S_elder' (by (with_reducible repeat (first | apply Kd.S_alloc | apply Kd.S_drewN | apply Kd.S_drew)); exact HO_3.out) (Kd.R_base ho10) hb); have n1_ := Aside0.mk (Kd.R_lower ho10 (below_size (by repeat (first | (with_reducible first | exact HB.out | apply below_alloc | apply pw_below_drewN | apply below_drew1) | exact HB.out)))); have n2_ := Aside0.mk (below_step (by repeat (first | (with_reducible first | exact HB.out | apply below_alloc | apply pw_below_drewN | apply below_drew1) | exact HB.out)) hb); clear HO_3; clear HB; have HO_3 := n0_; have HO20007 := n1_; have HB := n2_; clear n0_ n1_ n2_; clear hb ho10) | ((with_reducible refine gate_builtin (b := .append) (xs := #[.tmp 14, .tmp 15]) rfl ?_); at_builtin; refine Kd.R_append_rows (Kd.int .i64) (w0 := w) w.heap.size rfl (.tmp 14) (.tmp 15) 23 3 (.int .i64 0) 8 rfl Tryd.underlying23 info3 rfl (by decide) (by omega) v20006 y20005 (rd_L1 l0 x9_1) _ _ _ (fun _ => True) (fun _ => False) rfl rfl ?aO ?aR (fun _ _ h => h) (fun _ h => h.elim) ?aF ?aB ?aS ?aL ?_; (case aR => repeat (first | exact (Kd.C_below HR20004_0.out HB.out) | (with_reducible refine Kd.C_alloc ?_ _) | (with_reducible refine Kd.C_drewN ?_ _) | (with_reducible refine Kd.C_drew ?_))); (case aB => exact (by repeat (first | (with_reducible first | exact HB.out | apply below_alloc | apply pw_below_drewN | apply below_drew1) | exact HB.out))); (case aF => exact (fun _ _ => trivial)); (case aO => exact (by (with_reducible repeat (first | apply Kd.R_alloc | apply Kd.R_drewN | apply Kd.R_drew)); exact HO20007.out)); (case aS => exact (below_size (by repeat (first | (with_reducible first | exact HB.out | apply below_alloc | apply pw_below_drewN | apply below_drew1) | exact HB.out)))); (case aL => have := LMc7.out; omega); intro v20009 w11 ho hb hg hat; rw [← Ny20008.out] at ho; have n0_ := Aside0.mk (Kd.S_after (ok := (fun _ => True)) (by (with_reducible repeat (first | apply Kd.S_alloc | apply Kd.S_drewN | apply Kd.S_drew)); exact HO_3.out) hg hat); have n1_ := Aside0.mk (hb); have n2_ := Aside0.mk (ho); clear HO_3; clear HB; clear HO20007; have HO_3 := n0_; have HB := n1_; have HO20010 := n2_; clear n0_ n1_ n2_; clear ho hb hg hat; obtain ⟨Ao13, co13, eo13⟩ := Kd.R_slice HO20010.out; subst eo13) | ((with_reducible refine gate_builtin (b := .append) (xs := #[.tmp 13, .tmp 17]) rfl ?_); at_builtin; refine Kd.S_append (Kd.slice 3 (Kd.int .i64)) (w0 := w) w.heap.size rfl (.tmp 13) (.tmp 17) 22 23 (.slice none 0 0) 24 rfl Tryd.underlying22 info23 rfl (by decide) (by omega) u3 x3_1 y20008 [.slice Ao13 y20008.length co13] (fun _ => True) (fun k_ => some k_ = (.slice Ao13 y20008.length co13 : Value).ownBlock) rfl rfl ?aP (fun k_ hk_ => ((Kd.R_mono (ok' := fun k_ => ((fun _ => True)) k_ ∧ some k_ ≠ (u3 : Value).ownBlock) (Kd.R_apart' (HO20010.out) (Kd.S_typed HO_3.out) (by decide)) (fun k_ hk => ⟨trivial, hk.2⟩))).1 k_ hk_.symm) ?aF ?aO ?aB ?aS ?aL ?_; (case aP => exact Kd.M_row (Kd.R_mono (Kd.R_tight rfl (Kd.R_mono (ok' := fun k_ => ((fun _ => True)) k_ ∧ some k_ ≠ (u3 : Value).ownBlock) (Kd.R_apart' (HO20010.out) (Kd.S_typed HO_3.out) (by decide)) (fun k_ hk => ⟨trivial, hk.2⟩))) (fun _ h_ => h_))); (case aB => exact (by repeat (first | (with_reducible first | exact HB.out | apply below_alloc | apply pw_below_drewN | apply below_drew1) | exact HB.out))); (case aF => exact (fun _ _ => trivial)); (case aO => exact (by (with_reducible repeat (first | apply Kd.S_alloc | apply Kd.S_drewN | apply Kd.S_drew)); exact Kd.S_mono HO_3.out (fun k_ hk => ⟨trivial, fun e_ => hk.2 e_⟩))); (case aS => exact (below_size (by repeat (first | (with_reducible first | exact HB.out | apply below_alloc | apply pw_below_drewN | apply below_drew1) | exact HB.out)))); (case aL => have := LMc8.out; omega); intro v20012 w12 ho hb hg hat; rw [← Ny20011.out] at ho; have n0_ := Aside0.mk (hb); have n1_ := Aside0.mk (ho); clear HB; clear HO_3; clear HO20010; have HB := n0_; have HO20013 := n1_; clear n0_ n1_; clear ho hb hg hat))
                go_roundg k1
                case measure => have := HK1.out; omega
                case rel => exact ⟨(y20011), (wrap64 (x9_1 + 1)), (by first | rfl | (simp; done) | (simp [*]; done)), H', ⟨by have := HK1.out; omega⟩, ⟨by (with_reducible repeat (first | apply Kd.S_alloc | apply Kd.S_drewN | apply Kd.S_drew)); exact HO20013.out⟩, ⟨by repeat (first | (with_reducible first | exact HB.out | apply below_alloc | apply pw_below_drewN | apply below_drew1) | exact HB.out)⟩⟩
              · rw [if_neg c8] at H
                exact absurd H (by simp)
            · rw [if_neg c7] at H
              exact absurd H (by simp)
          · rw [if_neg c6] at H
            exact absurd H (by simp)
        · rw [if_neg c5] at H
          exact absurd H (by simp)
      · rw [if_neg c4] at H
        have c4b0 : decide (x9_1 < (l0.length : Int)) = false := decide_eq_false c4
        clear c4
        obtain rfl := Option.some.inj H
        go_wp2
        go_ret
        exact ⟨_, by first | rfl | (simp [errW_none, errW_some] <;> rfl) | (simp [*, errW_none, errW_some] <;> rfl), by (with_reducible repeat (first | apply Kd.S_alloc | apply Kd.S_drewN | apply Kd.S_drew)); exact HO_3.out, by repeat (first | (with_reducible first | exact HB.out | apply below_alloc | apply pw_below_drewN | apply below_drew1) | exact HB.out)⟩

/-! ### spec_l13OwnLayout: function 26 -/
def spec_l13OwnLayout.f (k : Nat) (l0_0 : List (List Int)) (l0_1 : List Int) : Option ((List (List Int)) × List Int) := (spec_l13OwnListListint.f k l0_0).bind fun t20003 => ((some (([] : List Int) : List Int)).bind fun y20006 => (if y20006.length + l0_1.length < 17592186044416 then (some (t20003, (y20006 ++ l0_1))) else (none)))
theorem spec_l13OwnLayout.mono : ∀ a0 a1 k, LeO (spec_l13OwnLayout.f k a0 a1) (spec_l13OwnLayout.f (k + 1) a0 a1) := by
  intro a0 a1 k
  unfold spec_l13OwnLayout.f
  repeat' first
      | (with_reducible exact spec_l13OwnListListint.mono _ _)
      | (with_reducible exact LeO.refl _)
      | (with_reducible exact LeO.none _)
      | (with_reducible refine LeO.ite ?_ ?_)
      | (with_reducible refine LeO.bind ?_ (fun _ => ?_))
      | exact spec_l13OwnListListint.mono _ _
      | exact LeO.none _
      | refine LeO.ite ?_ ?_
      | refine LeO.bind ?_ (fun _ => ?_)
set_option maxHeartbeats 8000000 in
set_option maxRecDepth 100000 in
theorem spec_l13OwnLayout.calls (k : Nat) (A0_0 : Option Addr) (c0_0 : Nat) (l0_0 : List (List Int)) (A0_1 : Option Addr) (c0_1 : Nat) (l0_1 : List Int) (r1 : List (List Int)) (r2 : List Int) (w : World) (hr0_0 : Kd.C (Kd.slice 3 (Kd.int .i64)) w A0_0 l0_0.length l0_0) (hc0_0 : l0_0.length ≤ c0_0) (hr0_1 : Kd.C (Kd.int .i64) w A0_1 l0_1.length l0_1) (hc0_1 : l0_1.length ≤ c0_1) (h : spec_l13OwnLayout.f k l0_0 l0_1 = some (r1, r2)) :
    Calls Tryd.prog 26 #[.agg #[.slice A0_0 l0_0.length c0_0, .slice A0_1 l0_1.length c0_1]] w fun e w' => ∃ v0_ v1_ : Value, e = .returned (.agg #[v0_, v1_]) ∧ Kd.S (Kd.slice 3 (Kd.int .i64)) 23 w' w.heap.size (fun k_ => some k_ ≠ (v1_ : Value).ownBlock) v0_ r1 ∧ Kd.R (Kd.int .i64) 3 w' w.heap.size (fun _ => True) v1_ r2 ∧ Below w.heap.size w w' := by
  have hu28 := Tryd.underlying28
  have HR0_0 := Aside0.mk hr0_0
  have HC0_0 := Aside0.mk hc0_0
  clear hr0_0 hc0_0
  have HR0_1 := Aside0.mk hr0_1
  have HC0_1 := Aside0.mk hc0_1
  clear hr0_1 hc0_1
  have HB := Aside0.mk (Below.refl w.heap.size w)
  have H : ((spec_l13OwnListListint.f k l0_0).bind fun t20003 => ((some (([] : List Int) : List Int)).bind fun y20006 => (if y20006.length + l0_1.length < 17592186044416 then (some (t20003, (y20006 ++ l0_1))) else (none)))) = some (r1, r2) := h
  clear h
  replace H := Option.bind_eq_some_iff.mp H
  obtain ⟨t20003, A20, H⟩ := H
  replace H : ((some (([] : List Int) : List Int)).bind fun y20006 => (if y20006.length + l0_1.length < 17592186044416 then (some (t20003, (y20006 ++ l0_1))) else (none))) = some (r1, r2) := H
  have A2 := Aside0.mk A20
  clear A20
  obtain ⟨y20006, hy20006⟩ : ∃ y_ : List Int, y_ = (([] : List Int)) := ⟨_, rfl⟩
  replace H : (if y20006.length + l0_1.length < 17592186044416 then (some (t20003, (y20006 ++ l0_1))) else (none)) = some (r1, r2) := by first | (rw [hy20006]; with_reducible exact H) | (have H2_ := (Option.bind_some _ _).symm.trans H; rw [hy20006]; with_reducible exact H2_) | (have H2_ := (Option.bind_some _ _).symm.trans H; with_reducible exact H2_) | with_reducible exact H | (rw [hy20006]; exact H) | exact H
  have Ny20006 := Aside0.mk hy20006
  clear hy20006
  by_cases c3 : y20006.length + l0_1.length < 17592186044416
  · rw [if_pos c3] at H
    have LMc3 := Aside0.mk c3
    clear c3
    obtain ⟨y20009, hy20009⟩ : ∃ y_ : List Int, y_ = (y20006 ++ l0_1) := ⟨_, rfl⟩
    replace H : (some (t20003, y20009)) = some (r1, r2) := by first | (rw [hy20009]; with_reducible exact H) | (have H2_ := (Option.bind_some _ _).symm.trans H; rw [hy20009]; with_reducible exact H2_) | (have H2_ := (Option.bind_some _ _).symm.trans H; with_reducible exact H2_) | with_reducible exact H | (rw [hy20009]; exact H) | exact H
    have Ny20009 := Aside0.mk hy20009
    clear hy20009
    simp only [Option.some.injEq, Prod.mk.injEq] at H
    obtain ⟨rfl, rfl⟩ := H
    go_enter Tryd.func26, Tryd.ntmps26
    go_wp2_with (first | ((with_reducible refine gate_dst (N := 1) rfl ?_); refine box_event ?hg (N := 1) ?hd (cs := #[.slice A0_0 l0_0.length c0_0, .slice A0_1 l0_1.length c0_1]) (t := 28) ?hr ?_; (case hd => rfl); (case hg => rfl); (case hr => first | (go_simp; done) | (go_simp; rfl)); intro gb20001 hg w4 hbox hb; have n0_ := Aside0.mk (below_step (by repeat (first | (with_reducible first | exact HB.out | apply below_alloc | apply pw_below_drewN | apply below_drew1) | exact HB.out)) hb); have n1_ := Aside0.mk (hbox); have n2_ := Aside0.mk ((by rw [hg]; exact (below_size (by repeat (first | (with_reducible first | exact HB.out | apply below_alloc | apply pw_below_drewN | apply below_drew1) | exact HB.out))) : w.heap.size ≤ gb20001)); have n3_ := Aside0.mk ((by rw [hg]; exact (below_size (by repeat (first | (with_reducible first | exact HB.out | apply below_alloc | apply pw_below_drewN | apply below_drew1) | exact HB.out))) : w.heap.size ≤ gb20001)); clear HB; have HB := n0_; have BK20001 := n1_; have GW20001 := n2_; have GE20001 := n3_; clear n0_ n1_ n2_ n3_; clear hb hbox hg) | ((with_reducible refine gate_dst (N := 2) rfl ?_); refine box_event ?hg (N := 2) ?hd (cs := #[.slice none 0 0, .slice none 0 0]) (t := 28) ?hr ?_; (case hd => rfl); (case hg => rfl); (case hr => first | (go_simp; done) | (go_simp; rfl)); intro gb20002 hg w5 hbox hb; have n0_ := Aside0.mk (blk_below (g := gb20001) (o := .cells #[.slice A0_0 l0_0.length c0_0, .slice A0_1 l0_1.length c0_1] 28 (0, 0)) (by (with_reducible repeat (first | refine blk_drewN ?_ _ | refine blk_drew ?_ | refine blk_alloc ?_ _)); exact BK20001.out) hb); have n1_ := Aside0.mk (below_step (by repeat (first | (with_reducible first | exact HB.out | apply below_alloc | apply pw_below_drewN | apply below_drew1 | refine below_set ?_ GE20001.out) | exact HB.out)) hb); have n2_ := Aside0.mk (hbox); have n3_ := Aside0.mk ((by rw [hg]; exact (below_size (by repeat (first | (with_reducible first | exact HB.out | apply below_alloc | apply pw_below_drewN | apply below_drew1 | refine below_set ?_ GE20001.out) | exact HB.out))) : w.heap.size ≤ gb20002)); have n4_ := Aside0.mk ((by rw [hg]; exact (below_size (by repeat (first | (with_reducible first | exact HB.out | apply below_alloc | apply pw_below_drewN | apply below_drew1 | refine below_set ?_ GE20001.out) | exact HB.out))) : w.heap.size ≤ gb20002)); have n5_ := Aside0.mk ((by rw [hg]; exact Nat.ne_of_lt (blk_lt (g := gb20001) (o := .cells #[.slice A0_0 l0_0.length c0_0, .slice A0_1 l0_1.length c0_1] 28 (0, 0)) (by (with_reducible repeat (first | refine blk_drewN ?_ _ | refine blk_drew ?_ | refine blk_alloc ?_ _)); exact BK20001.out)) : gb20001 ≠ gb20002)); have n6_ := Aside0.mk ((by rw [hg]; exact Nat.ne_of_gt (blk_lt (g := gb20001) (o := .cells #[.slice A0_0 l0_0.length c0_0, .slice A0_1 l0_1.length c0_1] 28 (0, 0)) (by (with_reducible repeat (first | refine blk_drewN ?_ _ | refine blk_drew ?_ | refine blk_alloc ?_ _)); exact BK20001.out)) : gb20002 ≠ gb20001)); clear BK20001; clear HB; have BK20001 := n0_; have HB := n1_; have BK20002 := n2_; have GW20002 := n3_; have GE20002 := n4_; have NB20001_20002 := n5_; have NB20002_20001 := n6_; clear n0_ n1_ n2_ n3_ n4_ n5_ n6_; clear hb hbox hg; have hnb6 := NB20001_20002.out; have hnc6 := NB20002_20001.out; have hcz7_0 : w5.cell? ⟨gb20001, 0, none⟩ = some (.slice A0_0 l0_0.length c0_0) := (blk_cell BK20001.out 0).trans rfl; have hcz7_1 : w5.cell? ⟨gb20001, 1, none⟩ = some (.slice A0_1 l0_1.length c0_1) := (blk_cell BK20001.out 1).trans rfl; have hfz7_0 := blk_frozen BK20001.out 0; have hfz7_1 := blk_frozen BK20001.out 1) | ((with_reducible refine gate_callee (f := 45) rfl ?_); refine goesL_ (some 5) rfl rfl Tryd.func45 (by kernel_rfl) rfl #[.slice A0_0 l0_0.length c0_0] rfl (by (try simp only [List.map_toArray, List.map_cons, List.map_nil]); first | done | rfl | (simp only [List.length_drop, List.length_take]; rfl)) ?_; (with_reducible refine (spec_l13OwnListListint.calls k _ _ l0_0 t20003 _ ?side1 ?side2 A2.out).mono ?_); (case side1 => repeat (first | exact (Kd.C_below HR0_0.out HB.out) | (with_reducible refine Kd.C_alloc ?_ _) | (with_reducible refine Kd.C_drewN ?_ _) | (with_reducible refine Kd.C_drew ?_))); (case side2 => exact HC0_0.out); rintro e w8 ⟨v20004, rfl, ho0, hb⟩; refine ⟨_, rfl, ?_⟩; have n0_ := Aside0.mk (Kd.S_lower ho0 (below_size (by repeat (first | (with_reducible first | exact HB.out | apply below_alloc | apply pw_below_drewN | apply below_drew1 | refine below_set ?_ GE20001.out | refine below_set ?_ GE20002.out) | exact HB.out)))); have n1_ := Aside0.mk (blk_below (g := gb20001) (o := .cells #[.slice A0_0 l0_0.length c0_0, .slice A0_1 l0_1.length c0_1] 28 (0, 0)) (by (with_reducible repeat (first | refine blk_drewN ?_ _ | refine blk_drew ?_ | refine blk_alloc ?_ _)); exact BK20001.out) hb); have n2_ := Aside0.mk (blk_below (g := gb20002) (o := .cells #[.slice none 0 0, .slice none 0 0] 28 (0, 0)) (by (with_reducible repeat (first | refine blk_drewN ?_ _ | refine blk_drew ?_ | refine blk_alloc ?_ _)); exact BK20002.out) hb); have n3_ := Aside0.mk (below_step (by repeat (first | (with_reducible first | exact HB.out | apply below_alloc | apply pw_below_drewN | apply below_drew1 | refine below_set ?_ GE20001.out | refine below_set ?_ GE20002.out) | exact HB.out)) hb); clear BK20001; clear BK20002; clear HB; have HO20005 := n0_; have BK20001 := n1_; have BK20002 := n2_; have HB := n3_; clear n0_ n1_ n2_ n3_; (try clear hb); (try clear hb2); (try clear hk); (try clear hi); (try clear ho0); obtain ⟨Ao9, co9, eo9⟩ := Kd.S_slice HO20005.out; subst eo9; have hcz10_0 : w8.cell? ⟨gb20001, 0, none⟩ = some (.slice A0_0 l0_0.length c0_0) := (blk_cell BK20001.out 0).trans rfl; have hcz10_1 : w8.cell? ⟨gb20001, 1, none⟩ = some (.slice A0_1 l0_1.length c0_1) := (blk_cell BK20001.out 1).trans rfl; have hfz10_0 := blk_frozen BK20001.out 0; have hfz10_1 := blk_frozen BK20001.out 1) | ((with_reducible refine gate_dst (N := 7) rfl ?_); refine Kd.R_lit (Kd.int .i64) _ 3 ?hg (N := 7) ?hd (xs := ([] : List Int)) (inner := []) (ok := fun _ => True) (okp := fun _ => True) ?hr ?hp (fun _ hk => hk) trivial (Below.refl _ _) (Nat.le_refl _) (by simp) ?_; (case hd => rfl); (case hg => rfl); (case hr => first | (go_simp; done) | (go_simp; rfl)); (case hp => exact (Reps.none _ _)); intro v20007 w11 ho12 hb hg_ hnew_; clear hg_ hnew_; (first | rw [← Ny20006.out] at ho12 | (simp only [Int.reduceToNat] at ho12; rw [← Ny20006.out] at ho12)); have n0_ := Aside0.mk (Kd.S_elder' (by (with_reducible repeat (first | apply Kd.S_alloc | apply Kd.S_drewN | apply Kd.S_drew)); exact (Kd.S_mono (Kd.S_far (p := ⟨gb20001, 0, none⟩) (Kd.S_types HO20005.out BK20001.out (by decide)) (fun _ hk => hk.2) (.slice Ao9 t20003.length co9)) (fun _ h_ => h_.1))) (Kd.R_base ho12) hb); have n1_ := Aside0.mk (Kd.R_lower ho12 (below_size (by repeat (first | (with_reducible first | exact HB.out | apply below_alloc | apply pw_below_drewN | apply below_drew1 | refine below_set ?_ GE20001.out | refine below_set ?_ GE20002.out) | exact HB.out)))); have n2_ := Aside0.mk (blk_below (g := gb20001) (o := .cells #[.slice Ao9 t20003.length co9, .slice A0_1 l0_1.length c0_1] 28 (0, 0)) (by (with_reducible repeat (first | refine blk_drewN ?_ _ | refine blk_drew ?_ | refine blk_alloc ?_ _)); refine blk_put (cs := #[.slice A0_0 l0_0.length c0_0, .slice A0_1 l0_1.length c0_1]) ?_ 0 _ rfl; (with_reducible repeat (first | refine blk_drewN ?_ _ | refine blk_drew ?_ | refine blk_alloc ?_ _)); exact BK20001.out) hb); have n3_ := Aside0.mk (blk_below (g := gb20002) (o := .cells #[.slice none 0 0, .slice none 0 0] 28 (0, 0)) (by (with_reducible repeat (first | refine blk_drewN ?_ _ | refine blk_drew ?_ | refine blk_alloc ?_ _)); refine blk_far ?_ NB20002_20001.out _; (with_reducible repeat (first | refine blk_drewN ?_ _ | refine blk_drew ?_ | refine blk_alloc ?_ _)); exact BK20002.out) hb); have n4_ := Aside0.mk (below_step (by repeat (first | (with_reducible first | exact HB.out | apply below_alloc | apply pw_below_drewN | apply below_drew1 | refine below_set ?_ GE20001.out | refine below_set ?_ GE20002.out) | exact HB.out)) hb); clear HO20005; clear BK20001; clear BK20002; clear HB; have HO20005 := n0_; have HO20008 := n1_; have BK20001 := n2_; have BK20002 := n3_; have HB := n4_; clear n0_ n1_ n2_ n3_ n4_; clear hb ho12; have hcz13_0 : w11.cell? ⟨gb20001, 0, none⟩ = some (.slice Ao9 t20003.length co9) := (blk_cell BK20001.out 0).trans rfl; have hcz13_1 : w11.cell? ⟨gb20001, 1, none⟩ = some (.slice A0_1 l0_1.length c0_1) := (blk_cell BK20001.out 1).trans rfl; have hfz13_0 := blk_frozen BK20001.out 0; have hfz13_1 := blk_frozen BK20001.out 1) | ((with_reducible refine gate_builtin (b := .append) (xs := #[.tmp 7, .tmp 9]) rfl ?_); at_builtin; refine Kd.R_append_rows (Kd.int .i64) (w0 := w) w.heap.size rfl (.tmp 7) (.tmp 9) 23 3 (.int .i64 0) 8 rfl Tryd.underlying23 info3 rfl (by decide) (by omega) v20007 y20006 l0_1 _ _ _ (fun _ => True) (fun _ => False) rfl rfl ?aO ?aR (fun _ _ h => h) (fun _ h => h.elim) ?aF ?aB ?aS ?aL ?_; (case aR => repeat (first | exact (Kd.C_below HR0_1.out HB.out) | (with_reducible refine Kd.C_alloc ?_ _) | (with_reducible refine Kd.C_drewN ?_ _) | (with_reducible refine Kd.C_drew ?_))); (case aB => exact (by repeat (first | (with_reducible first | exact HB.out | apply below_alloc | apply pw_below_drewN | apply below_drew1 | refine below_set ?_ GE20001.out | refine below_set ?_ GE20002.out) | exact HB.out))); (case aF => exact (fun _ _ => trivial)); (case aO => exact (by (with_reducible repeat (first | apply Kd.R_alloc | apply Kd.R_drewN | apply Kd.R_drew)); exact HO20008.out)); (case aS => exact (below_size (by repeat (first | (with_reducible first | exact HB.out | apply below_alloc | apply pw_below_drewN | apply below_drew1 | refine below_set ?_ GE20001.out | refine below_set ?_ GE20002.out) | exact HB.out)))); (case aL => have := LMc3.out; omega); intro v20010 w14 ho hb hg hat; rw [← Ny20009.out] at ho; have n0_ := Aside0.mk (blk_grown (g := gb20001) (o := .cells #[.slice Ao9 t20003.length co9, .slice A0_1 l0_1.length c0_1] 28 (0, 0)) (by (with_reducible repeat (first | refine blk_drewN ?_ _ | refine blk_drew ?_ | refine blk_alloc ?_ _)); exact BK20001.out) hg (Kd.R_ne HO20008.out BK20001.out (by decide))); have n1_ := Aside0.mk (blk_grown (g := gb20002) (o := .cells #[.slice none 0 0, .slice none 0 0] 28 (0, 0)) (by (with_reducible repeat (first | refine blk_drewN ?_ _ | refine blk_drew ?_ | refine blk_alloc ?_ _)); exact BK20002.out) hg (Kd.R_ne HO20008.out BK20002.out (by decide))); have n2_ := Aside0.mk (Kd.S_after (ok := (fun _ => True)) (by (with_reducible repeat (first | apply Kd.S_alloc | apply Kd.S_drewN | apply Kd.S_drew)); exact HO20005.out) hg hat); have n3_ := Aside0.mk (hb); have n4_ := Aside0.mk (ho); clear BK20001; clear BK20002; clear HO20005; clear HB; clear HO20008; have BK20001 := n0_; have BK20002 := n1_; have HO20005 := n2_; have HB := n3_; have HO20011 := n4_; clear n0_ n1_ n2_ n3_ n4_; clear ho hb hg hat; obtain ⟨Ao15, co15, eo15⟩ := Kd.R_slice HO20011.out; subst eo15; have hcz16_0 : w14.cell? ⟨gb20001, 0, none⟩ = some (.slice Ao9 t20003.length co9) := (blk_cell BK20001.out 0).trans rfl; have hcz16_1 : w14.cell? ⟨gb20001, 1, none⟩ = some (.slice A0_1 l0_1.length c0_1) := (blk_cell BK20001.out 1).trans rfl; have hfz16_0 := blk_frozen BK20001.out 0; have hfz16_1 := blk_frozen BK20001.out 1; have hcz17_0 : w14.cell? ⟨gb20002, 0, none⟩ = some (.slice none 0 0) := (blk_cell BK20002.out 0).trans rfl; have hcz17_1 : w14.cell? ⟨gb20002, 1, none⟩ = some (.slice none 0 0) := (blk_cell BK20002.out 1).trans rfl; have hfz17_0 := blk_frozen BK20002.out 0; have hfz17_1 := blk_frozen BK20002.out 1))
    refine bodyPost_ret (results_cell_row rfl _ _ gb20002 28 #[.slice Ao9 t20003.length co9, .slice Ao15 y20009.length co15] (0, 0) _ rfl (by (with_reducible repeat (first | refine blk_drewN ?_ _ | refine blk_drew ?_ | refine blk_alloc ?_ _)); refine blk_put (cs := #[.slice Ao9 t20003.length co9, .slice none 0 0]) ?_ 1 _ rfl; (with_reducible repeat (first | refine blk_drewN ?_ _ | refine blk_drew ?_ | refine blk_alloc ?_ _)); refine blk_put (cs := #[.slice none 0 0, .slice none 0 0]) ?_ 0 _ rfl; (with_reducible repeat (first | refine blk_drewN ?_ _ | refine blk_drew ?_ | refine blk_alloc ?_ _)); refine blk_far ?_ NB20002_20001.out _; (with_reducible repeat (first | refine blk_drewN ?_ _ | refine blk_drew ?_ | refine blk_alloc ?_ _)); exact BK20002.out) Tryd.underlying28 rfl (by kernel_rfl)) rfl ?_
    exact ⟨_, _, by first | rfl | (simp [errW_none, errW_some] <;> rfl) | (simp [*, errW_none, errW_some] <;> rfl), by (with_reducible repeat (first | apply Kd.S_alloc | apply Kd.S_drewN | apply Kd.S_drew)); exact Kd.S_mono (Kd.S_far (p := ⟨gb20002, 1, none⟩) (Kd.S_far (p := ⟨gb20002, 0, none⟩) (Kd.S_far (p := ⟨gb20001, 1, none⟩) (Kd.S_types (Kd.S_types HO20005.out BK20001.out (by decide)) BK20002.out (by decide)) (fun _ hk => hk.1.2) (.slice Ao15 y20009.length co15)) (fun _ hk => hk.2) (.slice Ao9 t20003.length co9)) (fun _ hk => hk.2) (.slice Ao15 y20009.length co15)) (fun _ hk => hk.1.1.2), by (with_reducible repeat (first | apply Kd.R_alloc | apply Kd.R_drewN | apply Kd.R_drew)); exact Kd.R_mono (Kd.R_far (p := ⟨gb20002, 1, none⟩) (Kd.R_far (p := ⟨gb20002, 0, none⟩) (Kd.R_far (p := ⟨gb20001, 1, none⟩) (Kd.R_types (Kd.R_types HO20011.out BK20001.out (by decide)) BK20002.out (by decide)) (fun _ hk => hk.1.2) (.slice Ao15 y20009.length co15)) (fun _ hk => hk.2) (.slice Ao9 t20003.length co9)) (fun _ hk => hk.2) (.slice Ao15 y20009.length co15)) (fun _ hk => trivial), by repeat (first | (with_reducible first | exact HB.out | apply below_alloc | apply pw_below_drewN | apply below_drew1 | refine below_set ?_ GE20001.out | refine below_set ?_ GE20002.out) | exact HB.out)⟩
  · rw [if_neg c3] at H
    exact absurd H (by simp)

/-! ### spec_ParseLayout: function 11 -/
def spec_ParseLayout.f (k : Nat) (a0 : ByteArray) : Option ((List (List Int)) × List Int × Bool) := (spec_l2RawParseLayout.f k a0).bind fun bt20002 => ((spec_l13OwnLayout.f k bt20002.1 bt20002.2.1).bind fun bt20010 => (some (bt20010.1, bt20010.2, bt20002.2.2)))
theorem spec_ParseLayout.mono : ∀ a0 k, LeO (spec_ParseLayout.f k a0) (spec_ParseLayout.f (k + 1) a0) := by
  intro a0 k
  unfold spec_ParseLayout.f
  repeat' first
      | (with_reducible exact spec_l13OwnLayout.mono _ _ _)
      | (with_reducible exact spec_l2RawParseLayout.mono _ _)
      | (with_reducible exact LeO.refl _)
      | (with_reducible exact LeO.none _)
      | (with_reducible refine LeO.ite ?_ ?_)
      | (with_reducible refine LeO.bind ?_ (fun _ => ?_))
      | exact spec_l13OwnLayout.mono _ _ _
      | exact spec_l2RawParseLayout.mono _ _
      | exact LeO.none _
      | refine LeO.ite ?_ ?_
      | refine LeO.bind ?_ (fun _ => ?_)
set_option maxHeartbeats 8000000 in
set_option maxRecDepth 100000 in
theorem spec_ParseLayout.calls (k : Nat) (a0 : ByteArray) (r1 : List (List Int)) (r2 : List Int) (r3 : Bool) (w : World) (h : spec_ParseLayout.f k a0 = some (r1, r2, r3)) :
    Calls Tryd.prog 11 #[.string a0] w fun e w' => ∃ v0_ v1_ : Value, e = .returned (.tuple #[.agg #[v0_, v1_], .bool r3]) ∧ Kd.S (Kd.slice 3 (Kd.int .i64)) 23 w' w.heap.size (fun k_ => some k_ ≠ (v1_ : Value).ownBlock) v0_ r1 ∧ Kd.R (Kd.int .i64) 3 w' w.heap.size (fun _ => True) v1_ r2 ∧ Below w.heap.size w w' := by
  have hu28 := Tryd.underlying28
  have HB := Aside0.mk (Below.refl w.heap.size w)
  have H : ((spec_l2RawParseLayout.f k a0).bind fun bt20002 => ((spec_l13OwnLayout.f k bt20002.1 bt20002.2.1).bind fun bt20010 => (some (bt20010.1, bt20010.2, bt20002.2.2)))) = some (r1, r2, r3) := h
  clear h
  replace H := Option.bind_eq_some_iff.mp H
  obtain ⟨⟨t20002, t20005, t20008⟩, A20, H⟩ := H
  replace H : ((spec_l13OwnLayout.f k t20002 t20005).bind fun bt20010 => (some (bt20010.1, bt20010.2, t20008))) = some (r1, r2, r3) := H
  have A2 := Aside0.mk A20
  clear A20
  replace H := Option.bind_eq_some_iff.mp H
  obtain ⟨⟨t20010, t20013⟩, A30, H⟩ := H
  replace H : (some (t20010, t20013, t20008)) = some (r1, r2, r3) := H
  have A3 := Aside0.mk A30
  clear A30
  simp only [Option.some.injEq, Prod.mk.injEq] at H
  obtain ⟨rfl, rfl, rfl⟩ := H
  go_enter Tryd.func11, Tryd.ntmps11
  go_wp2_with (first | ((with_reducible refine gate_dst (N := 2) rfl ?_); refine box_event ?hg (N := 2) ?hd (cs := #[.slice none 0 0, .slice none 0 0]) (t := 28) ?hr ?_; (case hd => rfl); (case hg => rfl); (case hr => first | (go_simp; done) | (go_simp; rfl)); intro gb20001 hg w4 hbox hb; have n0_ := Aside0.mk (below_step (by repeat (first | (with_reducible first | exact HB.out | apply below_alloc | apply pw_below_drewN | apply below_drew1) | exact HB.out)) hb); have n1_ := Aside0.mk (hbox); have n2_ := Aside0.mk ((by rw [hg]; exact (below_size (by repeat (first | (with_reducible first | exact HB.out | apply below_alloc | apply pw_below_drewN | apply below_drew1) | exact HB.out))) : w.heap.size ≤ gb20001)); have n3_ := Aside0.mk ((by rw [hg]; exact (below_size (by repeat (first | (with_reducible first | exact HB.out | apply below_alloc | apply pw_below_drewN | apply below_drew1) | exact HB.out))) : w.heap.size ≤ gb20001)); clear HB; have HB := n0_; have BK20001 := n1_; have GW20001 := n2_; have GE20001 := n3_; clear n0_ n1_ n2_ n3_; clear hb hbox hg) | ((with_reducible refine gate_callee (f := 25) rfl ?_); refine goesL_ (some 8) rfl rfl Tryd.func25 (by kernel_rfl) rfl #[.string a0] rfl (by (try simp only [List.map_toArray, List.map_cons, List.map_nil]); first | done | rfl | (simp only [List.length_drop, List.length_take]; rfl)) ?_; (with_reducible refine (spec_l2RawParseLayout.calls k a0 t20002 t20005 t20008 _ A2.out).mono ?_); rintro e w5 ⟨v20003, v20006, rfl, ho0, ho1, hb⟩; refine ⟨_, rfl, ?_⟩; have n0_ := Aside0.mk (Kd.S_lower ho0 (below_size (by repeat (first | (with_reducible first | exact HB.out | apply below_alloc | apply pw_below_drewN | apply below_drew1 | refine below_set ?_ GE20001.out) | exact HB.out)))); have n1_ := Aside0.mk (Kd.R_lower ho1 (below_size (by repeat (first | (with_reducible first | exact HB.out | apply below_alloc | apply pw_below_drewN | apply below_drew1 | refine below_set ?_ GE20001.out) | exact HB.out)))); have n2_ := Aside0.mk (blk_below (g := gb20001) (o := .cells #[.slice none 0 0, .slice none 0 0] 28 (0, 0)) (by (with_reducible repeat (first | refine blk_drewN ?_ _ | refine blk_drew ?_ | refine blk_alloc ?_ _)); exact BK20001.out) hb); have n3_ := Aside0.mk (below_step (by repeat (first | (with_reducible first | exact HB.out | apply below_alloc | apply pw_below_drewN | apply below_drew1 | refine below_set ?_ GE20001.out) | exact HB.out)) hb); clear BK20001; clear HB; have HO20004 := n0_; have HO20007 := n1_; have BK20001 := n2_; have HB := n3_; clear n0_ n1_ n2_ n3_; (try clear hb); (try clear hb2); (try clear hk); (try clear hi); (try clear ho0); (try clear ho1)) | ((with_reducible refine gate_dst (N := 4) rfl ?_); refine box_event ?hg (N := 4) ?hd (cs := #[.slice none 0 0, .slice none 0 0]) (t := 28) ?hr ?_; (case hd => rfl); (case hg => rfl); (case hr => first | (go_simp; done) | (go_simp; rfl)); intro gb20009 hg w6 hbox hb; have n0_ := Aside0.mk (Kd.S_below (by (with_reducible repeat (first | apply Kd.S_alloc | apply Kd.S_drewN | apply Kd.S_drew)); exact HO20004.out) hb); have n1_ := Aside0.mk (Kd.R_below (by (with_reducible repeat (first | apply Kd.R_alloc | apply Kd.R_drewN | apply Kd.R_drew)); exact HO20007.out) hb); have n2_ := Aside0.mk (blk_below (g := gb20001) (o := .cells #[.slice none 0 0, .slice none 0 0] 28 (0, 0)) (by (with_reducible repeat (first | refine blk_drewN ?_ _ | refine blk_drew ?_ | refine blk_alloc ?_ _)); exact BK20001.out) hb); have n3_ := Aside0.mk (below_step (by repeat (first | (with_reducible first | exact HB.out | apply below_alloc | apply pw_below_drewN | apply below_drew1 | refine below_set ?_ GE20001.out) | exact HB.out)) hb); have n4_ := Aside0.mk (hbox); have n5_ := Aside0.mk ((by rw [hg]; exact (below_size (by repeat (first | (with_reducible first | exact HB.out | apply below_alloc | apply pw_below_drewN | apply below_drew1 | refine below_set ?_ GE20001.out) | exact HB.out))) : w.heap.size ≤ gb20009)); have n6_ := Aside0.mk ((by rw [hg]; exact (below_size (by repeat (first | (with_reducible first | exact HB.out | apply below_alloc | apply pw_below_drewN | apply below_drew1 | refine below_set ?_ GE20001.out) | exact HB.out))) : w.heap.size ≤ gb20009)); have n7_ := Aside0.mk ((by rw [hg]; exact Nat.ne_of_lt (blk_lt (g := gb20001) (o := .cells #[.slice none 0 0, .slice none 0 0] 28 (0, 0)) (by (with_reducible repeat (first | refine blk_drewN ?_ _ | refine blk_drew ?_ | refine blk_alloc ?_ _)); exact BK20001.out)) : gb20001 ≠ gb20009)); have n8_ := Aside0.mk ((by rw [hg]; exact Nat.ne_of_gt (blk_lt (g := gb20001) (o := .cells #[.slice none 0 0, .slice none 0 0] 28 (0, 0)) (by (with_reducible repeat (first | refine blk_drewN ?_ _ | refine blk_drew ?_ | refine blk_alloc ?_ _)); exact BK20001.out)) : gb20009 ≠ gb20001)); clear HO20004; clear HO20007; clear BK20001; clear HB; have HO20004 := n0_; have HO20007 := n1_; have BK20001 := n2_; have HB := n3_; have BK20009 := n4_; have GW20009 := n5_; have GE20009 := n6_; have NB20001_20009 := n7_; have NB20009_20001 := n8_; clear n0_ n1_ n2_ n3_ n4_ n5_ n6_ n7_ n8_; clear hb hbox hg; obtain ⟨Ao7, co7, eo7⟩ := Kd.S_slice HO20004.out; subst eo7; have hnb8 := NB20009_20001.out; have hnc8 := NB20001_20009.out; have hcz9_0 : w6.cell? ⟨gb20009, 0, none⟩ = some (.slice none 0 0) := (blk_cell BK20009.out 0).trans rfl; have hcz9_1 : w6.cell? ⟨gb20009, 1, none⟩ = some (.slice none 0 0) := (blk_cell BK20009.out 1).trans rfl; have hfz9_0 := blk_frozen BK20009.out 0; have hfz9_1 := blk_frozen BK20009.out 1; obtain ⟨Ao10, co10, eo10⟩ := Kd.R_slice HO20007.out; subst eo10) | ((with_reducible refine gate_callee (f := 26) rfl ?_); refine goesL_ (some 12) rfl rfl Tryd.func26 (by kernel_rfl) rfl #[.agg #[.slice Ao7 t20002.length co7, .slice Ao10 t20005.length co10]] rfl (by (try simp only [List.map_toArray, List.map_cons, List.map_nil]); first | done | rfl | (simp only [List.length_drop, List.length_take]; rfl)) ?_; (with_reducible refine (spec_l13OwnLayout.calls k _ _ t20002 _ _ t20005 t20010 t20013 _ ?side1 ?side2 ?side3 ?side4 A3.out).mono ?_); (case side1 => refine (Kd.S_reads' (e := 23) (base := w.heap.size) (ok := fun k_ => some k_ ≠ (.slice Ao10 t20005.length co10 : Value).ownBlock) (n := t20002.length) (c := co7) ?_).2.2; exact (by (with_reducible repeat (first | apply Kd.S_alloc | apply Kd.S_drewN | apply Kd.S_drew)); exact (Kd.S_mono (Kd.S_far (p := ⟨gb20009, 1, none⟩) (Kd.S_far (p := ⟨gb20009, 0, none⟩) (Kd.S_types HO20004.out BK20009.out (by decide)) (fun _ hk => hk.2) (.slice Ao7 t20002.length co7)) (fun _ hk => hk.2) (.slice Ao10 t20005.length co10)) (fun _ h_ => h_.1)))); (case side2 => exact (Kd.S_reads' HO20004.out).2.1); (case side3 => refine (Kd.R_reads' (e := 3) (base := w.heap.size) (ok := fun k_ => True) (n := t20005.length) (c := co10) ?_).2.2; exact (by (with_reducible repeat (first | apply Kd.R_alloc | apply Kd.R_drewN | apply Kd.R_drew)); exact (Kd.R_mono (Kd.R_far (p := ⟨gb20009, 1, none⟩) (Kd.R_far (p := ⟨gb20009, 0, none⟩) (Kd.R_types HO20007.out BK20009.out (by decide)) (fun _ hk => hk.2) (.slice Ao7 t20002.length co7)) (fun _ hk => hk.2) (.slice Ao10 t20005.length co10)) (fun _ h_ => h_.1)))); (case side4 => exact (Kd.R_reads' HO20007.out).2.1); rintro e w11 ⟨v20011, v20014, rfl, ho0, ho1, hb⟩; refine ⟨_, rfl, ?_⟩; have n0_ := Aside0.mk (Kd.S_mono (Kd.S_told (Kd.S_told (Kd.S_old (by (with_reducible repeat (first | apply Kd.S_alloc | apply Kd.S_drewN | apply Kd.S_drew)); exact (Kd.S_mono (Kd.S_far (p := ⟨gb20009, 1, none⟩) (Kd.S_far (p := ⟨gb20009, 0, none⟩) (Kd.S_types HO20004.out BK20009.out (by decide)) (fun _ hk => hk.2) (.slice Ao7 t20002.length co7)) (fun _ hk => hk.2) (.slice Ao10 t20005.length co10)) (fun _ h_ => h_.1))) hb) (Kd.S_base ho0)) (Kd.R_base ho1)) (fun _ h_ => h_.1)); have n1_ := Aside0.mk (Kd.R_elder' (by (with_reducible repeat (first | apply Kd.R_alloc | apply Kd.R_drewN | apply Kd.R_drew)); exact (Kd.R_mono (Kd.R_far (p := ⟨gb20009, 1, none⟩) (Kd.R_far (p := ⟨gb20009, 0, none⟩) (Kd.R_types HO20007.out BK20009.out (by decide)) (fun _ hk => hk.2) (.slice Ao7 t20002.length co7)) (fun _ hk => hk.2) (.slice Ao10 t20005.length co10)) (fun _ h_ => h_.1))) (Kd.R_base ho1) hb); have n2_ := Aside0.mk (Kd.S_lower (Kd.S_new' (Kd.S_new' ho0 (Kd.S_lt (by (with_reducible repeat (first | apply Kd.S_alloc | apply Kd.S_drewN | apply Kd.S_drew)); exact (Kd.S_mono (Kd.S_far (p := ⟨gb20009, 1, none⟩) (Kd.S_far (p := ⟨gb20009, 0, none⟩) (Kd.S_types HO20004.out BK20009.out (by decide)) (fun _ hk => hk.2) (.slice Ao7 t20002.length co7)) (fun _ hk => hk.2) (.slice Ao10 t20005.length co10)) (fun _ h_ => h_.1))))) (Kd.R_lt (by (with_reducible repeat (first | apply Kd.R_alloc | apply Kd.R_drewN | apply Kd.R_drew)); exact (Kd.R_mono (Kd.R_far (p := ⟨gb20009, 1, none⟩) (Kd.R_far (p := ⟨gb20009, 0, none⟩) (Kd.R_types HO20007.out BK20009.out (by decide)) (fun _ hk => hk.2) (.slice Ao7 t20002.length co7)) (fun _ hk => hk.2) (.slice Ao10 t20005.length co10)) (fun _ h_ => h_.1))))) (below_size (by repeat (first | (with_reducible first | exact HB.out | apply below_alloc | apply pw_below_drewN | apply below_drew1 | refine below_set ?_ GE20001.out | refine below_set ?_ GE20009.out) | exact HB.out)))); have n3_ := Aside0.mk (Kd.R_lower (Kd.R_new' ho1 (Kd.R_lt (by (with_reducible repeat (first | apply Kd.R_alloc | apply Kd.R_drewN | apply Kd.R_drew)); exact (Kd.R_mono (Kd.R_far (p := ⟨gb20009, 1, none⟩) (Kd.R_far (p := ⟨gb20009, 0, none⟩) (Kd.R_types HO20007.out BK20009.out (by decide)) (fun _ hk => hk.2) (.slice Ao7 t20002.length co7)) (fun _ hk => hk.2) (.slice Ao10 t20005.length co10)) (fun _ h_ => h_.1))))) (below_size (by repeat (first | (with_reducible first | exact HB.out | apply below_alloc | apply pw_below_drewN | apply below_drew1 | refine below_set ?_ GE20001.out | refine below_set ?_ GE20009.out) | exact HB.out)))); have n4_ := Aside0.mk (blk_below (g := gb20001) (o := .cells #[.slice none 0 0, .slice none 0 0] 28 (0, 0)) (by (with_reducible repeat (first | refine blk_drewN ?_ _ | refine blk_drew ?_ | refine blk_alloc ?_ _)); refine blk_far ?_ NB20001_20009.out _; (with_reducible repeat (first | refine blk_drewN ?_ _ | refine blk_drew ?_ | refine blk_alloc ?_ _)); refine blk_far ?_ NB20001_20009.out _; (with_reducible repeat (first | refine blk_drewN ?_ _ | refine blk_drew ?_ | refine blk_alloc ?_ _)); exact BK20001.out) hb); have n5_ := Aside0.mk (blk_below (g := gb20009) (o := .cells #[.slice Ao7 t20002.length co7, .slice Ao10 t20005.length co10] 28 (0, 0)) (by (with_reducible repeat (first | refine blk_drewN ?_ _ | refine blk_drew ?_ | refine blk_alloc ?_ _)); refine blk_put (cs := #[.slice Ao7 t20002.length co7, .slice none 0 0]) ?_ 1 _ rfl; (with_reducible repeat (first | refine blk_drewN ?_ _ | refine blk_drew ?_ | refine blk_alloc ?_ _)); refine blk_put (cs := #[.slice none 0 0, .slice none 0 0]) ?_ 0 _ rfl; (with_reducible repeat (first | refine blk_drewN ?_ _ | refine blk_drew ?_ | refine blk_alloc ?_ _)); exact BK20009.out) hb); have n6_ := Aside0.mk (below_step (by repeat (first | (with_reducible first | exact HB.out | apply below_alloc | apply pw_below_drewN | apply below_drew1 | refine below_set ?_ GE20001.out | refine below_set ?_ GE20009.out) | exact HB.out)) hb); clear HO20004; clear HO20007; clear BK20001; clear BK20009; clear HB; have HO20004 := n0_; have HO20007 := n1_; have HO20012 := n2_; have HO20015 := n3_; have BK20001 := n4_; have BK20009 := n5_; have HB := n6_; clear n0_ n1_ n2_ n3_ n4_ n5_ n6_; (try clear hb); (try clear hb2); (try clear hk); (try clear hi); (try clear ho0); (try clear ho1); obtain ⟨Ao12, co12, eo12⟩ := Kd.S_slice HO20012.out; subst eo12; have hcz13_0 : w11.cell? ⟨gb20001, 0, none⟩ = some (.slice none 0 0) := (blk_cell BK20001.out 0).trans rfl; have hcz13_1 : w11.cell? ⟨gb20001, 1, none⟩ = some (.slice none 0 0) := (blk_cell BK20001.out 1).trans rfl; have hfz13_0 := blk_frozen BK20001.out 0; have hfz13_1 := blk_frozen BK20001.out 1; obtain ⟨Ao14, co14, eo14⟩ := Kd.R_slice HO20015.out; subst eo14))
  refine bodyPost_ret (results_ct rfl _ _ gb20001 28 #[.slice Ao12 t20010.length co12, .slice Ao14 t20013.length co14] (0, 0) _ rfl (by (with_reducible repeat (first | refine blk_drewN ?_ _ | refine blk_drew ?_ | refine blk_alloc ?_ _)); refine blk_put (cs := #[.slice Ao12 t20010.length co12, .slice none 0 0]) ?_ 1 _ rfl; (with_reducible repeat (first | refine blk_drewN ?_ _ | refine blk_drew ?_ | refine blk_alloc ?_ _)); refine blk_put (cs := #[.slice none 0 0, .slice none 0 0]) ?_ 0 _ rfl; (with_reducible repeat (first | refine blk_drewN ?_ _ | refine blk_drew ?_ | refine blk_alloc ?_ _)); exact BK20001.out) Tryd.underlying28 rfl (by kernel_rfl)) rfl ?_
  exact ⟨_, _, by first | rfl | (simp [errW_none, errW_some] <;> rfl) | (simp [*, errW_none, errW_some] <;> rfl), by (with_reducible repeat (first | apply Kd.S_alloc | apply Kd.S_drewN | apply Kd.S_drew)); exact Kd.S_mono (Kd.S_far (p := ⟨gb20001, 1, none⟩) (Kd.S_far (p := ⟨gb20001, 0, none⟩) (Kd.S_types HO20012.out BK20001.out (by decide)) (fun _ hk => hk.2) (.slice Ao12 t20010.length co12)) (fun _ hk => hk.2) (.slice Ao14 t20013.length co14)) (fun _ hk => hk.1.1.1), by (with_reducible repeat (first | apply Kd.R_alloc | apply Kd.R_drewN | apply Kd.R_drew)); exact Kd.R_mono (Kd.R_far (p := ⟨gb20001, 1, none⟩) (Kd.R_far (p := ⟨gb20001, 0, none⟩) (Kd.R_types HO20015.out BK20001.out (by decide)) (fun _ hk => hk.2) (.slice Ao12 t20010.length co12)) (fun _ hk => hk.2) (.slice Ao14 t20013.length co14)) (fun _ hk => trivial), by repeat (first | (with_reducible first | exact HB.out | apply below_alloc | apply pw_below_drewN | apply below_drew1 | refine below_set ?_ GE20001.out | refine below_set ?_ GE20009.out) | exact HB.out)⟩

/-! ### impl_FormatLayout: function 9 -/
def impl_FormatLayout.f (l0_0 : List (List Int)) (l0_1 : List Int) : Option ByteArray := if fmOk l0_0 l0_1 = true then some (fmB l0_0 l0_1) else none
theorem impl_FormatLayout.calls (A0_0 : Option Addr) (c0_0 : Nat) (l0_0 : List (List Int)) (A0_1 : Option Addr) (c0_1 : Nat) (l0_1 : List Int) (r : ByteArray) (w : World) (hr0_0 : Kd.C (Kd.slice 3 (Kd.int .i64)) w A0_0 l0_0.length l0_0) (hc0_0 : l0_0.length ≤ c0_0) (hr0_1 : Kd.C (Kd.int .i64) w A0_1 l0_1.length l0_1) (hc0_1 : l0_1.length ≤ c0_1) (h : impl_FormatLayout.f l0_0 l0_1 = some r) (hpw : Pow w) :
    Calls Tryd.prog 9 #[.agg #[.slice A0_0 l0_0.length c0_0, .slice A0_1 l0_1.length c0_1]] w fun e w' => e = .returned (.string r) ∧ Below w.heap.size w w' := by
  unfold impl_FormatLayout.f at h
  by_cases hs : fmOk l0_0 l0_1 = true
  case neg => rw [if_neg hs] at h; cases h
  rw [if_pos hs] at h
  have e : fmB l0_0 l0_1 = r := Option.some.inj h
  obtain ⟨h1, h2, h3⟩ := fmOk_of hs
  rw [← e]; exact impl_format_walk w A0_0 c0_0 l0_0 A0_1 c0_1 l0_1 hr0_0 hr0_1 h2 h3 h1 hpw

-- NOT PRINTED: function 77 (utf8_RuneCountInString)

-- NOT PRINTED: function 94 (utf8_decodeRuneInStringSlow)

-- NOT PRINTED: function 78 (utf8_DecodeRuneInString)

-- NOT PRINTED: function 61 (strings_explode)

-- NOT PRINTED: function 107 (bytealg_IndexByteString)

-- NOT PRINTED: function 95 (stringslite_IndexByte)

-- NOT PRINTED: function 96 (bytealg_IndexString)

-- NOT PRINTED: function 97 (bytealg_Cutover)

-- NOT PRINTED: function 108 (bytealg_hashStr_string)

-- NOT PRINTED: function 98 (bytealg_IndexRabinKarp_string)

-- NOT PRINTED: function 80 (stringslite_Index)

-- NOT PRINTED: function 63 (strings_Index)

-- NOT PRINTED: function 79 (bytealg_CountString)

-- NOT PRINTED: function 62 (strings_Count)

-- NOT PRINTED: function 46 (strings_genSplit)

-- NOT PRINTED: function 27 (strings_Split)

-- NOT PRINTED: function 47 (strings_FieldsFunc)

-- NOT PRINTED: function 81 (unicode_is16)

-- NOT PRINTED: function 82 (unicode_is32)

-- NOT PRINTED: function 64 (unicode_isExcludingLatin)

-- NOT PRINTED: function 48 (unicode_IsSpace)

-- NOT PRINTED: function 47 (strings_FieldsFunc_at_IsSpace)

-- NOT PRINTED: function 28 (strings_Fields)

-- NOT PRINTED: function 99 (strconv_lower)

-- NOT PRINTED: function 100 (strconv_underscoreOK)

-- NOT PRINTED: function 83 (strconv_ParseUint)

-- NOT PRINTED: function 65 (strconv_ParseInt)

-- NOT PRINTED: function 49 (strconv_Atoi_49)

-- NOT PRINTED: function 84 (stringslite_Clone)

-- NOT PRINTED: function 66 (strconv_syntaxError)

-- NOT PRINTED: function 67 (strconv_rangeError)

-- NOT PRINTED: function 88 (strconv_small)

-- NOT PRINTED: function 102 (strconv_log10Pow2)

-- NOT PRINTED: function 103 (bits_Len64)

-- NOT PRINTED: function 104 (strconv_bool2_int)

-- NOT PRINTED: function 89 (strconv_numDigits)

-- NOT PRINTED: function 90 (strconv_formatBase10)

-- NOT PRINTED: function 105 (strconv_isPowerOfTwo)

-- NOT PRINTED: function 109 (bits_TrailingZeros32)

-- NOT PRINTED: function 110 (bits_TrailingZeros64)

-- NOT PRINTED: function 106 (bits_TrailingZeros)

-- NOT PRINTED: function 91 (strconv_formatBits)

-- NOT PRINTED: function 74 (strconv_FormatInt)

-- NOT PRINTED: function 56 (strconv_Itoa_56)

-- NOT PRINTED: function 41 (strconv_Itoa_41)

-- NOT PRINTED: function 85 (errors_New)

-- NOT PRINTED: function 68 (strconv_baseError)

-- NOT PRINTED: function 69 (strconv_bitSizeError)

-- NOT PRINTED: function 50 (strconv_toError)

-- NOT PRINTED: function 29 (strconv_Atoi_29)

-- NOT PRINTED: function 101 (slices_IndexFunc_int_int)

-- NOT PRINTED: function 86 (slices_ContainsFunc_int_int)

-- NOT PRINTED: function 87 (impl_within_1)

/-! ### impl_within: function 70 -/
/-- What the closure of impl.within tells of a number. -/
def outB (m n : Int) : Bool := decide (n < 0) || decide (m < n)
theorem outB_def (m n : Int) : outB m n = (decide (n < 0) || decide (m < n)) := rfl

theorem within_clo (b : Nat) (n m : Int) (w : World) (hc : w.cell? ⟨b, 0, none⟩ = some (.int .i64 m)) :
    Calls Tryd.prog 87 #[.int .i64 n, .pointer (some ⟨b, 0, none⟩)] w fun e w' => e = .returned (.bool (outB m n)) ∧ Drawn0 w w' := by
  by_cases h0 : n < 0
  · have h0b : decide (n < 0) = true := decide_eq_true h0
    clear h0
    go_enter Tryd.func87, Tryd.ntmps87
    go_wp2
    go_ret
    exact ⟨by rw [outB_def, h0b]; rfl, by repeat (first | exact Drawn0.refl _ | apply Drawn0.step)⟩
  · have h0b : decide (n < 0) = false := decide_eq_false h0
    clear h0
    by_cases h1 : m < n
    · have h1b : decide (m < n) = true := decide_eq_true h1
      clear h1
      go_enter Tryd.func87, Tryd.ntmps87
      go_wp2
      go_ret
      exact ⟨by rw [outB_def, h0b, h1b]; rfl, by repeat (first | exact Drawn0.refl _ | apply Drawn0.step)⟩
    · have h1b : decide (m < n) = false := decide_eq_false h1
      clear h1
      go_enter Tryd.func87, Tryd.ntmps87
      go_wp2
      go_ret
      exact ⟨by rw [outB_def, h0b, h1b]; rfl, by repeat (first | exact Drawn0.refl _ | apply Drawn0.step)⟩

/-- From i on: the first number that is out, or -1. -/
def idxOut (m : Int) (l : List Int) (i : Nat) : Int :=
  if h : i < l.length then (if outB m (rd l i) = true then (i : Int) else idxOut m l (i + 1)) else -1
termination_by l.length - i

theorem idxOut_end (m : Int) (l : List Int) (i : Nat) (h : ¬ i < l.length) : idxOut m l i = -1 := by unfold idxOut; rw [dif_neg h]
theorem idxOut_hit (m : Int) (l : List Int) (i : Nat) (h : i < l.length) (ho : outB m (rd l i) = true) : idxOut m l i = i := by unfold idxOut; rw [dif_pos h, if_pos ho]
theorem idxOut_next (m : Int) (l : List Int) (i : Nat) (h : i < l.length) (ho : outB m (rd l i) = false) : idxOut m l i = idxOut m l (i + 1) := by conv => lhs; unfold idxOut
                                                                                                                                                   rw [dif_pos h, if_neg (by rw [ho]; decide)]

set_option maxHeartbeats 1000000 in
theorem indexFunc_within (A0 : Option Addr) (c0 : Nat) (l0 : List Int) (b : Nat) (m : Int) (w : World) (hn : (l0.length : Int) ≤ 9223372036854775807)
    (hr0 : Kd.C (Kd.int .i64) w A0 l0.length l0) (hc0 : l0.length ≤ c0) (hc : w.cell? ⟨b, 0, none⟩ = some (.int .i64 m)) :
    Calls Tryd.prog 101 #[.slice A0 l0.length c0, .func (.func 87) #[] #[.pointer (some ⟨b, 0, none⟩)]] w fun e w' => e = .returned (.int .i64 (idxOut m l0 0)) ∧ Drawn0 w w' := by
  have HR0 := Aside0.mk hr0
  clear hr0
  go_enter Tryd.func101, Tryd.ntmps101
  go_wp2
  go_loopw [5, 8] (fun v5 v8 w' => ∃ i : Nat, i ≤ l0.length ∧ v8 = .int .i64 i ∧ Aside0 (idxOut m l0 0 = idxOut m l0 i) ∧ Drawn0 w w') (fun _ i _ => l0.length - (intOf i).toNat)
  case atStart => exact ⟨0, Nat.zero_le _, rfl, ⟨rfl⟩, Drawn0.refl _⟩
  case round =>
    obtain ⟨i, hi, rfl, HI, ⟨n1, rfl⟩⟩ := hrel
    by_cases hlt : i < l0.length
    · have p1 : 0 ≤ (i : Int) := by omega
      have q1 : (i : Int) < (l0.length : Int) := by omega
      obtain ⟨ad1, e1, hx1⟩ := Kd.at_int HR0.out i p1 q1
      cases e1
      rw [Int.toNat_natCast] at hx1
      have HC := Aside0.mk (within_clo b (rd l0 i) m (w.drewN n1) (by simpa using hc))
      cases ho : outB m (rd l0 i) with
      | true =>
        have HE : Aside0 (idxOut m l0 i = i) := ⟨idxOut_hit m l0 i hlt ho⟩
        rw [ho] at HC
        clear ho
        go_wp2_with (go_at_call 87; refine HC.out.mono ?_; rintro e w' ⟨rfl, ⟨nd, rfl⟩⟩)
        go_ret
        exact ⟨by rw [HI.out, HE.out]; rfl, by repeat (first | exact Drawn0.refl _ | apply Drawn0.step)⟩
      | false =>
        have HE : Aside0 (idxOut m l0 i = idxOut m l0 (i + 1)) := ⟨idxOut_next m l0 i hlt ho⟩
        rw [ho] at HC
        clear ho
        go_wp2_with (go_at_call 87; refine HC.out.mono ?_; rintro e w' ⟨rfl, ⟨nd, rfl⟩⟩)
        go_roundw
        case rel => exact ⟨i + 1, by omega, by go_num, ⟨HI.out.trans HE.out⟩, by repeat (first | exact Drawn0.refl _ | apply Drawn0.step)⟩
        case measure => simp [intOf]; omega
    · have HE : Aside0 (idxOut m l0 i = -1) := ⟨idxOut_end m l0 i hlt⟩
      go_wp2
      go_ret
      exact ⟨by rw [HI.out, HE.out]; rfl, by repeat (first | exact Drawn0.refl _ | apply Drawn0.step)⟩

/-- All numbers lie from 0 to another one. -/
def impl_within.f (l0 : List Int) (a1 : Int) : Option Bool := if (l0.length : Int) ≤ 9223372036854775807 then some (decide (idxOut a1 l0 0 < 0)) else none

theorem containsFunc_within (A0 : Option Addr) (c0 : Nat) (l0 : List Int) (b : Nat) (m : Int) (w : World) (hn : (l0.length : Int) ≤ 9223372036854775807)
    (hr0 : Kd.C (Kd.int .i64) w A0 l0.length l0) (hc0 : l0.length ≤ c0) (hc : w.cell? ⟨b, 0, none⟩ = some (.int .i64 m)) :
    Calls Tryd.prog 86 #[.slice A0 l0.length c0, .func (.func 87) #[] #[.pointer (some ⟨b, 0, none⟩)]] w fun e w' => e = .returned (.bool (!(decide (idxOut m l0 0 < 0)))) ∧ Drawn0 w w' := by
  have HC := Aside0.mk (indexFunc_within A0 c0 l0 b m w hn hr0 hc0 hc)
  clear hr0
  generalize idxOut m l0 0 = z at HC ⊢
  by_cases hz : z < 0
  · have hz0 : decide (0 ≤ z) = false := decide_eq_false (by omega)
    have HZ : Aside0 (decide (z < 0) = true) := ⟨decide_eq_true hz⟩
    clear hz
    go_enter Tryd.func86, Tryd.ntmps86
    go_wp2_with (go_at_call 101; refine HC.out.mono ?_; rintro e w' ⟨rfl, ⟨nd, rfl⟩⟩)
    go_ret
    exact ⟨by rw [HZ.out]; simp [hz0], by repeat (first | exact Drawn0.refl _ | apply Drawn0.step)⟩
  · have hz0 : decide (0 ≤ z) = true := decide_eq_true (by omega)
    have HZ : Aside0 (decide (z < 0) = false) := ⟨decide_eq_false hz⟩
    clear hz
    go_enter Tryd.func86, Tryd.ntmps86
    go_wp2_with (go_at_call 101; refine HC.out.mono ?_; rintro e w' ⟨rfl, ⟨nd, rfl⟩⟩)
    go_ret
    exact ⟨by rw [HZ.out]; simp [hz0], by repeat (first | exact Drawn0.refl _ | apply Drawn0.step)⟩

set_option maxHeartbeats 1000000 in
theorem impl_within.calls (A0 : Option Addr) (c0 : Nat) (l0 : List Int) (a1 : Int) (r : Bool) (w : World) (hr0 : Kd.C (Kd.int .i64) w A0 l0.length l0) (hc0 : l0.length ≤ c0) (h : impl_within.f l0 a1 = some r) :
    Calls Tryd.prog 70 #[.slice A0 l0.length c0, .int .i64 a1] w fun e w' => e = .returned (.bool r) ∧ Below w.heap.size w w' := by
  unfold impl_within.f at h
  by_cases hn : (l0.length : Int) ≤ 9223372036854775807
  case neg => rw [if_neg hn] at h; cases h
  rw [if_pos hn] at h
  obtain rfl := Option.some.inj h
  clear h
  have hmf : ∀ (fn : Fn) (first cap : Array Value) (w : World), (Instr.makeFunc fn first cap).run Tryd.prog w = .ok (.func fn first cap) w := fun _ _ _ _ => rfl
  have HB : Below w.heap.size w (w.alloc (.cells #[.int .i64 a1] 3)) := (Below.refl _ _).alloc (Nat.le_refl _) _
  have HC := Aside0.mk (containsFunc_within A0 c0 l0 w.heap.size a1 (w.alloc (.cells #[.int .i64 a1] 3)) hn (Kd.C_below hr0 HB) hc0 (by rw [World.cell?_alloc_at _ _ _ _ rfl]; rfl))
  clear hr0 hn
  have HB' := Aside0.mk HB
  clear HB
  cases hb : decide (idxOut a1 l0 0 < 0) with
  | true =>
    rw [hb] at HC
    clear hb
    go_enter Tryd.func70, Tryd.ntmps70
    go_wp2_with (go_at_call 86; refine HC.out.mono ?_; rintro e w' ⟨rfl, ⟨nd, rfl⟩⟩)
    go_ret
    exact ⟨rfl, pw_below_drewN HB'.out _⟩
  | false =>
    rw [hb] at HC
    clear hb
    go_enter Tryd.func70, Tryd.ntmps70
    go_wp2_with (go_at_call 86; refine HC.out.mono ?_; rintro e w' ⟨rfl, ⟨nd, rfl⟩⟩)
    go_ret
    exact ⟨rfl, pw_below_drewN HB'.out _⟩

/-! ### impl_total: function 71 -/
def impl_total.l0 : Nat → Int → List Int → Int → Int → Option (Int)
  | 0, _, _, _, _ => none
  | k + 1, x3, x6, x7, x8 => if x8 < x7 then (if 0 ≤ x8 then (if x8 < (x6.length : Int) then (impl_total.l0 k (wrap64 (x3 + (rd x6 x8))) x6 x7 (wrap64 (x8 + 1))) else (none)) else (none)) else (some x3)
def impl_total.f (k : Nat) (l0 : List Int) : Option (Int) := impl_total.l0 k 0 l0 (l0.length : Int) 0
theorem impl_total.mono_l : ∀ k, (∀ y0 y1 y2 y3, LeO (impl_total.l0 k y0 y1 y2 y3) (impl_total.l0 (k + 1) y0 y1 y2 y3))
  | 0 => fun _ _ _ _ r h => by simp [impl_total.l0] at h
  | k + 1 => by
    have ih0 := impl_total.mono_l k
    · intro y0 y1 y2 y3
      unfold impl_total.l0
      repeat' first
      | (with_reducible exact ih0 _ _ _ _)
      | (with_reducible exact LeO.refl _)
      | (with_reducible exact LeO.none _)
      | (with_reducible refine LeO.ite ?_ ?_)
      | (with_reducible refine LeO.bind ?_ (fun _ => ?_))
      | exact ih0 _ _ _ _
      | exact LeO.none _
      | refine LeO.ite ?_ ?_
      | refine LeO.bind ?_ (fun _ => ?_)
theorem impl_total.mono : ∀ a0 k, LeO (impl_total.f k a0) (impl_total.f (k + 1) a0) := by
  intro a0 k
  have ih0 := impl_total.mono_l k
  unfold impl_total.f
  repeat' first
      | (with_reducible exact ih0 _ _ _ _)
      | (with_reducible exact LeO.refl _)
      | (with_reducible exact LeO.none _)
      | (with_reducible refine LeO.ite ?_ ?_)
      | (with_reducible refine LeO.bind ?_ (fun _ => ?_))
      | exact ih0 _ _ _ _
      | exact LeO.none _
      | refine LeO.ite ?_ ?_
      | refine LeO.bind ?_ (fun _ => ?_)
set_option maxHeartbeats 8000000 in
set_option maxRecDepth 100000 in
theorem impl_total.calls (k : Nat) (A0 : Option Addr) (c0 : Nat) (l0 : List Int) (r : Int) (w : World) (hr0 : Kd.C (Kd.int .i64) w A0 l0.length l0) (hc0 : l0.length ≤ c0) (h : impl_total.f k l0 = some r) :
    Calls Tryd.prog 71 #[.slice A0 l0.length c0] w fun e w' => e = .returned (.int .i64 r) ∧ Drawn0 w w' := by
  have HR0 := Aside0.mk hr0
  have HC0 := Aside0.mk hc0
  clear hr0 hc0
  have H : (impl_total.l0 k 0 l0 (l0.length : Int) 0) = some r := h
  clear h
  have H' := Aside0.mk H
  clear H
  go_enter Tryd.func71, Tryd.ntmps71
  go_wp2
  go_loopg [3, 8] k (fun kq v3 v8 w' => ∃ (x3_1 : Int) (x8_1 : Int), v3 = .int .i64 x3_1 ∧ v8 = .int .i64 x8_1 ∧ Aside0 (impl_total.l0 kq x3_1 l0 (l0.length : Int) x8_1 = some r) ∧ Aside0 (kq ≤ k) ∧ Drawn0 w w')
  case atStart => exact ⟨(0), (0), (by first | rfl | (simp; done) | (simp [*]; done)), (by first | rfl | (simp; done) | (simp [*]; done)), H', ⟨Nat.le_refl _⟩, by repeat (first | exact Drawn0.refl _ | apply Drawn0.step)⟩
  case round =>
    clear H'
    obtain ⟨x3_1, x8_1, rfl, rfl, HA, HK1, ⟨m1, rfl⟩⟩ := hrel
    cases gk with
    | zero => exact absurd HA.out (by simp [impl_total.l0])
    | succ k1 =>
      have H := HA.out
      clear HA
      simp only [impl_total.l0] at H
      by_cases c2 : x8_1 < (l0.length : Int)
      · rw [if_pos c2] at H
        have c2b0 : decide (x8_1 < (l0.length : Int)) = true := decide_eq_true c2
        clear c2
        by_cases c3 : 0 ≤ x8_1
        · rw [if_pos c3] at H
          have c3b0 : decide (0 ≤ x8_1) = true := decide_eq_true c3
          clear c3
          by_cases c4 : x8_1 < (l0.length : Int)
          · rw [if_pos c4] at H
            have c4b0 : decide (x8_1 < (l0.length : Int)) = true := decide_eq_true c4
            clear c4
            have H' := Aside0.mk H
            clear H
            have p20001 : 0 ≤ (x8_1 : Int) := of_decide_eq_true (by first | (with_reducible assumption) | assumption)
            have q20001 : x8_1 < (l0.length : Int) := of_decide_eq_true (by first | (with_reducible assumption) | assumption)
            obtain ⟨ad20001, e20001, hx20001_0⟩ := Kd.at_int HR0.out x8_1 p20001 q20001
            cases e20001
            replace p20001 := eq_true p20001
            replace q20001 := eq_true q20001
            go_wp2
            go_roundg k1
            case measure => have := HK1.out; omega
            case rel => exact ⟨(wrap64 (x3_1 + (rd l0 x8_1))), (wrap64 (x8_1 + 1)), (by first | rfl | (simp; done) | (simp [*]; done)), (by first | rfl | (simp; done) | (simp [*]; done)), H', ⟨by have := HK1.out; omega⟩, by repeat (first | exact Drawn0.refl _ | apply Drawn0.step)⟩
          · rw [if_neg c4] at H
            exact absurd H (by simp)
        · rw [if_neg c3] at H
          exact absurd H (by simp)
      · rw [if_neg c2] at H
        have c2b0 : decide (x8_1 < (l0.length : Int)) = false := decide_eq_false c2
        clear c2
        obtain rfl := Option.some.inj H
        go_wp2
        go_ret
        exact ⟨by first | rfl | (simp; done) | (simp [*]; done), by repeat (first | exact Drawn0.refl _ | apply Drawn0.step)⟩

end Go.Proofs.YtlakjonnkggomaaDoor.Pa
