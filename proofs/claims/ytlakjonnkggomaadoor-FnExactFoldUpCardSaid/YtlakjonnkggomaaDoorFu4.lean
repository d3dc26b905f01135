-- Written for this claim by a program (wip/hyb/hyb.py).
import Derived.Test.YtlakjonnkggomaaDoorFu0
import Derived.Test.YtlakjonnkggomaaDoorFu1
import Derived.Test.YtlakjonnkggomaaDoorFu2
import Derived.Test.YtlakjonnkggomaaDoorFu3
namespace Go.Proofs.YtlakjonnkggomaaDoor.Fu
open Go.RowKit Go.Proofs.YtlakjonnkggomaaDoorW.PrintWords Go.Proofs.YtlakjonnkggomaaDoorW.PrintLast Go.Proofs.YtlakjonnkggomaaDoorW.PrintMore
attribute [local go_sem] max2_int min2_int max_two min_two max_three min_three max_four min_four   -- for this text's walks alone
set_option linter.unusedVariables false
set_option linter.unusedSimpArgs false

/-! ### laws_FnExactFoldUp: function 5 -/
def laws_FnExactFoldUp.j0 : Nat → Bool → List (List Int) → List Int → List (List Int) → List Int → Option (Bool)
  | 0, _, _, _, _, _ => none
  | k + 1, x34, x20002000, x20002001, x20018000, x20018001 => if x34 = true then (none) else ((laws_toLayout.f k x20002000 x20002001).bind fun bt20020 => ((laws_eqLayout.f k x20018000 x20018001 bt20020.1 bt20020.2).bind fun t20026 => (if t20026 = true then (some true) else (none))))
def laws_FnExactFoldUp.f (k : Nat) (l0_0 : List (List Int)) (l0_1 : List Int) : Option (Bool) := (laws_szLayout.f k l0_0 l0_1 1048576).bind fun t20002 => (if t20002 < 0 then (some true) else ((laws_toLayout.f k l0_0 l0_1).bind fun bt20003 => ((spec_FoldUp.f k bt20003.1 bt20003.2).bind fun bt20009 => ((laws_toLayout.f k l0_0 l0_1).bind fun bt20011 => ((impl_FoldUp.f k bt20011.1 bt20011.2).bind fun bt20018 => (if bt20018.1.toList = bt20009.1.toList then (laws_FnExactFoldUp.j0 k (bt20018.2 != bt20009.2) l0_0 l0_1 bt20011.1 bt20011.2) else (laws_FnExactFoldUp.j0 k true l0_0 l0_1 bt20011.1 bt20011.2)))))))
theorem laws_FnExactFoldUp.mono_l : ∀ k, (∀ y0 y1 y2 y3 y4, LeO (laws_FnExactFoldUp.j0 k y0 y1 y2 y3 y4) (laws_FnExactFoldUp.j0 (k + 1) y0 y1 y2 y3 y4))
  | 0 => fun _ _ _ _ _ r h => by simp [laws_FnExactFoldUp.j0] at h
  | k + 1 => by
    have ih0 := laws_FnExactFoldUp.mono_l k
    · intro y0 y1 y2 y3 y4
      unfold laws_FnExactFoldUp.j0
      repeat' first
      | (with_reducible exact ih0 _ _ _ _ _)
      | (with_reducible exact impl_FoldUp.mono _ _ _)
      | (with_reducible exact laws_eqLayout.mono _ _ _ _ _)
      | (with_reducible exact laws_szLayout.mono _ _ _ _)
      | (with_reducible exact laws_toLayout.mono _ _ _)
      | (with_reducible exact spec_FoldUp.mono _ _ _)
      | (with_reducible exact LeO.refl _)
      | (with_reducible exact LeO.none _)
      | (with_reducible refine LeO.ite ?_ ?_)
      | (with_reducible refine LeO.bind ?_ (fun _ => ?_))
      | exact ih0 _ _ _ _ _
      | exact impl_FoldUp.mono _ _ _
      | exact laws_eqLayout.mono _ _ _ _ _
      | exact laws_szLayout.mono _ _ _ _
      | exact laws_toLayout.mono _ _ _
      | exact spec_FoldUp.mono _ _ _
      | exact LeO.none _
      | refine LeO.ite ?_ ?_
      | refine LeO.bind ?_ (fun _ => ?_)
theorem laws_FnExactFoldUp.mono : ∀ a0 a1 k, LeO (laws_FnExactFoldUp.f k a0 a1) (laws_FnExactFoldUp.f (k + 1) a0 a1) := by
  intro a0 a1 k
  have ih0 := laws_FnExactFoldUp.mono_l k
  unfold laws_FnExactFoldUp.f
  repeat' first
      | (with_reducible exact ih0 _ _ _ _ _)
      | (with_reducible exact impl_FoldUp.mono _ _ _)
      | (with_reducible exact laws_eqLayout.mono _ _ _ _ _)
      | (with_reducible exact laws_szLayout.mono _ _ _ _)
      | (with_reducible exact laws_toLayout.mono _ _ _)
      | (with_reducible exact spec_FoldUp.mono _ _ _)
      | (with_reducible exact LeO.refl _)
      | (with_reducible exact LeO.none _)
      | (with_reducible refine LeO.ite ?_ ?_)
      | (with_reducible refine LeO.bind ?_ (fun _ => ?_))
      | exact ih0 _ _ _ _ _
      | exact impl_FoldUp.mono _ _ _
      | exact laws_eqLayout.mono _ _ _ _ _
      | exact laws_szLayout.mono _ _ _ _
      | exact laws_toLayout.mono _ _ _
      | exact spec_FoldUp.mono _ _ _
      | exact LeO.none _
      | refine LeO.ite ?_ ?_
      | refine LeO.bind ?_ (fun _ => ?_)
set_option maxHeartbeats 8000000 in
set_option maxRecDepth 100000 in
theorem laws_FnExactFoldUp.calls (k : Nat) (A0_0 : Option Addr) (c0_0 : Nat) (l0_0 : List (List Int)) (A0_1 : Option Addr) (c0_1 : Nat) (l0_1 : List Int) (r : Bool) (w : World) (hr0_0 : Kd.C (Kd.slice 3 (Kd.int .i64)) w A0_0 l0_0.length l0_0) (hc0_0 : l0_0.length ≤ c0_0) (hr0_1 : Kd.C (Kd.int .i64) w A0_1 l0_1.length l0_1) (hc0_1 : l0_1.length ≤ c0_1) (h : laws_FnExactFoldUp.f k l0_0 l0_1 = some r) (hpw : Pow w) :
    Calls Tryd.prog 5 #[.agg #[.slice A0_0 l0_0.length c0_0, .slice A0_1 l0_1.length c0_1]] w fun e w' => e = .returned (.bool r) ∧ Below w.heap.size w w' := by
  have HPW := Aside0.mk hpw
  clear hpw
  have hu25 := Tryd.underlying25
  have hu28 := Tryd.underlying28
  have HR0_0 := Aside0.mk hr0_0
  have HC0_0 := Aside0.mk hc0_0
  clear hr0_0 hc0_0
  have HR0_1 := Aside0.mk hr0_1
  have HC0_1 := Aside0.mk hc0_1
  clear hr0_1 hc0_1
  have HB := Aside0.mk (Below.refl w.heap.size w)
  have H : ((laws_szLayout.f k l0_0 l0_1 1048576).bind fun t20002 => (if t20002 < 0 then (some true) else ((laws_toLayout.f k l0_0 l0_1).bind fun bt20003 => ((spec_FoldUp.f k bt20003.1 bt20003.2).bind fun bt20009 => ((laws_toLayout.f k l0_0 l0_1).bind fun bt20011 => ((impl_FoldUp.f k bt20011.1 bt20011.2).bind fun bt20018 => (if bt20018.1.toList = bt20009.1.toList then (laws_FnExactFoldUp.j0 k (bt20018.2 != bt20009.2) l0_0 l0_1 bt20011.1 bt20011.2) else (laws_FnExactFoldUp.j0 k true l0_0 l0_1 bt20011.1 bt20011.2)))))))) = some r := h
  clear h
  replace H := Option.bind_eq_some_iff.mp H
  obtain ⟨t20002, A20, H⟩ := H
  replace H : (if t20002 < 0 then (some true) else ((laws_toLayout.f k l0_0 l0_1).bind fun bt20003 => ((spec_FoldUp.f k bt20003.1 bt20003.2).bind fun bt20009 => ((laws_toLayout.f k l0_0 l0_1).bind fun bt20011 => ((impl_FoldUp.f k bt20011.1 bt20011.2).bind fun bt20018 => (if bt20018.1.toList = bt20009.1.toList then (laws_FnExactFoldUp.j0 k (bt20018.2 != bt20009.2) l0_0 l0_1 bt20011.1 bt20011.2) else (laws_FnExactFoldUp.j0 k true l0_0 l0_1 bt20011.1 bt20011.2))))))) = some r := H
  have A2 := Aside0.mk A20
  clear A20
  by_cases c3 : t20002 < 0
  · rw [if_pos c3] at H
    have c3b0 : decide (t20002 < 0) = true := decide_eq_true c3
    clear c3
    obtain rfl := Option.some.inj H
    go_enter Tryd.func5, Tryd.ntmps5
    go_wp2_with (first | ((with_reducible refine gate_dst (N := 1) rfl ?_); refine box_event ?hg (N := 1) ?hd (cs := #[.slice A0_0 l0_0.length c0_0, .slice A0_1 l0_1.length c0_1]) (t := 25) ?hr ?_; (case hd => rfl); (case hg => rfl); (case hr => first | (go_simp; done) | (go_simp; rfl)); intro gb20001 hg w4 hbox hb; have n0_ := Aside0.mk (below_step (by repeat (first | (with_reducible first | exact HB.out | apply below_alloc | apply pw_below_drewN | apply below_drew1) | exact HB.out)) hb); have n1_ := Aside0.mk (hbox); have n2_ := Aside0.mk ((by rw [hg]; exact (below_size (by repeat (first | (with_reducible first | exact HB.out | apply below_alloc | apply pw_below_drewN | apply below_drew1) | exact HB.out))) : w.heap.size ≤ gb20001)); have n3_ := Aside0.mk ((by rw [hg]; exact (below_size (by repeat (first | (with_reducible first | exact HB.out | apply below_alloc | apply pw_below_drewN | apply below_drew1) | exact HB.out))) : w.heap.size ≤ gb20001)); clear HB; have HB := n0_; have BK20001 := n1_; have GW20001 := n2_; have GE20001 := n3_; clear n0_ n1_ n2_ n3_; clear hb hbox hg; have hcz5_0 : w4.cell? ⟨gb20001, 0, none⟩ = some (.slice A0_0 l0_0.length c0_0) := (blk_cell BK20001.out 0).trans rfl; have hcz5_1 : w4.cell? ⟨gb20001, 1, none⟩ = some (.slice A0_1 l0_1.length c0_1) := (blk_cell BK20001.out 1).trans rfl; have hfz5_0 := blk_frozen BK20001.out 0; have hfz5_1 := blk_frozen BK20001.out 1) | ((with_reducible refine gate_callee (f := 6) rfl ?_); refine goesL_ (some 11) rfl rfl Tryd.func6 (by kernel_rfl) rfl #[.agg #[.slice A0_0 l0_0.length c0_0, .slice A0_1 l0_1.length c0_1], .int .i64 1048576] rfl (by (try simp only [List.map_toArray, List.map_cons, List.map_nil]); first | done | rfl | (simp only [List.length_drop, List.length_take]; rfl)) ?_; (with_reducible refine (laws_szLayout.calls k _ _ l0_0 _ _ l0_1 1048576 t20002 _ ?side1 ?side2 ?side3 ?side4 A2.out).mono ?_); (case side1 => repeat (first | exact (Kd.C_below HR0_0.out HB.out) | (with_reducible refine Kd.C_alloc ?_ _) | (with_reducible refine Kd.C_drewN ?_ _) | (with_reducible refine Kd.C_drew ?_))); (case side2 => exact HC0_0.out); (case side3 => repeat (first | exact (Kd.C_below HR0_1.out HB.out) | (with_reducible refine Kd.C_alloc ?_ _) | (with_reducible refine Kd.C_drewN ?_ _) | (with_reducible refine Kd.C_drew ?_))); (case side4 => exact HC0_1.out); rintro e w6 ⟨rfl, hb⟩; refine ⟨_, rfl, ?_⟩; have n0_ := Aside0.mk (blk_below (g := gb20001) (o := .cells #[.slice A0_0 l0_0.length c0_0, .slice A0_1 l0_1.length c0_1] 25 (0, 0)) (by (with_reducible repeat (first | refine blk_drewN ?_ _ | refine blk_drew ?_ | refine blk_alloc ?_ _)); exact BK20001.out) hb); have n1_ := Aside0.mk (below_step (by repeat (first | (with_reducible first | exact HB.out | apply below_alloc | apply pw_below_drewN | apply below_drew1 | refine below_set ?_ GE20001.out) | exact HB.out)) hb); clear BK20001; clear HB; have BK20001 := n0_; have HB := n1_; clear n0_ n1_; (try clear hb); (try clear hb2); (try clear hk); (try clear hi)))
    go_ret
    exact ⟨by first | rfl | (simp [errW_none, errW_some] <;> rfl) | (simp [*, errW_none, errW_some] <;> rfl), by repeat (first | (with_reducible first | exact HB.out | apply below_alloc | apply pw_below_drewN | apply below_drew1 | refine below_set ?_ GE20001.out) | exact HB.out)⟩
  · rw [if_neg c3] at H
    have c3b0 : decide (t20002 < 0) = false := decide_eq_false c3
    clear c3
    replace H := Option.bind_eq_some_iff.mp H
    obtain ⟨⟨t20003, t20006⟩, A70, H⟩ := H
    replace H : ((spec_FoldUp.f k t20003 t20006).bind fun bt20009 => ((laws_toLayout.f k l0_0 l0_1).bind fun bt20011 => ((impl_FoldUp.f k bt20011.1 bt20011.2).bind fun bt20018 => (if bt20018.1.toList = bt20009.1.toList then (laws_FnExactFoldUp.j0 k (bt20018.2 != bt20009.2) l0_0 l0_1 bt20011.1 bt20011.2) else (laws_FnExactFoldUp.j0 k true l0_0 l0_1 bt20011.1 bt20011.2))))) = some r := H
    have A7 := Aside0.mk A70
    clear A70
    replace H := Option.bind_eq_some_iff.mp H
    obtain ⟨⟨t20009, t20010⟩, A80, H⟩ := H
    replace H : ((laws_toLayout.f k l0_0 l0_1).bind fun bt20011 => ((impl_FoldUp.f k bt20011.1 bt20011.2).bind fun bt20018 => (if bt20018.1.toList = t20009.toList then (laws_FnExactFoldUp.j0 k (bt20018.2 != t20010) l0_0 l0_1 bt20011.1 bt20011.2) else (laws_FnExactFoldUp.j0 k true l0_0 l0_1 bt20011.1 bt20011.2)))) = some r := H
    have A8 := Aside0.mk A80
    clear A80
    replace H := Option.bind_eq_some_iff.mp H
    obtain ⟨⟨t20011, t20014⟩, A90, H⟩ := H
    replace H : ((impl_FoldUp.f k t20011 t20014).bind fun bt20018 => (if bt20018.1.toList = t20009.toList then (laws_FnExactFoldUp.j0 k (bt20018.2 != t20010) l0_0 l0_1 t20011 t20014) else (laws_FnExactFoldUp.j0 k true l0_0 l0_1 t20011 t20014))) = some r := H
    have A9 := Aside0.mk A90
    clear A90
    replace H := Option.bind_eq_some_iff.mp H
    obtain ⟨⟨t20018, t20019⟩, A100, H⟩ := H
    replace H : (if t20018.toList = t20009.toList then (laws_FnExactFoldUp.j0 k (t20019 != t20010) l0_0 l0_1 t20011 t20014) else (laws_FnExactFoldUp.j0 k true l0_0 l0_1 t20011 t20014)) = some r := H
    have A10 := Aside0.mk A100
    clear A100
    have HC11 := Aside0.mk H
    clear H
    go_enter Tryd.func5, Tryd.ntmps5
    go_upto_region 8 with (first | ((with_reducible refine gate_dst (N := 1) rfl ?_); refine box_event ?hg (N := 1) ?hd (cs := #[.slice A0_0 l0_0.length c0_0, .slice A0_1 l0_1.length c0_1]) (t := 25) ?hr ?_; (case hd => rfl); (case hg => rfl); (case hr => first | (go_simp; done) | (go_simp; rfl)); intro gb20001 hg w12 hbox hb; have n0_ := Aside0.mk (below_step (by repeat (first | (with_reducible first | exact HB.out | apply below_alloc | apply pw_below_drewN | apply below_drew1) | exact HB.out)) hb); have n1_ := Aside0.mk (hbox); have n2_ := Aside0.mk ((by rw [hg]; exact (below_size (by repeat (first | (with_reducible first | exact HB.out | apply below_alloc | apply pw_below_drewN | apply below_drew1) | exact HB.out))) : w.heap.size ≤ gb20001)); have n3_ := Aside0.mk ((by rw [hg]; exact (below_size (by repeat (first | (with_reducible first | exact HB.out | apply below_alloc | apply pw_below_drewN | apply below_drew1) | exact HB.out))) : w.heap.size ≤ gb20001)); clear HB; have HB := n0_; have BK20001 := n1_; have GW20001 := n2_; have GE20001 := n3_; clear n0_ n1_ n2_ n3_; clear hb hbox hg; have hcz13_0 : w12.cell? ⟨gb20001, 0, none⟩ = some (.slice A0_0 l0_0.length c0_0) := (blk_cell BK20001.out 0).trans rfl; have hcz13_1 : w12.cell? ⟨gb20001, 1, none⟩ = some (.slice A0_1 l0_1.length c0_1) := (blk_cell BK20001.out 1).trans rfl; have hfz13_0 := blk_frozen BK20001.out 0; have hfz13_1 := blk_frozen BK20001.out 1) | ((with_reducible refine gate_callee (f := 6) rfl ?_); refine goesL_ (some 11) rfl rfl Tryd.func6 (by kernel_rfl) rfl #[.agg #[.slice A0_0 l0_0.length c0_0, .slice A0_1 l0_1.length c0_1], .int .i64 1048576] rfl (by (try simp only [List.map_toArray, List.map_cons, List.map_nil]); first | done | rfl | (simp only [List.length_drop, List.length_take]; rfl)) ?_; (with_reducible refine (laws_szLayout.calls k _ _ l0_0 _ _ l0_1 1048576 t20002 _ ?side1 ?side2 ?side3 ?side4 A2.out).mono ?_); (case side1 => repeat (first | exact (Kd.C_below HR0_0.out HB.out) | (with_reducible refine Kd.C_alloc ?_ _) | (with_reducible refine Kd.C_drewN ?_ _) | (with_reducible refine Kd.C_drew ?_))); (case side2 => exact HC0_0.out); (case side3 => repeat (first | exact (Kd.C_below HR0_1.out HB.out) | (with_reducible refine Kd.C_alloc ?_ _) | (with_reducible refine Kd.C_drewN ?_ _) | (with_reducible refine Kd.C_drew ?_))); (case side4 => exact HC0_1.out); rintro e w14 ⟨rfl, hb⟩; refine ⟨_, rfl, ?_⟩; have n0_ := Aside0.mk (blk_below (g := gb20001) (o := .cells #[.slice A0_0 l0_0.length c0_0, .slice A0_1 l0_1.length c0_1] 25 (0, 0)) (by (with_reducible repeat (first | refine blk_drewN ?_ _ | refine blk_drew ?_ | refine blk_alloc ?_ _)); exact BK20001.out) hb); have n1_ := Aside0.mk (below_step (by repeat (first | (with_reducible first | exact HB.out | apply below_alloc | apply pw_below_drewN | apply below_drew1 | refine below_set ?_ GE20001.out) | exact HB.out)) hb); clear BK20001; clear HB; have BK20001 := n0_; have HB := n1_; clear n0_ n1_; (try clear hb); (try clear hb2); (try clear hk); (try clear hi); have hcz15_0 : w14.cell? ⟨gb20001, 0, none⟩ = some (.slice A0_0 l0_0.length c0_0) := (blk_cell BK20001.out 0).trans rfl; have hcz15_1 : w14.cell? ⟨gb20001, 1, none⟩ = some (.slice A0_1 l0_1.length c0_1) := (blk_cell BK20001.out 1).trans rfl; have hfz15_0 := blk_frozen BK20001.out 0; have hfz15_1 := blk_frozen BK20001.out 1) | ((with_reducible refine gate_callee (f := 8) rfl ?_); refine goesL_ (some 16) rfl rfl Tryd.func8 (by kernel_rfl) rfl #[.agg #[.slice A0_0 l0_0.length c0_0, .slice A0_1 l0_1.length c0_1]] rfl (by (try simp only [List.map_toArray, List.map_cons, List.map_nil]); first | done | rfl | (simp only [List.length_drop, List.length_take]; rfl)) ?_; (with_reducible refine (laws_toLayout.calls k _ _ l0_0 _ _ l0_1 t20003 t20006 _ ?side1 ?side2 ?side3 ?side4 A7.out).mono ?_); (case side1 => repeat (first | exact (Kd.C_below HR0_0.out HB.out) | (with_reducible refine Kd.C_alloc ?_ _) | (with_reducible refine Kd.C_drewN ?_ _) | (with_reducible refine Kd.C_drew ?_))); (case side2 => exact HC0_0.out); (case side3 => repeat (first | exact (Kd.C_below HR0_1.out HB.out) | (with_reducible refine Kd.C_alloc ?_ _) | (with_reducible refine Kd.C_drewN ?_ _) | (with_reducible refine Kd.C_drew ?_))); (case side4 => exact HC0_1.out); rintro e w16 ⟨v20004, v20007, rfl, ho0, ho1, hb⟩; refine ⟨_, rfl, ?_⟩; have n0_ := Aside0.mk (Kd.S_lower ho0 (below_size (by repeat (first | (with_reducible first | exact HB.out | apply below_alloc | apply pw_below_drewN | apply below_drew1 | refine below_set ?_ GE20001.out) | exact HB.out)))); have n1_ := Aside0.mk (Kd.R_lower ho1 (below_size (by repeat (first | (with_reducible first | exact HB.out | apply below_alloc | apply pw_below_drewN | apply below_drew1 | refine below_set ?_ GE20001.out) | exact HB.out)))); have n2_ := Aside0.mk (blk_below (g := gb20001) (o := .cells #[.slice A0_0 l0_0.length c0_0, .slice A0_1 l0_1.length c0_1] 25 (0, 0)) (by (with_reducible repeat (first | refine blk_drewN ?_ _ | refine blk_drew ?_ | refine blk_alloc ?_ _)); exact BK20001.out) hb); have n3_ := Aside0.mk (below_step (by repeat (first | (with_reducible first | exact HB.out | apply below_alloc | apply pw_below_drewN | apply below_drew1 | refine below_set ?_ GE20001.out) | exact HB.out)) hb); clear BK20001; clear HB; have HO20005 := n0_; have HO20008 := n1_; have BK20001 := n2_; have HB := n3_; clear n0_ n1_ n2_ n3_; (try clear hb); (try clear hb2); (try clear hk); (try clear hi); (try clear ho0); (try clear ho1); obtain ⟨Ao17, co17, eo17⟩ := Kd.S_slice HO20005.out; subst eo17; obtain ⟨Ao18, co18, eo18⟩ := Kd.R_slice HO20008.out; subst eo18) | ((with_reducible refine gate_callee (f := 15) rfl ?_); refine goesL_ (some 17) rfl rfl Tryd.func15 (by kernel_rfl) rfl #[.agg #[.slice Ao17 t20003.length co17, .slice Ao18 t20006.length co18]] rfl (by (try simp only [List.map_toArray, List.map_cons, List.map_nil]); first | done | rfl | (simp only [List.length_drop, List.length_take]; rfl)) ?_; (with_reducible refine (spec_FoldUp.calls k _ _ t20003 _ _ t20006 t20009 t20010 _ ?side1 ?side2 ?side3 ?side4 A8.out).mono ?_); (case side1 => repeat (first | exact (Kd.S_reads' HO20005.out).2.2 | (with_reducible refine Kd.C_alloc ?_ _) | (with_reducible refine Kd.C_drewN ?_ _) | (with_reducible refine Kd.C_drew ?_))); (case side2 => exact (Kd.S_reads' HO20005.out).2.1); (case side3 => repeat (first | exact (Kd.R_reads' HO20008.out).2.2 | (with_reducible refine Kd.C_alloc ?_ _) | (with_reducible refine Kd.C_drewN ?_ _) | (with_reducible refine Kd.C_drew ?_))); (case side4 => exact (Kd.R_reads' HO20008.out).2.1); rintro e w19 ⟨rfl, hb⟩; refine ⟨_, rfl, ?_⟩; have n0_ := Aside0.mk (Kd.S_below (by (with_reducible repeat (first | apply Kd.S_alloc | apply Kd.S_drewN | apply Kd.S_drew)); exact HO20005.out) hb); have n1_ := Aside0.mk (Kd.R_below (by (with_reducible repeat (first | apply Kd.R_alloc | apply Kd.R_drewN | apply Kd.R_drew)); exact HO20008.out) hb); have n2_ := Aside0.mk (blk_below (g := gb20001) (o := .cells #[.slice A0_0 l0_0.length c0_0, .slice A0_1 l0_1.length c0_1] 25 (0, 0)) (by (with_reducible repeat (first | refine blk_drewN ?_ _ | refine blk_drew ?_ | refine blk_alloc ?_ _)); exact BK20001.out) hb); have n3_ := Aside0.mk (below_step (by repeat (first | (with_reducible first | exact HB.out | apply below_alloc | apply pw_below_drewN | apply below_drew1 | refine below_set ?_ GE20001.out) | exact HB.out)) hb); clear HO20005; clear HO20008; clear BK20001; clear HB; have HO20005 := n0_; have HO20008 := n1_; have BK20001 := n2_; have HB := n3_; clear n0_ n1_ n2_ n3_; (try clear hb); (try clear hb2); (try clear hk); (try clear hi); have hcz20_0 : w19.cell? ⟨gb20001, 0, none⟩ = some (.slice A0_0 l0_0.length c0_0) := (blk_cell BK20001.out 0).trans rfl; have hcz20_1 : w19.cell? ⟨gb20001, 1, none⟩ = some (.slice A0_1 l0_1.length c0_1) := (blk_cell BK20001.out 1).trans rfl; have hfz20_0 := blk_frozen BK20001.out 0; have hfz20_1 := blk_frozen BK20001.out 1) | ((with_reducible refine gate_callee (f := 8) rfl ?_); refine goesL_ (some 21) rfl rfl Tryd.func8 (by kernel_rfl) rfl #[.agg #[.slice A0_0 l0_0.length c0_0, .slice A0_1 l0_1.length c0_1]] rfl (by (try simp only [List.map_toArray, List.map_cons, List.map_nil]); first | done | rfl | (simp only [List.length_drop, List.length_take]; rfl)) ?_; (with_reducible refine (laws_toLayout.calls k _ _ l0_0 _ _ l0_1 t20011 t20014 _ ?side1 ?side2 ?side3 ?side4 A9.out).mono ?_); (case side1 => repeat (first | exact (Kd.C_below HR0_0.out HB.out) | (with_reducible refine Kd.C_alloc ?_ _) | (with_reducible refine Kd.C_drewN ?_ _) | (with_reducible refine Kd.C_drew ?_))); (case side2 => exact HC0_0.out); (case side3 => repeat (first | exact (Kd.C_below HR0_1.out HB.out) | (with_reducible refine Kd.C_alloc ?_ _) | (with_reducible refine Kd.C_drewN ?_ _) | (with_reducible refine Kd.C_drew ?_))); (case side4 => exact HC0_1.out); rintro e w21 ⟨v20012, v20015, rfl, ho0, ho1, hb⟩; refine ⟨_, rfl, ?_⟩; have n0_ := Aside0.mk (Kd.S_mono (Kd.S_told (Kd.S_told (Kd.S_old (by (with_reducible repeat (first | apply Kd.S_alloc | apply Kd.S_drewN | apply Kd.S_drew)); exact HO20005.out) hb) (Kd.S_base ho0)) (Kd.R_base ho1)) (fun _ h_ => h_.1)); have n1_ := Aside0.mk (Kd.R_elder' (by (with_reducible repeat (first | apply Kd.R_alloc | apply Kd.R_drewN | apply Kd.R_drew)); exact HO20008.out) (Kd.R_base ho1) hb); have n2_ := Aside0.mk (Kd.S_lower (Kd.S_new' (Kd.S_new' ho0 (Kd.S_lt (by (with_reducible repeat (first | apply Kd.S_alloc | apply Kd.S_drewN | apply Kd.S_drew)); exact HO20005.out))) (Kd.R_lt (by (with_reducible repeat (first | apply Kd.R_alloc | apply Kd.R_drewN | apply Kd.R_drew)); exact HO20008.out))) (below_size (by repeat (first | (with_reducible first | exact HB.out | apply below_alloc | apply pw_below_drewN | apply below_drew1 | refine below_set ?_ GE20001.out) | exact HB.out)))); have n3_ := Aside0.mk (Kd.R_lower (Kd.R_new' ho1 (Kd.R_lt (by (with_reducible repeat (first | apply Kd.R_alloc | apply Kd.R_drewN | apply Kd.R_drew)); exact HO20008.out))) (below_size (by repeat (first | (with_reducible first | exact HB.out | apply below_alloc | apply pw_below_drewN | apply below_drew1 | refine below_set ?_ GE20001.out) | exact HB.out)))); have n4_ := Aside0.mk (blk_below (g := gb20001) (o := .cells #[.slice A0_0 l0_0.length c0_0, .slice A0_1 l0_1.length c0_1] 25 (0, 0)) (by (with_reducible repeat (first | refine blk_drewN ?_ _ | refine blk_drew ?_ | refine blk_alloc ?_ _)); exact BK20001.out) hb); have n5_ := Aside0.mk (below_step (by repeat (first | (with_reducible first | exact HB.out | apply below_alloc | apply pw_below_drewN | apply below_drew1 | refine below_set ?_ GE20001.out) | exact HB.out)) hb); clear HO20005; clear HO20008; clear BK20001; clear HB; have HO20005 := n0_; have HO20008 := n1_; have HO20013 := n2_; have HO20016 := n3_; have BK20001 := n4_; have HB := n5_; clear n0_ n1_ n2_ n3_ n4_ n5_; (try clear hb); (try clear hb2); (try clear hk); (try clear hi); (try clear ho0); (try clear ho1)) | ((with_reducible refine gate_dst (N := 6) rfl ?_); refine box_event ?hg (N := 6) ?hd (cs := #[.slice none 0 0, .slice none 0 0]) (t := 28) ?hr ?_; (case hd => rfl); (case hg => rfl); (case hr => first | (go_simp; done) | (go_simp; rfl)); intro gb20017 hg w22 hbox hb; have n0_ := Aside0.mk (Kd.S_below (by (with_reducible repeat (first | apply Kd.S_alloc | apply Kd.S_drewN | apply Kd.S_drew)); exact HO20005.out) hb); have n1_ := Aside0.mk (Kd.R_below (by (with_reducible repeat (first | apply Kd.R_alloc | apply Kd.R_drewN | apply Kd.R_drew)); exact HO20008.out) hb); have n2_ := Aside0.mk (Kd.S_below (by (with_reducible repeat (first | apply Kd.S_alloc | apply Kd.S_drewN | apply Kd.S_drew)); exact HO20013.out) hb); have n3_ := Aside0.mk (Kd.R_below (by (with_reducible repeat (first | apply Kd.R_alloc | apply Kd.R_drewN | apply Kd.R_drew)); exact HO20016.out) hb); have n4_ := Aside0.mk (blk_below (g := gb20001) (o := .cells #[.slice A0_0 l0_0.length c0_0, .slice A0_1 l0_1.length c0_1] 25 (0, 0)) (by (with_reducible repeat (first | refine blk_drewN ?_ _ | refine blk_drew ?_ | refine blk_alloc ?_ _)); exact BK20001.out) hb); have n5_ := Aside0.mk (below_step (by repeat (first | (with_reducible first | exact HB.out | apply below_alloc | apply pw_below_drewN | apply below_drew1 | refine below_set ?_ GE20001.out) | exact HB.out)) hb); have n6_ := Aside0.mk (hbox); have n7_ := Aside0.mk ((by rw [hg]; exact (below_size (by repeat (first | (with_reducible first | exact HB.out | apply below_alloc | apply pw_below_drewN | apply below_drew1 | refine below_set ?_ GE20001.out) | exact HB.out))) : w.heap.size ≤ gb20017)); have n8_ := Aside0.mk ((by rw [hg]; exact (below_size (by repeat (first | (with_reducible first | exact HB.out | apply below_alloc | apply pw_below_drewN | apply below_drew1 | refine below_set ?_ GE20001.out) | exact HB.out))) : w.heap.size ≤ gb20017)); have n9_ := Aside0.mk ((by rw [hg]; exact Nat.ne_of_lt (blk_lt (g := gb20001) (o := .cells #[.slice A0_0 l0_0.length c0_0, .slice A0_1 l0_1.length c0_1] 25 (0, 0)) (by (with_reducible repeat (first | refine blk_drewN ?_ _ | refine blk_drew ?_ | refine blk_alloc ?_ _)); exact BK20001.out)) : gb20001 ≠ gb20017)); have n10_ := Aside0.mk ((by rw [hg]; exact Nat.ne_of_gt (blk_lt (g := gb20001) (o := .cells #[.slice A0_0 l0_0.length c0_0, .slice A0_1 l0_1.length c0_1] 25 (0, 0)) (by (with_reducible repeat (first | refine blk_drewN ?_ _ | refine blk_drew ?_ | refine blk_alloc ?_ _)); exact BK20001.out)) : gb20017 ≠ gb20001)); clear HO20005; clear HO20008; clear HO20013; clear HO20016; clear BK20001; clear HB; have HO20005 := n0_; have HO20008 := n1_; have HO20013 := n2_; have HO20016 := n3_; have BK20001 := n4_; have HB := n5_; have BK20017 := n6_; have GW20017 := n7_; have GE20017 := n8_; have NB20001_20017 := n9_; have NB20017_20001 := n10_; clear n0_ n1_ n2_ n3_ n4_ n5_ n6_ n7_ n8_ n9_ n10_; clear hb hbox hg; obtain ⟨Ao23, co23, eo23⟩ := Kd.S_slice HO20013.out; subst eo23; have hnb24 := NB20017_20001.out; have hnc24 := NB20001_20017.out; have hcz25_0 : w22.cell? ⟨gb20017, 0, none⟩ = some (.slice none 0 0) := (blk_cell BK20017.out 0).trans rfl; have hcz25_1 : w22.cell? ⟨gb20017, 1, none⟩ = some (.slice none 0 0) := (blk_cell BK20017.out 1).trans rfl; have hfz25_0 := blk_frozen BK20017.out 0; have hfz25_1 := blk_frozen BK20017.out 1; obtain ⟨Ao26, co26, eo26⟩ := Kd.R_slice HO20016.out; subst eo26) | ((with_reducible refine gate_callee (f := 16) rfl ?_); refine goesL_ (some 24) rfl rfl Tryd.func16 (by kernel_rfl) rfl #[.agg #[.slice Ao23 t20011.length co23, .slice Ao26 t20014.length co26]] rfl (by (try simp only [List.map_toArray, List.map_cons, List.map_nil]); first | done | rfl | (simp only [List.length_drop, List.length_take]; rfl)) ?_; (with_reducible refine (impl_FoldUp.calls k _ _ t20011 _ _ t20014 t20018 t20019 _ ?side1 ?side2 ?side3 ?side4 A10.out (HPW.out.keep (by repeat (first | (with_reducible first | exact HB.out | apply below_alloc | apply pw_below_drewN | apply below_drew1 | refine below_set ?_ GE20001.out | refine below_set ?_ GE20017.out) | exact HB.out)) (Nat.le_refl _))).mono ?_); (case side1 => refine (Kd.S_reads' (e := 23) (base := w.heap.size) (ok := fun k_ => ((some k_ ≠ (.slice Ao26 t20014.length co26 : Value).ownBlock ∧ some k_ ≠ (.slice Ao17 t20003.length co17 : Value).ownBlock) ∧ some k_ ≠ (.slice Ao18 t20006.length co18 : Value).ownBlock)) (n := t20011.length) (c := co23) ?_).2.2; exact (by (with_reducible repeat (first | apply Kd.S_alloc | apply Kd.S_drewN | apply Kd.S_drew)); exact (Kd.S_mono (Kd.S_far (p := ⟨gb20017, 1, none⟩) (Kd.S_far (p := ⟨gb20017, 0, none⟩) (Kd.S_types HO20013.out BK20017.out (by decide)) (fun _ hk => hk.2) (.slice Ao23 t20011.length co23)) (fun _ hk => hk.2) (.slice Ao26 t20014.length co26)) (fun _ h_ => h_.1)))); (case side2 => exact (Kd.S_reads' HO20013.out).2.1); (case side3 => refine (Kd.R_reads' (e := 3) (base := w.heap.size) (ok := fun k_ => (True ∧ some k_ ≠ (.slice Ao18 t20006.length co18 : Value).ownBlock)) (n := t20014.length) (c := co26) ?_).2.2; exact (by (with_reducible repeat (first | apply Kd.R_alloc | apply Kd.R_drewN | apply Kd.R_drew)); exact (Kd.R_mono (Kd.R_far (p := ⟨gb20017, 1, none⟩) (Kd.R_far (p := ⟨gb20017, 0, none⟩) (Kd.R_types HO20016.out BK20017.out (by decide)) (fun _ hk => hk.2) (.slice Ao23 t20011.length co23)) (fun _ hk => hk.2) (.slice Ao26 t20014.length co26)) (fun _ h_ => h_.1)))); (case side4 => exact (Kd.R_reads' HO20016.out).2.1); rintro e w27 ⟨rfl, hb⟩; refine ⟨_, rfl, ?_⟩; have n0_ := Aside0.mk (Kd.S_below (by (with_reducible repeat (first | apply Kd.S_alloc | apply Kd.S_drewN | apply Kd.S_drew)); exact (Kd.S_mono (Kd.S_far (p := ⟨gb20017, 1, none⟩) (Kd.S_far (p := ⟨gb20017, 0, none⟩) (Kd.S_types HO20005.out BK20017.out (by decide)) (fun _ hk => hk.2) (.slice Ao23 t20011.length co23)) (fun _ hk => hk.2) (.slice Ao26 t20014.length co26)) (fun _ h_ => h_.1))) hb); have n1_ := Aside0.mk (Kd.R_below (by (with_reducible repeat (first | apply Kd.R_alloc | apply Kd.R_drewN | apply Kd.R_drew)); exact (Kd.R_mono (Kd.R_far (p := ⟨gb20017, 1, none⟩) (Kd.R_far (p := ⟨gb20017, 0, none⟩) (Kd.R_types HO20008.out BK20017.out (by decide)) (fun _ hk => hk.2) (.slice Ao23 t20011.length co23)) (fun _ hk => hk.2) (.slice Ao26 t20014.length co26)) (fun _ h_ => h_.1))) hb); have n2_ := Aside0.mk (Kd.S_below (by (with_reducible repeat (first | apply Kd.S_alloc | apply Kd.S_drewN | apply Kd.S_drew)); exact (Kd.S_mono (Kd.S_far (p := ⟨gb20017, 1, none⟩) (Kd.S_far (p := ⟨gb20017, 0, none⟩) (Kd.S_types HO20013.out BK20017.out (by decide)) (fun _ hk => hk.2) (.slice Ao23 t20011.length co23)) (fun _ hk => hk.2) (.slice Ao26 t20014.length co26)) (fun _ h_ => h_.1))) hb); have n3_ := Aside0.mk (Kd.R_below (by (with_reducible repeat (first | apply Kd.R_alloc | apply Kd.R_drewN | apply Kd.R_drew)); exact (Kd.R_mono (Kd.R_far (p := ⟨gb20017, 1, none⟩) (Kd.R_far (p := ⟨gb20017, 0, none⟩) (Kd.R_types HO20016.out BK20017.out (by decide)) (fun _ hk => hk.2) (.slice Ao23 t20011.length co23)) (fun _ hk => hk.2) (.slice Ao26 t20014.length co26)) (fun _ h_ => h_.1))) hb); have n4_ := Aside0.mk (blk_below (g := gb20001) (o := .cells #[.slice A0_0 l0_0.length c0_0, .slice A0_1 l0_1.length c0_1] 25 (0, 0)) (by (with_reducible repeat (first | refine blk_drewN ?_ _ | refine blk_drew ?_ | refine blk_alloc ?_ _)); refine blk_far ?_ NB20001_20017.out _; (with_reducible repeat (first | refine blk_drewN ?_ _ | refine blk_drew ?_ | refine blk_alloc ?_ _)); refine blk_far ?_ NB20001_20017.out _; (with_reducible repeat (first | refine blk_drewN ?_ _ | refine blk_drew ?_ | refine blk_alloc ?_ _)); exact BK20001.out) hb); have n5_ := Aside0.mk (blk_below (g := gb20017) (o := .cells #[.slice Ao23 t20011.length co23, .slice Ao26 t20014.length co26] 28 (0, 0)) (by (with_reducible repeat (first | refine blk_drewN ?_ _ | refine blk_drew ?_ | refine blk_alloc ?_ _)); refine blk_put (cs := #[.slice Ao23 t20011.length co23, .slice none 0 0]) ?_ 1 _ rfl; (with_reducible repeat (first | refine blk_drewN ?_ _ | refine blk_drew ?_ | refine blk_alloc ?_ _)); refine blk_put (cs := #[.slice none 0 0, .slice none 0 0]) ?_ 0 _ rfl; (with_reducible repeat (first | refine blk_drewN ?_ _ | refine blk_drew ?_ | refine blk_alloc ?_ _)); exact BK20017.out) hb); have n6_ := Aside0.mk (below_step (by repeat (first | (with_reducible first | exact HB.out | apply below_alloc | apply pw_below_drewN | apply below_drew1 | refine below_set ?_ GE20001.out | refine below_set ?_ GE20017.out) | exact HB.out)) hb); clear HO20005; clear HO20008; clear HO20013; clear HO20016; clear BK20001; clear BK20017; clear HB; have HO20005 := n0_; have HO20008 := n1_; have HO20013 := n2_; have HO20016 := n3_; have BK20001 := n4_; have BK20017 := n5_; have HB := n6_; clear n0_ n1_ n2_ n3_ n4_ n5_ n6_; (try clear hb); (try clear hb2); (try clear hk); (try clear hi)))
    (try simp only [Act.put, List.setIfInBounds_toArray, List.set_cons_zero, List.set_cons_succ])
    go_cut [34] (fun v34 wc => ∃ (kq : Nat) (x34_10 : Bool), v34 = .bool x34_10 ∧ Aside0 (laws_FnExactFoldUp.j0 kq x34_10 l0_0 l0_1 t20011 t20014 = some r) ∧ Aside0 (kq ≤ k) ∧ Aside0 (Kd.S (Kd.slice 3 (Kd.int .i64)) 23 wc w.heap.size (fun k_ => some k_ ≠ ((.slice Ao26 t20014.length co26) : Value).ownBlock) (.slice Ao23 t20011.length co23) t20011) ∧ Aside0 (Kd.R (Kd.int .i64) 3 wc w.heap.size (fun _ => True) (.slice Ao26 t20014.length co26) t20014) ∧ Aside0 (wc.heap[gb20001]? = some (.cells #[(.slice A0_0 l0_0.length c0_0), (.slice A0_1 l0_1.length c0_1)] 25 (0, 0))) ∧ Aside0 (wc.heap[gb20017]? = some (.cells #[(.slice Ao23 t20011.length co23), (.slice Ao26 t20014.length co26)] 28 (0, 0))) ∧ Aside0 (Below w.heap.size w wc))
    case first =>
      have H := HC11.out
      clear HC11
      by_cases c28 : t20018.toList = t20009.toList
      · rw [if_pos c28] at H
        have c28b0 : (t20018.toList == t20009.toList) = true := beq_iff_eq.mpr c28
        have c28b1 : (t20018.toList != t20009.toList) = false := bne_eq_false_iff_eq.mpr c28
        clear c28
        (first | rw [c28b0] | (simp only [i64_w, i32_w]; rw [c28b0]) | skip)
        have H' := Aside0.mk H
        clear H
        go_wp2
        go_meet
        case rel => exact ⟨_, ((t20019 != t20010)), (by first | rfl | (simp; done) | (simp [*]; done)), H', ⟨by first | omega | exact Nat.le_refl _⟩, ⟨by (with_reducible repeat (first | apply Kd.S_alloc | apply Kd.S_drewN | apply Kd.S_drew)); exact Kd.S_mono HO20013.out (fun _ hk => hk.1.1)⟩, ⟨by (with_reducible repeat (first | apply Kd.R_alloc | apply Kd.R_drewN | apply Kd.R_drew)); exact Kd.R_mono HO20016.out (fun _ hk => trivial)⟩, ⟨by (with_reducible repeat (first | refine blk_drewN ?_ _ | refine blk_drew ?_ | refine blk_alloc ?_ _)); exact BK20001.out⟩, ⟨by (with_reducible repeat (first | refine blk_drewN ?_ _ | refine blk_drew ?_ | refine blk_alloc ?_ _)); exact BK20017.out⟩, ⟨by repeat (first | (with_reducible first | exact HB.out | apply below_alloc | apply pw_below_drewN | apply below_drew1 | refine below_set ?_ GE20001.out | refine below_set ?_ GE20017.out) | exact HB.out)⟩⟩
      · rw [if_neg c28] at H
        have c28b0 : (t20018.toList == t20009.toList) = false := beq_eq_false_iff_ne.mpr c28
        have c28b1 : (t20018.toList != t20009.toList) = true := bne_iff_ne.mpr c28
        (first | rw [c28b0] | (simp only [i64_w, i32_w]; rw [c28b0]) | skip)
        have H' := Aside0.mk H
        clear H
        go_wp2
        go_meet
        case rel => exact ⟨_, (true), (by first | rfl | (simp; done) | (simp [*]; done)), H', ⟨by first | omega | exact Nat.le_refl _⟩, ⟨by (with_reducible repeat (first | apply Kd.S_alloc | apply Kd.S_drewN | apply Kd.S_drew)); exact Kd.S_mono HO20013.out (fun _ hk => hk.1.1)⟩, ⟨by (with_reducible repeat (first | apply Kd.R_alloc | apply Kd.R_drewN | apply Kd.R_drew)); exact Kd.R_mono HO20016.out (fun _ hk => trivial)⟩, ⟨by (with_reducible repeat (first | refine blk_drewN ?_ _ | refine blk_drew ?_ | refine blk_alloc ?_ _)); exact BK20001.out⟩, ⟨by (with_reducible repeat (first | refine blk_drewN ?_ _ | refine blk_drew ?_ | refine blk_alloc ?_ _)); exact BK20017.out⟩, ⟨by repeat (first | (with_reducible first | exact HB.out | apply below_alloc | apply pw_below_drewN | apply below_drew1 | refine below_set ?_ GE20001.out | refine below_set ?_ GE20017.out) | exact HB.out)⟩⟩
    case rest =>
      clear HC11
      try clear c1
      try clear c2
      try clear p2
      try clear c3
      try clear c3b0
      try clear c5
      try clear c6
      try clear c8
      try clear c15
      try clear c16
      try clear c24
      try clear c28
      try clear c28b0
      try clear c28b1
      try clear hcz13_0
      try clear hcz13_1
      try clear hcz15_0
      try clear hcz15_1
      try clear hcz20_0
      try clear hcz20_1
      try clear hcz25_0
      try clear hcz25_1
      try clear hcz5_0
      try clear hcz5_1
      try clear hfz13_0
      try clear hfz13_1
      try clear hfz15_0
      try clear hfz15_1
      try clear hfz20_0
      try clear hfz20_1
      try clear hfz25_0
      try clear hfz25_1
      try clear hfz5_0
      try clear hfz5_1
      obtain ⟨kq, x34_10, rfl, HA, HJ10, HO_20018000, HO_20018001, BK20001, BK20017, HB⟩ := hcut
      cases kq with
      | zero => exact absurd HA.out (by simp [laws_FnExactFoldUp.j0])
      | succ kj10 =>
        have H := HA.out
        clear HA
        simp only [laws_FnExactFoldUp.j0] at H
        by_cases c29 : x34_10 = true
        · subst c29
          have H1 : (none) = some r := by rw [if_pos rfl] at H; exact H
          clear H
          have H := H1
          clear H1
          exact absurd H (by simp)
        · replace c29 := Bool.eq_false_iff.mpr c29
          subst c29
          have H1 : ((laws_toLayout.f kj10 l0_0 l0_1).bind fun bt20020 => ((laws_eqLayout.f kj10 t20011 t20014 bt20020.1 bt20020.2).bind fun t20026 => (if t20026 = true then (some true) else (none)))) = some r := by rw [if_neg (show ¬ (false = true) by decide)] at H; exact H
          clear H
          have H := H1
          clear H1
          replace H := Option.bind_eq_some_iff.mp H
          obtain ⟨⟨t20020, t20023⟩, A300, H⟩ := H
          replace H : ((laws_eqLayout.f kj10 t20011 t20014 t20020 t20023).bind fun t20026 => (if t20026 = true then (some true) else (none))) = some r := H
          have A30 := Aside0.mk A300
          clear A300
          replace H := Option.bind_eq_some_iff.mp H
          obtain ⟨t20026, A310, H⟩ := H
          replace H : (if t20026 = true then (some true) else (none)) = some r := H
          have A31 := Aside0.mk A310
          clear A310
          by_cases c32 : t20026 = true
          · subst c32
            have H1 : (some true) = some r := by rw [if_pos rfl] at H; exact H
            clear H
            have H := H1
            clear H1
            obtain rfl := Option.some.inj H
            try go_wp2
            have n0_ := Aside0.mk (Kd.S_drew HO_20018000.out)
            have n1_ := Aside0.mk (Kd.R_drew HO_20018001.out)
            have n2_ := Aside0.mk (blk_drew BK20001.out)
            have n3_ := Aside0.mk (blk_drew BK20017.out)
            have n4_ := Aside0.mk (below_drew1 HB.out)
            clear HO_20018000
            clear HO_20018001
            clear BK20001
            clear BK20017
            clear HB
            have HO_20018000 := n0_
            have HO_20018001 := n1_
            have BK20001 := n2_
            have BK20017 := n3_
            have HB := n4_
            clear n0_ n1_ n2_ n3_ n4_
            refine start_ (n := 5) (S := fun w' => w'.cell? ⟨gb20017, 0, none⟩ = some (.slice Ao23 t20011.length co23) ∧ w'.cell? ⟨gb20017, 1, none⟩ = some (.slice Ao26 t20014.length co26) ∧ w'.cell? ⟨gb20001, 0, none⟩ = some (.slice A0_0 l0_0.length c0_0) ∧ w'.cell? ⟨gb20001, 1, none⟩ = some (.slice A0_1 l0_1.length c0_1)) (ds := []) #[false, false, false, false, false] (by kernel_rfl) rfl rfl ⟨(blk_cell BK20017.out 0).trans rfl, (blk_cell BK20017.out 1).trans rfl, (blk_cell BK20001.out 0).trans rfl, (blk_cell BK20001.out 1).trans rfl⟩ (fun hHeld => ?_)
            generalize wc.drew = w33 at HO_20018000 HO_20018001 BK20001 BK20017 HB hHeld ⊢
            refine take_ (i := 0) (N := some 35) (v := ?_) (a' := ?_) #[true, false, false, false, false] rfl rfl (by kernel_rfl) (fun _ _ _ h => h) (Or.inl ⟨by rfl, ?_⟩) hHeld ?_ ?_
            rotate_left
            · rintro w' ⟨s0, s1, s2, s3⟩
              go_simp
              with_reducible rfl
            rotate_left
            · simp only [Act.put, List.setIfInBounds_toArray, List.set_cons_zero, List.set_cons_succ, i64_w, i32_w]
              rfl
            refine take_ (i := 1) (N := some 36) (v := ?_) (a' := ?_) #[true, true, false, false, false] rfl rfl (by kernel_rfl) (fun _ _ _ h => h) (Or.inl ⟨by rfl, ?_⟩) hHeld ?_ ?_
            rotate_left
            · rintro w' ⟨s0, s1, s2, s3⟩
              go_simp
              with_reducible rfl
            rotate_left
            · simp only [Act.put, List.setIfInBounds_toArray, List.set_cons_zero, List.set_cons_succ, i64_w, i32_w]
              rfl
            refine one_ (i := 2) (N := some 37) #[true, true, true, false, false] rfl rfl (by kernel_rfl) (by decide) (fun K hK => ?_)
            refine goes_ Tryd.func8 (by kernel_rfl) rfl #[.agg #[.slice A0_0 l0_0.length c0_0, .slice A0_1 l0_1.length c0_1]] (by rfl) rfl rfl (by (try simp only [List.map_toArray, List.map_cons, List.map_nil]); first | done | rfl | (simp only [List.length_drop, List.length_take]; rfl)) ?_
            with_reducible refine (laws_toLayout.calls kj10 _ _ l0_0 _ _ l0_1 t20020 t20023 _ ?side1 ?side2 ?side3 ?side4 A30.out).mono ?_
            (case side1 => repeat (first | exact (Kd.C_below HR0_0.out HB.out) | (with_reducible refine Kd.C_alloc ?_ _) | (with_reducible refine Kd.C_drewN ?_ _) | (with_reducible refine Kd.C_drew ?_)))
            (case side2 => exact HC0_0.out)
            (case side3 => repeat (first | exact (Kd.C_below HR0_1.out HB.out) | (with_reducible refine Kd.C_alloc ?_ _) | (with_reducible refine Kd.C_drewN ?_ _) | (with_reducible refine Kd.C_drew ?_)))
            (case side4 => exact HC0_1.out)
            rintro e w34 ⟨v20021, v20024, rfl, ho0, ho1, hb⟩
            refine ⟨_, rfl, ?_⟩
            have n0_ := Aside0.mk (Kd.S_mono (Kd.S_told (Kd.S_told (Kd.S_old (by (with_reducible repeat (first | apply Kd.S_alloc | apply Kd.S_drewN | apply Kd.S_drew)); exact HO_20018000.out) hb) (Kd.S_base ho0)) (Kd.R_base ho1)) (fun _ h_ => h_.1))
            have n1_ := Aside0.mk (Kd.R_elder' (by (with_reducible repeat (first | apply Kd.R_alloc | apply Kd.R_drewN | apply Kd.R_drew)); exact HO_20018001.out) (Kd.R_base ho1) hb)
            have n2_ := Aside0.mk (Kd.S_lower (Kd.S_new' (Kd.S_new' ho0 (Kd.S_lt (by (with_reducible repeat (first | apply Kd.S_alloc | apply Kd.S_drewN | apply Kd.S_drew)); exact HO_20018000.out))) (Kd.R_lt (by (with_reducible repeat (first | apply Kd.R_alloc | apply Kd.R_drewN | apply Kd.R_drew)); exact HO_20018001.out))) (below_size (by repeat (first | (with_reducible first | exact HB.out | apply below_alloc | apply pw_below_drewN | apply below_drew1 | refine below_set ?_ GE20001.out | refine below_set ?_ GE20017.out) | exact HB.out))))
            have n3_ := Aside0.mk (Kd.R_lower (Kd.R_new' ho1 (Kd.R_lt (by (with_reducible repeat (first | apply Kd.R_alloc | apply Kd.R_drewN | apply Kd.R_drew)); exact HO_20018001.out))) (below_size (by repeat (first | (with_reducible first | exact HB.out | apply below_alloc | apply pw_below_drewN | apply below_drew1 | refine below_set ?_ GE20001.out | refine below_set ?_ GE20017.out) | exact HB.out))))
            have n4_ := Aside0.mk (blk_below (g := gb20001) (o := .cells #[.slice A0_0 l0_0.length c0_0, .slice A0_1 l0_1.length c0_1] 25 (0, 0)) (by (with_reducible repeat (first | refine blk_drewN ?_ _ | refine blk_drew ?_ | refine blk_alloc ?_ _)); exact BK20001.out) hb)
            have n5_ := Aside0.mk (blk_below (g := gb20017) (o := .cells #[.slice Ao23 t20011.length co23, .slice Ao26 t20014.length co26] 28 (0, 0)) (by (with_reducible repeat (first | refine blk_drewN ?_ _ | refine blk_drew ?_ | refine blk_alloc ?_ _)); exact BK20017.out) hb)
            have n6_ := Aside0.mk (below_step (by repeat (first | (with_reducible first | exact HB.out | apply below_alloc | apply pw_below_drewN | apply below_drew1 | refine below_set ?_ GE20001.out | refine below_set ?_ GE20017.out) | exact HB.out)) hb)
            clear HO_20018000
            clear HO_20018001
            clear BK20001
            clear BK20017
            clear HB
            have HO_20018000 := n0_
            have HO_20018001 := n1_
            have HO20022 := n2_
            have HO20025 := n3_
            have BK20001 := n4_
            have BK20017 := n5_
            have HB := n6_
            clear n0_ n1_ n2_ n3_ n4_ n5_ n6_
            (try clear hb)
            (try clear hb2)
            (try clear hk)
            (try clear hi)
            (try clear ho0)
            (try clear ho1)
            obtain ⟨Ao35, co35, eo35⟩ := Kd.S_slice HO20022.out
            (first | subst eo35 | (injection eo35 with f1_ f2_ f3_; have f4_ := f1_.symm; have f5_ := f3_.symm; clear f1_ f2_ f3_; subst f4_; subst f5_))
            obtain ⟨Ao36, co36, eo36⟩ := Kd.R_slice HO20025.out
            (first | subst eo36 | (injection eo36 with f1_ f2_ f3_; have f4_ := f1_.symm; have f5_ := f3_.symm; clear f1_ f2_ f3_; subst f4_; subst f5_))
            refine hK.out _ _ ⟨(blk_cell BK20017.out 0).trans rfl, (blk_cell BK20017.out 1).trans rfl, (blk_cell BK20001.out 0).trans rfl, (blk_cell BK20001.out 1).trans rfl⟩ (fun hHeld => ?_)
            clear hK K
            refine norm_ (a' := ?_) ?_ ?_
            rotate_left
            · show Act.put _ (some 37) _ = _
              simp only [Act.put, List.setIfInBounds_toArray, List.set_cons_zero, List.set_cons_succ, i64_w, i32_w]
              rfl
            refine one_ (i := 3) (N := some 38) #[true, true, true, true, false] rfl rfl (by kernel_rfl) (by decide) (fun K hK => ?_)
            refine goes_ Tryd.func10 (by kernel_rfl) rfl #[.agg #[.slice Ao23 t20011.length co23, .slice Ao26 t20014.length co26], .agg #[.slice Ao35 t20020.length co35, .slice Ao36 t20023.length co36]] (by rfl) rfl rfl (by (try simp only [List.map_toArray, List.map_cons, List.map_nil]); first | done | rfl | (simp only [List.length_drop, List.length_take]; rfl)) ?_
            with_reducible refine (laws_eqLayout.calls kj10 _ _ t20011 _ _ t20014 _ _ t20020 _ _ t20023 true _ ?side1 ?side2 ?side3 ?side4 ?side5 ?side6 ?side7 ?side8 A31.out).mono ?_
            (case side1 => repeat (first | exact (Kd.S_reads' HO_20018000.out).2.2 | (with_reducible refine Kd.C_alloc ?_ _) | (with_reducible refine Kd.C_drewN ?_ _) | (with_reducible refine Kd.C_drew ?_)))
            (case side2 => exact (Kd.S_reads' HO_20018000.out).2.1)
            (case side3 => repeat (first | exact (Kd.R_reads' HO_20018001.out).2.2 | (with_reducible refine Kd.C_alloc ?_ _) | (with_reducible refine Kd.C_drewN ?_ _) | (with_reducible refine Kd.C_drew ?_)))
            (case side4 => exact (Kd.R_reads' HO_20018001.out).2.1)
            (case side5 => repeat (first | exact (Kd.S_reads' HO20022.out).2.2 | (with_reducible refine Kd.C_alloc ?_ _) | (with_reducible refine Kd.C_drewN ?_ _) | (with_reducible refine Kd.C_drew ?_)))
            (case side6 => exact (Kd.S_reads' HO20022.out).2.1)
            (case side7 => repeat (first | exact (Kd.R_reads' HO20025.out).2.2 | (with_reducible refine Kd.C_alloc ?_ _) | (with_reducible refine Kd.C_drewN ?_ _) | (with_reducible refine Kd.C_drew ?_)))
            (case side8 => exact (Kd.R_reads' HO20025.out).2.1)
            rintro e w37 ⟨rfl, hb⟩
            refine ⟨_, rfl, ?_⟩
            have n0_ := Aside0.mk (Kd.S_below (by (with_reducible repeat (first | apply Kd.S_alloc | apply Kd.S_drewN | apply Kd.S_drew)); exact HO_20018000.out) hb)
            have n1_ := Aside0.mk (Kd.R_below (by (with_reducible repeat (first | apply Kd.R_alloc | apply Kd.R_drewN | apply Kd.R_drew)); exact HO_20018001.out) hb)
            have n2_ := Aside0.mk (Kd.S_below (by (with_reducible repeat (first | apply Kd.S_alloc | apply Kd.S_drewN | apply Kd.S_drew)); exact HO20022.out) hb)
            have n3_ := Aside0.mk (Kd.R_below (by (with_reducible repeat (first | apply Kd.R_alloc | apply Kd.R_drewN | apply Kd.R_drew)); exact HO20025.out) hb)
            have n4_ := Aside0.mk (blk_below (g := gb20001) (o := .cells #[.slice A0_0 l0_0.length c0_0, .slice A0_1 l0_1.length c0_1] 25 (0, 0)) (by (with_reducible repeat (first | refine blk_drewN ?_ _ | refine blk_drew ?_ | refine blk_alloc ?_ _)); exact BK20001.out) hb)
            have n5_ := Aside0.mk (blk_below (g := gb20017) (o := .cells #[.slice Ao23 t20011.length co23, .slice Ao26 t20014.length co26] 28 (0, 0)) (by (with_reducible repeat (first | refine blk_drewN ?_ _ | refine blk_drew ?_ | refine blk_alloc ?_ _)); exact BK20017.out) hb)
            have n6_ := Aside0.mk (below_step (by repeat (first | (with_reducible first | exact HB.out | apply below_alloc | apply pw_below_drewN | apply below_drew1 | refine below_set ?_ GE20001.out | refine below_set ?_ GE20017.out) | exact HB.out)) hb)
            clear HO_20018000
            clear HO_20018001
            clear HO20022
            clear HO20025
            clear BK20001
            clear BK20017
            clear HB
            have HO_20018000 := n0_
            have HO_20018001 := n1_
            have HO20022 := n2_
            have HO20025 := n3_
            have BK20001 := n4_
            have BK20017 := n5_
            have HB := n6_
            clear n0_ n1_ n2_ n3_ n4_ n5_ n6_
            (try clear hb)
            (try clear hb2)
            (try clear hk)
            (try clear hi)
            refine hK.out _ _ ⟨(blk_cell BK20017.out 0).trans rfl, (blk_cell BK20017.out 1).trans rfl, (blk_cell BK20001.out 0).trans rfl, (blk_cell BK20001.out 1).trans rfl⟩ (fun hHeld => ?_)
            clear hK K
            refine norm_ (a' := ?_) ?_ ?_
            rotate_left
            · show Act.put _ (some 38) _ = _
              simp only [Act.put, List.setIfInBounds_toArray, List.set_cons_zero, List.set_cons_succ, i64_w, i32_w]
              rfl
            refine pure_ (i := 4) (N := some 39) (v := ?_) (a' := ?_) #[true, true, true, true, true] rfl rfl (by kernel_rfl) (fun _ _ _ h => h) (Or.inl ⟨by rfl, ?_⟩) ?_ ?_
            rotate_left
            · intro w'
              go_simp
              with_reducible rfl
            rotate_left
            · simp only [Act.put, List.setIfInBounds_toArray, List.set_cons_zero, List.set_cons_succ, i64_w, i32_w]
              rfl
            refine done_ (by kernel_rfl) ?_
            try go_wp2
            go_ret
            exact ⟨by first | rfl | (simp [errW_none, errW_some] <;> rfl) | (simp [*, errW_none, errW_some] <;> rfl), by repeat (first | (with_reducible first | exact HB.out | apply below_alloc | apply pw_below_drewN | apply below_drew1 | refine below_set ?_ GE20001.out | refine below_set ?_ GE20017.out) | exact HB.out)⟩
          · replace c32 := Bool.eq_false_iff.mpr c32
            subst c32
            have H1 : (none) = some r := by rw [if_neg (show ¬ (false = true) by decide)] at H; exact H
            clear H
            have H := H1
            clear H1
            exact absurd H (by simp)

end Go.Proofs.YtlakjonnkggomaaDoor.Fu
