-- Written for this claim by a program (wip/hyb/hyb.py).
import Derived.Test.YteijndaldkkpfaaLp0
import Derived.Test.YteijndaldkkpfaaLp1
import Derived.Test.YteijndaldkkpfaaLp2
import Derived.Test.YteijndaldkkpfaaLp3
import Derived.Test.YteijndaldkkpfaaLp4
namespace Go.Proofs.Yteijndaldkkpfaa.Lp
open Go.RowKit Go.Proofs.YteijndaldkkpfaaW.PrintWords Go.Proofs.YteijndaldkkpfaaW.PrintLast Go.Proofs.YteijndaldkkpfaaW.PrintMore
attribute [local go_sem] max2_int min2_int max_two min_two max_three min_three max_four min_four   -- for this text's walks alone
set_option linter.unusedVariables false
set_option linter.unusedSimpArgs false

/-! ### laws_FnExactPlaceOf: function 8 -/
def laws_FnExactPlaceOf.f (k : Nat) (l0_0 : List (List Int)) (l0_1 : List Int) (l1 : List Int) : Option (Bool) := if (l1.length : Int) > 1048576 then (some true) else ((laws_szLayout.f k l0_0 l0_1 1048576).bind fun t20002 => (if t20002 < 0 then (some true) else ((laws_toLayout.f k l0_0 l0_1).bind fun bt20003 => ((laws_toIntS.f k l1).bind fun t20009 => ((spec_PlaceOf.f k bt20003.1 bt20003.2 t20009).bind fun t20012 => ((laws_toLayout.f k l0_0 l0_1).bind fun bt20013 => ((laws_toIntS.f k l1).bind fun t20020 => ((impl_PlaceOf.f k bt20013.1 bt20013.2 t20020).bind fun t20023 => (if t20023 = t20012 then ((laws_toLayout.f k l0_0 l0_1).bind fun bt20024 => ((laws_eqLayout.f k bt20013.1 bt20013.2 bt20024.1 bt20024.2).bind fun t20030 => (if t20030 = true then ((laws_toIntS.f k l1).bind fun t20031 => ((laws_eqIntS.f k t20020 t20031).bind fun t20034 => (if t20034 = true then (some true) else (none)))) else (none)))) else (none))))))))))
theorem laws_FnExactPlaceOf.mono : ∀ a0 a1 a2 k, LeO (laws_FnExactPlaceOf.f k a0 a1 a2) (laws_FnExactPlaceOf.f (k + 1) a0 a1 a2) := by
  intro a0 a1 a2 k
  unfold laws_FnExactPlaceOf.f
  repeat' first
      | (with_reducible exact impl_PlaceOf.mono _ _ _ _)
      | (with_reducible exact laws_eqIntS.mono _ _ _)
      | (with_reducible exact laws_eqLayout.mono _ _ _ _ _)
      | (with_reducible exact laws_szLayout.mono _ _ _ _)
      | (with_reducible exact laws_toIntS.mono _ _)
      | (with_reducible exact laws_toLayout.mono _ _ _)
      | (with_reducible exact spec_PlaceOf.mono _ _ _ _)
      | (with_reducible exact LeO.refl _)
      | (with_reducible exact LeO.none _)
      | (with_reducible refine LeO.ite ?_ ?_)
      | (with_reducible refine LeO.bind ?_ (fun _ => ?_))
      | exact impl_PlaceOf.mono _ _ _ _
      | exact laws_eqIntS.mono _ _ _
      | exact laws_eqLayout.mono _ _ _ _ _
      | exact laws_szLayout.mono _ _ _ _
      | exact laws_toIntS.mono _ _
      | exact laws_toLayout.mono _ _ _
      | exact spec_PlaceOf.mono _ _ _ _
      | exact LeO.none _
      | refine LeO.ite ?_ ?_
      | refine LeO.bind ?_ (fun _ => ?_)
set_option maxHeartbeats 8000000 in
set_option maxRecDepth 100000 in
theorem laws_FnExactPlaceOf.calls (k : Nat) (A0_0 : Option Addr) (c0_0 : Nat) (l0_0 : List (List Int)) (A0_1 : Option Addr) (c0_1 : Nat) (l0_1 : List Int) (A1 : Option Addr) (c1 : Nat) (l1 : List Int) (r : Bool) (w : World) (hr0_0 : Kd.C (Kd.slice 3 (Kd.int .i64)) w A0_0 l0_0.length l0_0) (hc0_0 : l0_0.length ≤ c0_0) (hr0_1 : Kd.C (Kd.int .i64) w A0_1 l0_1.length l0_1) (hc0_1 : l0_1.length ≤ c0_1) (hr1 : Kd.C (Kd.int .i64) w A1 l1.length l1) (hc1 : l1.length ≤ c1) (h : laws_FnExactPlaceOf.f k l0_0 l0_1 l1 = some r) :
    Calls Try.prog 8 #[.agg #[.slice A0_0 l0_0.length c0_0, .slice A0_1 l0_1.length c0_1], .slice A1 l1.length c1] w fun e w' => e = .returned (.bool r) ∧ Below w.heap.size w w' := by
  have hu36 := Try.underlying36
  have hu39 := Try.underlying39
  have HR0_0 := Aside0.mk hr0_0
  have HC0_0 := Aside0.mk hc0_0
  clear hr0_0 hc0_0
  have HR0_1 := Aside0.mk hr0_1
  have HC0_1 := Aside0.mk hc0_1
  clear hr0_1 hc0_1
  have HR1 := Aside0.mk hr1
  have HC1 := Aside0.mk hc1
  clear hr1 hc1
  have HB := Aside0.mk (Below.refl w.heap.size w)
  have H : (if (l1.length : Int) > 1048576 then (some true) else ((laws_szLayout.f k l0_0 l0_1 1048576).bind fun t20002 => (if t20002 < 0 then (some true) else ((laws_toLayout.f k l0_0 l0_1).bind fun bt20003 => ((laws_toIntS.f k l1).bind fun t20009 => ((spec_PlaceOf.f k bt20003.1 bt20003.2 t20009).bind fun t20012 => ((laws_toLayout.f k l0_0 l0_1).bind fun bt20013 => ((laws_toIntS.f k l1).bind fun t20020 => ((impl_PlaceOf.f k bt20013.1 bt20013.2 t20020).bind fun t20023 => (if t20023 = t20012 then ((laws_toLayout.f k l0_0 l0_1).bind fun bt20024 => ((laws_eqLayout.f k bt20013.1 bt20013.2 bt20024.1 bt20024.2).bind fun t20030 => (if t20030 = true then ((laws_toIntS.f k l1).bind fun t20031 => ((laws_eqIntS.f k t20020 t20031).bind fun t20034 => (if t20034 = true then (some true) else (none)))) else (none)))) else (none))))))))))) = some r := h
  clear h
  by_cases c3 : (l1.length : Int) > 1048576
  · rw [if_pos c3] at H
    have c3b0 : decide (1048576 < (l1.length : Int)) = true := decide_eq_true c3
    have c3b1 : decide (1048576 < l1.length) = true := decide_eq_true (by omega)
    clear c3
    obtain rfl := Option.some.inj H
    go_enter Try.func8, Try.ntmps8
    go_wp2_with (first | ((with_reducible refine gate_dst (N := 2) rfl ?_); refine box_event ?hg (N := 2) ?hd (cs := #[.slice A0_0 l0_0.length c0_0, .slice A0_1 l0_1.length c0_1]) (t := 36) ?hr ?_; (case hd => rfl); (case hg => rfl); (case hr => first | (go_simp; done) | (go_simp; rfl)); intro gb20001 hg w4 hbox hb; have n0_ := Aside0.mk (below_step (by repeat (first | (with_reducible first | exact HB.out | apply below_alloc | apply pw_below_drewN | apply below_drew1) | exact HB.out)) hb); have n1_ := Aside0.mk (hbox); have n2_ := Aside0.mk ((by rw [hg]; exact (below_size (by repeat (first | (with_reducible first | exact HB.out | apply below_alloc | apply pw_below_drewN | apply below_drew1) | exact HB.out))) : w.heap.size ≤ gb20001)); have n3_ := Aside0.mk ((by rw [hg]; exact (below_size (by repeat (first | (with_reducible first | exact HB.out | apply below_alloc | apply pw_below_drewN | apply below_drew1) | exact HB.out))) : w.heap.size ≤ gb20001)); clear HB; have HB := n0_; have BK20001 := n1_; have GW20001 := n2_; have GE20001 := n3_; clear n0_ n1_ n2_ n3_; clear hb hbox hg))
    go_ret
    exact ⟨by first | rfl | (simp [errW_none, errW_some] <;> rfl) | (simp [*, errW_none, errW_some] <;> rfl), by repeat (first | (with_reducible first | exact HB.out | apply below_alloc | apply pw_below_drewN | apply below_drew1 | refine below_set ?_ GE20001.out) | exact HB.out)⟩
  · rw [if_neg c3] at H
    have c3b0 : decide (1048576 < (l1.length : Int)) = false := decide_eq_false c3
    have c3b1 : decide (1048576 < l1.length) = false := decide_eq_false (by omega)
    clear c3
    replace H := Option.bind_eq_some_iff.mp H
    obtain ⟨t20002, A50, H⟩ := H
    replace H : (if t20002 < 0 then (some true) else ((laws_toLayout.f k l0_0 l0_1).bind fun bt20003 => ((laws_toIntS.f k l1).bind fun t20009 => ((spec_PlaceOf.f k bt20003.1 bt20003.2 t20009).bind fun t20012 => ((laws_toLayout.f k l0_0 l0_1).bind fun bt20013 => ((laws_toIntS.f k l1).bind fun t20020 => ((impl_PlaceOf.f k bt20013.1 bt20013.2 t20020).bind fun t20023 => (if t20023 = t20012 then ((laws_toLayout.f k l0_0 l0_1).bind fun bt20024 => ((laws_eqLayout.f k bt20013.1 bt20013.2 bt20024.1 bt20024.2).bind fun t20030 => (if t20030 = true then ((laws_toIntS.f k l1).bind fun t20031 => ((laws_eqIntS.f k t20020 t20031).bind fun t20034 => (if t20034 = true then (some true) else (none)))) else (none)))) else (none))))))))) = some r := H
    have A5 := Aside0.mk A50
    clear A50
    by_cases c6 : t20002 < 0
    · rw [if_pos c6] at H
      have c6b0 : decide (t20002 < 0) = true := decide_eq_true c6
      clear c6
      obtain rfl := Option.some.inj H
      go_enter Try.func8, Try.ntmps8
      go_wp2_with (first | ((with_reducible refine gate_dst (N := 2) rfl ?_); refine box_event ?hg (N := 2) ?hd (cs := #[.slice A0_0 l0_0.length c0_0, .slice A0_1 l0_1.length c0_1]) (t := 36) ?hr ?_; (case hd => rfl); (case hg => rfl); (case hr => first | (go_simp; done) | (go_simp; rfl)); intro gb20001 hg w7 hbox hb; have n0_ := Aside0.mk (below_step (by repeat (first | (with_reducible first | exact HB.out | apply below_alloc | apply pw_below_drewN | apply below_drew1) | exact HB.out)) hb); have n1_ := Aside0.mk (hbox); have n2_ := Aside0.mk ((by rw [hg]; exact (below_size (by repeat (first | (with_reducible first | exact HB.out | apply below_alloc | apply pw_below_drewN | apply below_drew1) | exact HB.out))) : w.heap.size ≤ gb20001)); have n3_ := Aside0.mk ((by rw [hg]; exact (below_size (by repeat (first | (with_reducible first | exact HB.out | apply below_alloc | apply pw_below_drewN | apply below_drew1) | exact HB.out))) : w.heap.size ≤ gb20001)); clear HB; have HB := n0_; have BK20001 := n1_; have GW20001 := n2_; have GE20001 := n3_; clear n0_ n1_ n2_ n3_; clear hb hbox hg; have hcz8_0 : w7.cell? ⟨gb20001, 0, none⟩ = some (.slice A0_0 l0_0.length c0_0) := (blk_cell BK20001.out 0).trans rfl; have hcz8_1 : w7.cell? ⟨gb20001, 1, none⟩ = some (.slice A0_1 l0_1.length c0_1) := (blk_cell BK20001.out 1).trans rfl; have hfz8_0 := blk_frozen BK20001.out 0; have hfz8_1 := blk_frozen BK20001.out 1) | ((with_reducible refine gate_callee (f := 30) rfl ?_); refine goesL_ (some 15) rfl rfl Try.func30 (by kernel_rfl) rfl #[.agg #[.slice A0_0 l0_0.length c0_0, .slice A0_1 l0_1.length c0_1], .int .i64 1048576] rfl (by (try simp only [List.map_toArray, List.map_cons, List.map_nil]); first | done | rfl | (simp only [List.length_drop, List.length_take]; rfl)) ?_; (with_reducible refine (laws_szLayout.calls k _ _ l0_0 _ _ l0_1 1048576 t20002 _ ?side1 ?side2 ?side3 ?side4 A5.out).mono ?_); (case side1 => repeat (first | exact (Kd.C_below HR0_0.out HB.out) | (with_reducible refine Kd.C_alloc ?_ _) | (with_reducible refine Kd.C_drewN ?_ _) | (with_reducible refine Kd.C_drew ?_))); (case side2 => exact HC0_0.out); (case side3 => repeat (first | exact (Kd.C_below HR0_1.out HB.out) | (with_reducible refine Kd.C_alloc ?_ _) | (with_reducible refine Kd.C_drewN ?_ _) | (with_reducible refine Kd.C_drew ?_))); (case side4 => exact HC0_1.out); rintro e w9 ⟨rfl, hb⟩; refine ⟨_, rfl, ?_⟩; have n0_ := Aside0.mk (blk_below (g := gb20001) (o := .cells #[.slice A0_0 l0_0.length c0_0, .slice A0_1 l0_1.length c0_1] 36 (0, 0)) (by (with_reducible repeat (first | refine blk_drewN ?_ _ | refine blk_drew ?_ | refine blk_alloc ?_ _)); exact BK20001.out) hb); have n1_ := Aside0.mk (below_step (by repeat (first | (with_reducible first | exact HB.out | apply below_alloc | apply pw_below_drewN | apply below_drew1 | refine below_set ?_ GE20001.out) | exact HB.out)) hb); clear BK20001; clear HB; have BK20001 := n0_; have HB := n1_; clear n0_ n1_; (try clear hb); (try clear hb2); (try clear hk); (try clear hi)))
      go_ret
      exact ⟨by first | rfl | (simp [errW_none, errW_some] <;> rfl) | (simp [*, errW_none, errW_some] <;> rfl), by repeat (first | (with_reducible first | exact HB.out | apply below_alloc | apply pw_below_drewN | apply below_drew1 | refine below_set ?_ GE20001.out) | exact HB.out)⟩
    · rw [if_neg c6] at H
      have c6b0 : decide (t20002 < 0) = false := decide_eq_false c6
      clear c6
      replace H := Option.bind_eq_some_iff.mp H
      obtain ⟨⟨t20003, t20006⟩, A100, H⟩ := H
      replace H : ((laws_toIntS.f k l1).bind fun t20009 => ((spec_PlaceOf.f k t20003 t20006 t20009).bind fun t20012 => ((laws_toLayout.f k l0_0 l0_1).bind fun bt20013 => ((laws_toIntS.f k l1).bind fun t20020 => ((impl_PlaceOf.f k bt20013.1 bt20013.2 t20020).bind fun t20023 => (if t20023 = t20012 then ((laws_toLayout.f k l0_0 l0_1).bind fun bt20024 => ((laws_eqLayout.f k bt20013.1 bt20013.2 bt20024.1 bt20024.2).bind fun t20030 => (if t20030 = true then ((laws_toIntS.f k l1).bind fun t20031 => ((laws_eqIntS.f k t20020 t20031).bind fun t20034 => (if t20034 = true then (some true) else (none)))) else (none)))) else (none))))))) = some r := H
      have A10 := Aside0.mk A100
      clear A100
      replace H := Option.bind_eq_some_iff.mp H
      obtain ⟨t20009, A110, H⟩ := H
      replace H : ((spec_PlaceOf.f k t20003 t20006 t20009).bind fun t20012 => ((laws_toLayout.f k l0_0 l0_1).bind fun bt20013 => ((laws_toIntS.f k l1).bind fun t20020 => ((impl_PlaceOf.f k bt20013.1 bt20013.2 t20020).bind fun t20023 => (if t20023 = t20012 then ((laws_toLayout.f k l0_0 l0_1).bind fun bt20024 => ((laws_eqLayout.f k bt20013.1 bt20013.2 bt20024.1 bt20024.2).bind fun t20030 => (if t20030 = true then ((laws_toIntS.f k l1).bind fun t20031 => ((laws_eqIntS.f k t20020 t20031).bind fun t20034 => (if t20034 = true then (some true) else (none)))) else (none)))) else (none)))))) = some r := H
      have A11 := Aside0.mk A110
      clear A110
      replace H := Option.bind_eq_some_iff.mp H
      obtain ⟨t20012, A120, H⟩ := H
      replace H : ((laws_toLayout.f k l0_0 l0_1).bind fun bt20013 => ((laws_toIntS.f k l1).bind fun t20020 => ((impl_PlaceOf.f k bt20013.1 bt20013.2 t20020).bind fun t20023 => (if t20023 = t20012 then ((laws_toLayout.f k l0_0 l0_1).bind fun bt20024 => ((laws_eqLayout.f k bt20013.1 bt20013.2 bt20024.1 bt20024.2).bind fun t20030 => (if t20030 = true then ((laws_toIntS.f k l1).bind fun t20031 => ((laws_eqIntS.f k t20020 t20031).bind fun t20034 => (if t20034 = true then (some true) else (none)))) else (none)))) else (none))))) = some r := H
      have A12 := Aside0.mk A120
      clear A120
      replace H := Option.bind_eq_some_iff.mp H
      obtain ⟨⟨t20013, t20016⟩, A130, H⟩ := H
      replace H : ((laws_toIntS.f k l1).bind fun t20020 => ((impl_PlaceOf.f k t20013 t20016 t20020).bind fun t20023 => (if t20023 = t20012 then ((laws_toLayout.f k l0_0 l0_1).bind fun bt20024 => ((laws_eqLayout.f k t20013 t20016 bt20024.1 bt20024.2).bind fun t20030 => (if t20030 = true then ((laws_toIntS.f k l1).bind fun t20031 => ((laws_eqIntS.f k t20020 t20031).bind fun t20034 => (if t20034 = true then (some true) else (none)))) else (none)))) else (none)))) = some r := H
      have A13 := Aside0.mk A130
      clear A130
      replace H := Option.bind_eq_some_iff.mp H
      obtain ⟨t20020, A140, H⟩ := H
      replace H : ((impl_PlaceOf.f k t20013 t20016 t20020).bind fun t20023 => (if t20023 = t20012 then ((laws_toLayout.f k l0_0 l0_1).bind fun bt20024 => ((laws_eqLayout.f k t20013 t20016 bt20024.1 bt20024.2).bind fun t20030 => (if t20030 = true then ((laws_toIntS.f k l1).bind fun t20031 => ((laws_eqIntS.f k t20020 t20031).bind fun t20034 => (if t20034 = true then (some true) else (none)))) else (none)))) else (none))) = some r := H
      have A14 := Aside0.mk A140
      clear A140
      replace H := Option.bind_eq_some_iff.mp H
      obtain ⟨t20023, A150, H⟩ := H
      replace H : (if t20023 = t20012 then ((laws_toLayout.f k l0_0 l0_1).bind fun bt20024 => ((laws_eqLayout.f k t20013 t20016 bt20024.1 bt20024.2).bind fun t20030 => (if t20030 = true then ((laws_toIntS.f k l1).bind fun t20031 => ((laws_eqIntS.f k t20020 t20031).bind fun t20034 => (if t20034 = true then (some true) else (none)))) else (none)))) else (none)) = some r := H
      have A15 := Aside0.mk A150
      clear A150
      by_cases c16 : t20023 = t20012
      · rw [if_pos c16] at H
        have c16b0 : (t20023 == t20012) = true := beq_iff_eq.mpr c16
        have c16b1 : (t20023 != t20012) = false := bne_eq_false_iff_eq.mpr c16
        clear c16
        replace H := Option.bind_eq_some_iff.mp H
        obtain ⟨⟨t20024, t20027⟩, A170, H⟩ := H
        replace H : ((laws_eqLayout.f k t20013 t20016 t20024 t20027).bind fun t20030 => (if t20030 = true then ((laws_toIntS.f k l1).bind fun t20031 => ((laws_eqIntS.f k t20020 t20031).bind fun t20034 => (if t20034 = true then (some true) else (none)))) else (none))) = some r := H
        have A17 := Aside0.mk A170
        clear A170
        replace H := Option.bind_eq_some_iff.mp H
        obtain ⟨t20030, A180, H⟩ := H
        replace H : (if t20030 = true then ((laws_toIntS.f k l1).bind fun t20031 => ((laws_eqIntS.f k t20020 t20031).bind fun t20034 => (if t20034 = true then (some true) else (none)))) else (none)) = some r := H
        have A18 := Aside0.mk A180
        clear A180
        by_cases c19 : t20030 = true
        · subst c19
          have H1 : ((laws_toIntS.f k l1).bind fun t20031 => ((laws_eqIntS.f k t20020 t20031).bind fun t20034 => (if t20034 = true then (some true) else (none)))) = some r := by rw [if_pos rfl] at H; exact H
          clear H
          have H := H1
          clear H1
          replace H := Option.bind_eq_some_iff.mp H
          obtain ⟨t20031, A200, H⟩ := H
          replace H : ((laws_eqIntS.f k t20020 t20031).bind fun t20034 => (if t20034 = true then (some true) else (none))) = some r := H
          have A20 := Aside0.mk A200
          clear A200
          replace H := Option.bind_eq_some_iff.mp H
          obtain ⟨t20034, A210, H⟩ := H
          replace H : (if t20034 = true then (some true) else (none)) = some r := H
          have A21 := Aside0.mk A210
          clear A210
          by_cases c22 : t20034 = true
          · subst c22
            have H1 : (some true) = some r := by rw [if_pos rfl] at H; exact H
            clear H
            have H := H1
            clear H1
            obtain rfl := Option.some.inj H
            go_enter Try.func8, Try.ntmps8
            try go_wp2_with (first | ((with_reducible refine gate_dst (N := 2) rfl ?_); refine box_event ?hg (N := 2) ?hd (cs := #[.slice A0_0 l0_0.length c0_0, .slice A0_1 l0_1.length c0_1]) (t := 36) ?hr ?_; (case hd => rfl); (case hg => rfl); (case hr => first | (go_simp; done) | (go_simp; rfl)); intro gb20001 hg w23 hbox hb; have n0_ := Aside0.mk (below_step (by repeat (first | (with_reducible first | exact HB.out | apply below_alloc | apply pw_below_drewN | apply below_drew1) | exact HB.out)) hb); have n1_ := Aside0.mk (hbox); have n2_ := Aside0.mk ((by rw [hg]; exact (below_size (by repeat (first | (with_reducible first | exact HB.out | apply below_alloc | apply pw_below_drewN | apply below_drew1) | exact HB.out))) : w.heap.size ≤ gb20001)); have n3_ := Aside0.mk ((by rw [hg]; exact (below_size (by repeat (first | (with_reducible first | exact HB.out | apply below_alloc | apply pw_below_drewN | apply below_drew1) | exact HB.out))) : w.heap.size ≤ gb20001)); clear HB; have HB := n0_; have BK20001 := n1_; have GW20001 := n2_; have GE20001 := n3_; clear n0_ n1_ n2_ n3_; clear hb hbox hg; have hcz24_0 : w23.cell? ⟨gb20001, 0, none⟩ = some (.slice A0_0 l0_0.length c0_0) := (blk_cell BK20001.out 0).trans rfl; have hcz24_1 : w23.cell? ⟨gb20001, 1, none⟩ = some (.slice A0_1 l0_1.length c0_1) := (blk_cell BK20001.out 1).trans rfl; have hfz24_0 := blk_frozen BK20001.out 0; have hfz24_1 := blk_frozen BK20001.out 1) | ((with_reducible refine gate_callee (f := 30) rfl ?_); refine goesL_ (some 15) rfl rfl Try.func30 (by kernel_rfl) rfl #[.agg #[.slice A0_0 l0_0.length c0_0, .slice A0_1 l0_1.length c0_1], .int .i64 1048576] rfl (by (try simp only [List.map_toArray, List.map_cons, List.map_nil]); first | done | rfl | (simp only [List.length_drop, List.length_take]; rfl)) ?_; (with_reducible refine (laws_szLayout.calls k _ _ l0_0 _ _ l0_1 1048576 t20002 _ ?side1 ?side2 ?side3 ?side4 A5.out).mono ?_); (case side1 => repeat (first | exact (Kd.C_below HR0_0.out HB.out) | (with_reducible refine Kd.C_alloc ?_ _) | (with_reducible refine Kd.C_drewN ?_ _) | (with_reducible refine Kd.C_drew ?_))); (case side2 => exact HC0_0.out); (case side3 => repeat (first | exact (Kd.C_below HR0_1.out HB.out) | (with_reducible refine Kd.C_alloc ?_ _) | (with_reducible refine Kd.C_drewN ?_ _) | (with_reducible refine Kd.C_drew ?_))); (case side4 => exact HC0_1.out); rintro e w25 ⟨rfl, hb⟩; refine ⟨_, rfl, ?_⟩; have n0_ := Aside0.mk (blk_below (g := gb20001) (o := .cells #[.slice A0_0 l0_0.length c0_0, .slice A0_1 l0_1.length c0_1] 36 (0, 0)) (by (with_reducible repeat (first | refine blk_drewN ?_ _ | refine blk_drew ?_ | refine blk_alloc ?_ _)); exact BK20001.out) hb); have n1_ := Aside0.mk (below_step (by repeat (first | (with_reducible first | exact HB.out | apply below_alloc | apply pw_below_drewN | apply below_drew1 | refine below_set ?_ GE20001.out) | exact HB.out)) hb); clear BK20001; clear HB; have BK20001 := n0_; have HB := n1_; clear n0_ n1_; (try clear hb); (try clear hb2); (try clear hk); (try clear hi); have hcz26_0 : w25.cell? ⟨gb20001, 0, none⟩ = some (.slice A0_0 l0_0.length c0_0) := (blk_cell BK20001.out 0).trans rfl; have hcz26_1 : w25.cell? ⟨gb20001, 1, none⟩ = some (.slice A0_1 l0_1.length c0_1) := (blk_cell BK20001.out 1).trans rfl; have hfz26_0 := blk_frozen BK20001.out 0; have hfz26_1 := blk_frozen BK20001.out 1) | ((with_reducible refine gate_callee (f := 32) rfl ?_); refine goesL_ (some 19) rfl rfl Try.func32 (by kernel_rfl) rfl #[.agg #[.slice A0_0 l0_0.length c0_0, .slice A0_1 l0_1.length c0_1]] rfl (by (try simp only [List.map_toArray, List.map_cons, List.map_nil]); first | done | rfl | (simp only [List.length_drop, List.length_take]; rfl)) ?_; (with_reducible refine (laws_toLayout.calls k _ _ l0_0 _ _ l0_1 t20003 t20006 _ ?side1 ?side2 ?side3 ?side4 A10.out).mono ?_); (case side1 => repeat (first | exact (Kd.C_below HR0_0.out HB.out) | (with_reducible refine Kd.C_alloc ?_ _) | (with_reducible refine Kd.C_drewN ?_ _) | (with_reducible refine Kd.C_drew ?_))); (case side2 => exact HC0_0.out); (case side3 => repeat (first | exact (Kd.C_below HR0_1.out HB.out) | (with_reducible refine Kd.C_alloc ?_ _) | (with_reducible refine Kd.C_drewN ?_ _) | (with_reducible refine Kd.C_drew ?_))); (case side4 => exact HC0_1.out); rintro e w27 ⟨v20004, v20007, rfl, ho0, ho1, hb⟩; refine ⟨_, rfl, ?_⟩; have n0_ := Aside0.mk (Kd.S_lower ho0 (below_size (by repeat (first | (with_reducible first | exact HB.out | apply below_alloc | apply pw_below_drewN | apply below_drew1 | refine below_set ?_ GE20001.out) | exact HB.out)))); have n1_ := Aside0.mk (Kd.R_lower ho1 (below_size (by repeat (first | (with_reducible first | exact HB.out | apply below_alloc | apply pw_below_drewN | apply below_drew1 | refine below_set ?_ GE20001.out) | exact HB.out)))); have n2_ := Aside0.mk (blk_below (g := gb20001) (o := .cells #[.slice A0_0 l0_0.length c0_0, .slice A0_1 l0_1.length c0_1] 36 (0, 0)) (by (with_reducible repeat (first | refine blk_drewN ?_ _ | refine blk_drew ?_ | refine blk_alloc ?_ _)); exact BK20001.out) hb); have n3_ := Aside0.mk (below_step (by repeat (first | (with_reducible first | exact HB.out | apply below_alloc | apply pw_below_drewN | apply below_drew1 | refine below_set ?_ GE20001.out) | exact HB.out)) hb); clear BK20001; clear HB; have HO20005 := n0_; have HO20008 := n1_; have BK20001 := n2_; have HB := n3_; clear n0_ n1_ n2_ n3_; (try clear hb); (try clear hb2); (try clear hk); (try clear hi); (try clear ho0); (try clear ho1)) | ((with_reducible refine gate_callee (f := 11) rfl ?_); refine goesL_ (some 21) rfl rfl Try.func11 (by kernel_rfl) rfl #[.slice A1 l1.length c1] rfl (by (try simp only [List.map_toArray, List.map_cons, List.map_nil]); first | done | rfl | (simp only [List.length_drop, List.length_take]; rfl)) ?_; (with_reducible refine (laws_toIntS.calls k _ _ l1 t20009 _ ?side1 ?side2 A11.out).mono ?_); (case side1 => repeat (first | exact (Kd.C_below HR1.out HB.out) | (with_reducible refine Kd.C_alloc ?_ _) | (with_reducible refine Kd.C_drewN ?_ _) | (with_reducible refine Kd.C_drew ?_))); (case side2 => exact HC1.out); rintro e w28 ⟨v20010, rfl, ho0, hb⟩; refine ⟨_, rfl, ?_⟩; have n0_ := Aside0.mk (Kd.S_elder' (by (with_reducible repeat (first | apply Kd.S_alloc | apply Kd.S_drewN | apply Kd.S_drew)); exact HO20005.out) (Kd.R_base ho0) hb); have n1_ := Aside0.mk (Kd.R_elder' (by (with_reducible repeat (first | apply Kd.R_alloc | apply Kd.R_drewN | apply Kd.R_drew)); exact HO20008.out) (Kd.R_base ho0) hb); have n2_ := Aside0.mk (Kd.R_lower (Kd.R_new' ho0 (Kd.R_lt (by (with_reducible repeat (first | apply Kd.R_alloc | apply Kd.R_drewN | apply Kd.R_drew)); exact HO20008.out))) (below_size (by repeat (first | (with_reducible first | exact HB.out | apply below_alloc | apply pw_below_drewN | apply below_drew1 | refine below_set ?_ GE20001.out) | exact HB.out)))); have n3_ := Aside0.mk (blk_below (g := gb20001) (o := .cells #[.slice A0_0 l0_0.length c0_0, .slice A0_1 l0_1.length c0_1] 36 (0, 0)) (by (with_reducible repeat (first | refine blk_drewN ?_ _ | refine blk_drew ?_ | refine blk_alloc ?_ _)); exact BK20001.out) hb); have n4_ := Aside0.mk (below_step (by repeat (first | (with_reducible first | exact HB.out | apply below_alloc | apply pw_below_drewN | apply below_drew1 | refine below_set ?_ GE20001.out) | exact HB.out)) hb); clear HO20005; clear HO20008; clear BK20001; clear HB; have HO20005 := n0_; have HO20008 := n1_; have HO20011 := n2_; have BK20001 := n3_; have HB := n4_; clear n0_ n1_ n2_ n3_ n4_; (try clear hb); (try clear hb2); (try clear hk); (try clear hi); (try clear ho0); obtain ⟨Ao29, co29, eo29⟩ := Kd.S_slice HO20005.out; subst eo29; obtain ⟨Ao30, co30, eo30⟩ := Kd.R_slice HO20008.out; subst eo30; obtain ⟨Ao31, co31, eo31⟩ := Kd.R_slice HO20011.out; subst eo31) | ((with_reducible refine gate_callee (f := 37) rfl ?_); refine goesL_ (some 22) rfl rfl Try.func37 (by kernel_rfl) rfl #[.agg #[.slice Ao29 t20003.length co29, .slice Ao30 t20006.length co30], .slice Ao31 t20009.length co31] rfl (by (try simp only [List.map_toArray, List.map_cons, List.map_nil]); first | done | rfl | (simp only [List.length_drop, List.length_take]; rfl)) ?_; (with_reducible refine (spec_PlaceOf.calls k _ _ t20003 _ _ t20006 _ _ t20009 t20012 _ ?side1 ?side2 ?side3 ?side4 ?side5 ?side6 A12.out).mono ?_); (case side1 => repeat (first | exact (Kd.S_reads' HO20005.out).2.2 | (with_reducible refine Kd.C_alloc ?_ _) | (with_reducible refine Kd.C_drewN ?_ _) | (with_reducible refine Kd.C_drew ?_))); (case side2 => exact (Kd.S_reads' HO20005.out).2.1); (case side3 => repeat (first | exact (Kd.R_reads' HO20008.out).2.2 | (with_reducible refine Kd.C_alloc ?_ _) | (with_reducible refine Kd.C_drewN ?_ _) | (with_reducible refine Kd.C_drew ?_))); (case side4 => exact (Kd.R_reads' HO20008.out).2.1); (case side5 => repeat (first | exact (Kd.R_reads' HO20011.out).2.2 | (with_reducible refine Kd.C_alloc ?_ _) | (with_reducible refine Kd.C_drewN ?_ _) | (with_reducible refine Kd.C_drew ?_))); (case side6 => exact (Kd.R_reads' HO20011.out).2.1); rintro e w32 ⟨rfl, hb⟩; refine ⟨_, rfl, ?_⟩; have n0_ := Aside0.mk (Kd.S_below (by (with_reducible repeat (first | apply Kd.S_alloc | apply Kd.S_drewN | apply Kd.S_drew)); exact HO20005.out) hb); have n1_ := Aside0.mk (Kd.R_below (by (with_reducible repeat (first | apply Kd.R_alloc | apply Kd.R_drewN | apply Kd.R_drew)); exact HO20008.out) hb); have n2_ := Aside0.mk (Kd.R_below (by (with_reducible repeat (first | apply Kd.R_alloc | apply Kd.R_drewN | apply Kd.R_drew)); exact HO20011.out) hb); have n3_ := Aside0.mk (blk_below (g := gb20001) (o := .cells #[.slice A0_0 l0_0.length c0_0, .slice A0_1 l0_1.length c0_1] 36 (0, 0)) (by (with_reducible repeat (first | refine blk_drewN ?_ _ | refine blk_drew ?_ | refine blk_alloc ?_ _)); exact BK20001.out) hb); have n4_ := Aside0.mk (below_step (by repeat (first | (with_reducible first | exact HB.out | apply below_alloc | apply pw_below_drewN | apply below_drew1 | refine below_set ?_ GE20001.out) | exact HB.out)) hb); clear HO20005; clear HO20008; clear HO20011; clear BK20001; clear HB; have HO20005 := n0_; have HO20008 := n1_; have HO20011 := n2_; have BK20001 := n3_; have HB := n4_; clear n0_ n1_ n2_ n3_ n4_; (try clear hb); (try clear hb2); (try clear hk); (try clear hi); have hcz33_0 : w32.cell? ⟨gb20001, 0, none⟩ = some (.slice A0_0 l0_0.length c0_0) := (blk_cell BK20001.out 0).trans rfl; have hcz33_1 : w32.cell? ⟨gb20001, 1, none⟩ = some (.slice A0_1 l0_1.length c0_1) := (blk_cell BK20001.out 1).trans rfl; have hfz33_0 := blk_frozen BK20001.out 0; have hfz33_1 := blk_frozen BK20001.out 1) | ((with_reducible refine gate_callee (f := 32) rfl ?_); refine goesL_ (some 24) rfl rfl Try.func32 (by kernel_rfl) rfl #[.agg #[.slice A0_0 l0_0.length c0_0, .slice A0_1 l0_1.length c0_1]] rfl (by (try simp only [List.map_toArray, List.map_cons, List.map_nil]); first | done | rfl | (simp only [List.length_drop, List.length_take]; rfl)) ?_; (with_reducible refine (laws_toLayout.calls k _ _ l0_0 _ _ l0_1 t20013 t20016 _ ?side1 ?side2 ?side3 ?side4 A13.out).mono ?_); (case side1 => repeat (first | exact (Kd.C_below HR0_0.out HB.out) | (with_reducible refine Kd.C_alloc ?_ _) | (with_reducible refine Kd.C_drewN ?_ _) | (with_reducible refine Kd.C_drew ?_))); (case side2 => exact HC0_0.out); (case side3 => repeat (first | exact (Kd.C_below HR0_1.out HB.out) | (with_reducible refine Kd.C_alloc ?_ _) | (with_reducible refine Kd.C_drewN ?_ _) | (with_reducible refine Kd.C_drew ?_))); (case side4 => exact HC0_1.out); rintro e w34 ⟨v20014, v20017, rfl, ho0, ho1, hb⟩; refine ⟨_, rfl, ?_⟩; have n0_ := Aside0.mk (Kd.S_mono (Kd.S_told (Kd.S_told (Kd.S_old (by (with_reducible repeat (first | apply Kd.S_alloc | apply Kd.S_drewN | apply Kd.S_drew)); exact HO20005.out) hb) (Kd.S_base ho0)) (Kd.R_base ho1)) (fun _ h_ => h_.1)); have n1_ := Aside0.mk (Kd.R_elder' (by (with_reducible repeat (first | apply Kd.R_alloc | apply Kd.R_drewN | apply Kd.R_drew)); exact HO20008.out) (Kd.R_base ho1) hb); have n2_ := Aside0.mk (Kd.R_elder' (by (with_reducible repeat (first | apply Kd.R_alloc | apply Kd.R_drewN | apply Kd.R_drew)); exact HO20011.out) (Kd.R_base ho1) hb); have n3_ := Aside0.mk (Kd.S_lower (Kd.S_new' (Kd.S_new' (Kd.S_new' ho0 (Kd.S_lt (by (with_reducible repeat (first | apply Kd.S_alloc | apply Kd.S_drewN | apply Kd.S_drew)); exact HO20005.out))) (Kd.R_lt (by (with_reducible repeat (first | apply Kd.R_alloc | apply Kd.R_drewN | apply Kd.R_drew)); exact HO20008.out))) (Kd.R_lt (by (with_reducible repeat (first | apply Kd.R_alloc | apply Kd.R_drewN | apply Kd.R_drew)); exact HO20011.out))) (below_size (by repeat (first | (with_reducible first | exact HB.out | apply below_alloc | apply pw_below_drewN | apply below_drew1 | refine below_set ?_ GE20001.out) | exact HB.out)))); have n4_ := Aside0.mk (Kd.R_lower (Kd.R_new' (Kd.R_new' ho1 (Kd.R_lt (by (with_reducible repeat (first | apply Kd.R_alloc | apply Kd.R_drewN | apply Kd.R_drew)); exact HO20008.out))) (Kd.R_lt (by (with_reducible repeat (first | apply Kd.R_alloc | apply Kd.R_drewN | apply Kd.R_drew)); exact HO20011.out))) (below_size (by repeat (first | (with_reducible first | exact HB.out | apply below_alloc | apply pw_below_drewN | apply below_drew1 | refine below_set ?_ GE20001.out) | exact HB.out)))); have n5_ := Aside0.mk (blk_below (g := gb20001) (o := .cells #[.slice A0_0 l0_0.length c0_0, .slice A0_1 l0_1.length c0_1] 36 (0, 0)) (by (with_reducible repeat (first | refine blk_drewN ?_ _ | refine blk_drew ?_ | refine blk_alloc ?_ _)); exact BK20001.out) hb); have n6_ := Aside0.mk (below_step (by repeat (first | (with_reducible first | exact HB.out | apply below_alloc | apply pw_below_drewN | apply below_drew1 | refine below_set ?_ GE20001.out) | exact HB.out)) hb); clear HO20005; clear HO20008; clear HO20011; clear BK20001; clear HB; have HO20005 := n0_; have HO20008 := n1_; have HO20011 := n2_; have HO20015 := n3_; have HO20018 := n4_; have BK20001 := n5_; have HB := n6_; clear n0_ n1_ n2_ n3_ n4_ n5_ n6_; (try clear hb); (try clear hb2); (try clear hk); (try clear hi); (try clear ho0); (try clear ho1)) | ((with_reducible refine gate_dst (N := 7) rfl ?_); refine box_event ?hg (N := 7) ?hd (cs := #[.slice none 0 0, .slice none 0 0]) (t := 39) ?hr ?_; (case hd => rfl); (case hg => rfl); (case hr => first | (go_simp; done) | (go_simp; rfl)); intro gb20019 hg w35 hbox hb; have n0_ := Aside0.mk (Kd.S_below (by (with_reducible repeat (first | apply Kd.S_alloc | apply Kd.S_drewN | apply Kd.S_drew)); exact HO20005.out) hb); have n1_ := Aside0.mk (Kd.R_below (by (with_reducible repeat (first | apply Kd.R_alloc | apply Kd.R_drewN | apply Kd.R_drew)); exact HO20008.out) hb); have n2_ := Aside0.mk (Kd.R_below (by (with_reducible repeat (first | apply Kd.R_alloc | apply Kd.R_drewN | apply Kd.R_drew)); exact HO20011.out) hb); have n3_ := Aside0.mk (Kd.S_below (by (with_reducible repeat (first | apply Kd.S_alloc | apply Kd.S_drewN | apply Kd.S_drew)); exact HO20015.out) hb); have n4_ := Aside0.mk (Kd.R_below (by (with_reducible repeat (first | apply Kd.R_alloc | apply Kd.R_drewN | apply Kd.R_drew)); exact HO20018.out) hb); have n5_ := Aside0.mk (blk_below (g := gb20001) (o := .cells #[.slice A0_0 l0_0.length c0_0, .slice A0_1 l0_1.length c0_1] 36 (0, 0)) (by (with_reducible repeat (first | refine blk_drewN ?_ _ | refine blk_drew ?_ | refine blk_alloc ?_ _)); exact BK20001.out) hb); have n6_ := Aside0.mk (below_step (by repeat (first | (with_reducible first | exact HB.out | apply below_alloc | apply pw_below_drewN | apply below_drew1 | refine below_set ?_ GE20001.out) | exact HB.out)) hb); have n7_ := Aside0.mk (hbox); have n8_ := Aside0.mk ((by rw [hg]; exact (below_size (by repeat (first | (with_reducible first | exact HB.out | apply below_alloc | apply pw_below_drewN | apply below_drew1 | refine below_set ?_ GE20001.out) | exact HB.out))) : w.heap.size ≤ gb20019)); have n9_ := Aside0.mk ((by rw [hg]; exact (below_size (by repeat (first | (with_reducible first | exact HB.out | apply below_alloc | apply pw_below_drewN | apply below_drew1 | refine below_set ?_ GE20001.out) | exact HB.out))) : w.heap.size ≤ gb20019)); have n10_ := Aside0.mk ((by rw [hg]; exact Nat.ne_of_lt (blk_lt (g := gb20001) (o := .cells #[.slice A0_0 l0_0.length c0_0, .slice A0_1 l0_1.length c0_1] 36 (0, 0)) (by (with_reducible repeat (first | refine blk_drewN ?_ _ | refine blk_drew ?_ | refine blk_alloc ?_ _)); exact BK20001.out)) : gb20001 ≠ gb20019)); have n11_ := Aside0.mk ((by rw [hg]; exact Nat.ne_of_gt (blk_lt (g := gb20001) (o := .cells #[.slice A0_0 l0_0.length c0_0, .slice A0_1 l0_1.length c0_1] 36 (0, 0)) (by (with_reducible repeat (first | refine blk_drewN ?_ _ | refine blk_drew ?_ | refine blk_alloc ?_ _)); exact BK20001.out)) : gb20019 ≠ gb20001)); clear HO20005; clear HO20008; clear HO20011; clear HO20015; clear HO20018; clear BK20001; clear HB; have HO20005 := n0_; have HO20008 := n1_; have HO20011 := n2_; have HO20015 := n3_; have HO20018 := n4_; have BK20001 := n5_; have HB := n6_; have BK20019 := n7_; have GW20019 := n8_; have GE20019 := n9_; have NB20001_20019 := n10_; have NB20019_20001 := n11_; clear n0_ n1_ n2_ n3_ n4_ n5_ n6_ n7_ n8_ n9_ n10_ n11_; clear hb hbox hg; obtain ⟨Ao36, co36, eo36⟩ := Kd.S_slice HO20015.out; subst eo36; have hnb37 := NB20019_20001.out; have hnc37 := NB20001_20019.out; have hcz38_0 : w35.cell? ⟨gb20019, 0, none⟩ = some (.slice none 0 0) := (blk_cell BK20019.out 0).trans rfl; have hcz38_1 : w35.cell? ⟨gb20019, 1, none⟩ = some (.slice none 0 0) := (blk_cell BK20019.out 1).trans rfl; have hfz38_0 := blk_frozen BK20019.out 0; have hfz38_1 := blk_frozen BK20019.out 1; obtain ⟨Ao39, co39, eo39⟩ := Kd.R_slice HO20018.out; subst eo39) | ((with_reducible refine gate_callee (f := 11) rfl ?_); refine goesL_ (some 26) rfl rfl Try.func11 (by kernel_rfl) rfl #[.slice A1 l1.length c1] rfl (by (try simp only [List.map_toArray, List.map_cons, List.map_nil]); first | done | rfl | (simp only [List.length_drop, List.length_take]; rfl)) ?_; (with_reducible refine (laws_toIntS.calls k _ _ l1 t20020 _ ?side1 ?side2 A14.out).mono ?_); (case side1 => exact Kd.C_below HR1.out (by repeat (first | (with_reducible first | exact HB.out | apply below_alloc | apply pw_below_drewN | apply below_drew1 | refine below_set ?_ GE20001.out | refine below_set ?_ GE20019.out) | exact HB.out))); (case side2 => exact HC1.out); rintro e w40 ⟨v20021, rfl, ho0, hb⟩; refine ⟨_, rfl, ?_⟩; have n0_ := Aside0.mk (Kd.S_elder' (by (with_reducible repeat (first | apply Kd.S_alloc | apply Kd.S_drewN | apply Kd.S_drew)); exact (Kd.S_mono (Kd.S_far (p := ⟨gb20019, 1, none⟩) (Kd.S_far (p := ⟨gb20019, 0, none⟩) (Kd.S_types HO20005.out BK20019.out (by decide)) (fun _ hk => hk.2) (.slice Ao36 t20013.length co36)) (fun _ hk => hk.2) (.slice Ao39 t20016.length co39)) (fun _ h_ => h_.1))) (Kd.R_base ho0) hb); have n1_ := Aside0.mk (Kd.R_elder' (by (with_reducible repeat (first | apply Kd.R_alloc | apply Kd.R_drewN | apply Kd.R_drew)); exact (Kd.R_mono (Kd.R_far (p := ⟨gb20019, 1, none⟩) (Kd.R_far (p := ⟨gb20019, 0, none⟩) (Kd.R_types HO20008.out BK20019.out (by decide)) (fun _ hk => hk.2) (.slice Ao36 t20013.length co36)) (fun _ hk => hk.2) (.slice Ao39 t20016.length co39)) (fun _ h_ => h_.1))) (Kd.R_base ho0) hb); have n2_ := Aside0.mk (Kd.R_elder' (by (with_reducible repeat (first | apply Kd.R_alloc | apply Kd.R_drewN | apply Kd.R_drew)); exact (Kd.R_mono (Kd.R_far (p := ⟨gb20019, 1, none⟩) (Kd.R_far (p := ⟨gb20019, 0, none⟩) (Kd.R_types HO20011.out BK20019.out (by decide)) (fun _ hk => hk.2) (.slice Ao36 t20013.length co36)) (fun _ hk => hk.2) (.slice Ao39 t20016.length co39)) (fun _ h_ => h_.1))) (Kd.R_base ho0) hb); have n3_ := Aside0.mk (Kd.S_elder' (by (with_reducible repeat (first | apply Kd.S_alloc | apply Kd.S_drewN | apply Kd.S_drew)); exact (Kd.S_mono (Kd.S_far (p := ⟨gb20019, 1, none⟩) (Kd.S_far (p := ⟨gb20019, 0, none⟩) (Kd.S_types HO20015.out BK20019.out (by decide)) (fun _ hk => hk.2) (.slice Ao36 t20013.length co36)) (fun _ hk => hk.2) (.slice Ao39 t20016.length co39)) (fun _ h_ => h_.1))) (Kd.R_base ho0) hb); have n4_ := Aside0.mk (Kd.R_elder' (by (with_reducible repeat (first | apply Kd.R_alloc | apply Kd.R_drewN | apply Kd.R_drew)); exact (Kd.R_mono (Kd.R_far (p := ⟨gb20019, 1, none⟩) (Kd.R_far (p := ⟨gb20019, 0, none⟩) (Kd.R_types HO20018.out BK20019.out (by decide)) (fun _ hk => hk.2) (.slice Ao36 t20013.length co36)) (fun _ hk => hk.2) (.slice Ao39 t20016.length co39)) (fun _ h_ => h_.1))) (Kd.R_base ho0) hb); have n5_ := Aside0.mk (Kd.R_lower (Kd.R_new' (Kd.R_new' (Kd.R_new' ho0 (Kd.R_lt (by (with_reducible repeat (first | apply Kd.R_alloc | apply Kd.R_drewN | apply Kd.R_drew)); exact (Kd.R_mono (Kd.R_far (p := ⟨gb20019, 1, none⟩) (Kd.R_far (p := ⟨gb20019, 0, none⟩) (Kd.R_types HO20008.out BK20019.out (by decide)) (fun _ hk => hk.2) (.slice Ao36 t20013.length co36)) (fun _ hk => hk.2) (.slice Ao39 t20016.length co39)) (fun _ h_ => h_.1))))) (Kd.R_lt (by (with_reducible repeat (first | apply Kd.R_alloc | apply Kd.R_drewN | apply Kd.R_drew)); exact (Kd.R_mono (Kd.R_far (p := ⟨gb20019, 1, none⟩) (Kd.R_far (p := ⟨gb20019, 0, none⟩) (Kd.R_types HO20011.out BK20019.out (by decide)) (fun _ hk => hk.2) (.slice Ao36 t20013.length co36)) (fun _ hk => hk.2) (.slice Ao39 t20016.length co39)) (fun _ h_ => h_.1))))) (Kd.R_lt (by (with_reducible repeat (first | apply Kd.R_alloc | apply Kd.R_drewN | apply Kd.R_drew)); exact (Kd.R_mono (Kd.R_far (p := ⟨gb20019, 1, none⟩) (Kd.R_far (p := ⟨gb20019, 0, none⟩) (Kd.R_types HO20018.out BK20019.out (by decide)) (fun _ hk => hk.2) (.slice Ao36 t20013.length co36)) (fun _ hk => hk.2) (.slice Ao39 t20016.length co39)) (fun _ h_ => h_.1))))) (below_size (by repeat (first | (with_reducible first | exact HB.out | apply below_alloc | apply pw_below_drewN | apply below_drew1 | refine below_set ?_ GE20001.out | refine below_set ?_ GE20019.out) | exact HB.out)))); have n6_ := Aside0.mk (blk_below (g := gb20001) (o := .cells #[.slice A0_0 l0_0.length c0_0, .slice A0_1 l0_1.length c0_1] 36 (0, 0)) (by (with_reducible repeat (first | refine blk_drewN ?_ _ | refine blk_drew ?_ | refine blk_alloc ?_ _)); refine blk_far ?_ NB20001_20019.out _; (with_reducible repeat (first | refine blk_drewN ?_ _ | refine blk_drew ?_ | refine blk_alloc ?_ _)); refine blk_far ?_ NB20001_20019.out _; (with_reducible repeat (first | refine blk_drewN ?_ _ | refine blk_drew ?_ | refine blk_alloc ?_ _)); exact BK20001.out) hb); have n7_ := Aside0.mk (blk_below (g := gb20019) (o := .cells #[.slice Ao36 t20013.length co36, .slice Ao39 t20016.length co39] 39 (0, 0)) (by (with_reducible repeat (first | refine blk_drewN ?_ _ | refine blk_drew ?_ | refine blk_alloc ?_ _)); refine blk_put (cs := #[.slice Ao36 t20013.length co36, .slice none 0 0]) ?_ 1 _ rfl; (with_reducible repeat (first | refine blk_drewN ?_ _ | refine blk_drew ?_ | refine blk_alloc ?_ _)); refine blk_put (cs := #[.slice none 0 0, .slice none 0 0]) ?_ 0 _ rfl; (with_reducible repeat (first | refine blk_drewN ?_ _ | refine blk_drew ?_ | refine blk_alloc ?_ _)); exact BK20019.out) hb); have n8_ := Aside0.mk (below_step (by repeat (first | (with_reducible first | exact HB.out | apply below_alloc | apply pw_below_drewN | apply below_drew1 | refine below_set ?_ GE20001.out | refine below_set ?_ GE20019.out) | exact HB.out)) hb); clear HO20005; clear HO20008; clear HO20011; clear HO20015; clear HO20018; clear BK20001; clear BK20019; clear HB; have HO20005 := n0_; have HO20008 := n1_; have HO20011 := n2_; have HO20015 := n3_; have HO20018 := n4_; have HO20022 := n5_; have BK20001 := n6_; have BK20019 := n7_; have HB := n8_; clear n0_ n1_ n2_ n3_ n4_ n5_ n6_ n7_ n8_; (try clear hb); (try clear hb2); (try clear hk); (try clear hi); (try clear ho0); have hcz41_0 : w40.cell? ⟨gb20019, 0, none⟩ = some (.slice Ao36 t20013.length co36) := (blk_cell BK20019.out 0).trans rfl; have hcz41_1 : w40.cell? ⟨gb20019, 1, none⟩ = some (.slice Ao39 t20016.length co39) := (blk_cell BK20019.out 1).trans rfl; have hfz41_0 := blk_frozen BK20019.out 0; have hfz41_1 := blk_frozen BK20019.out 1; obtain ⟨Ao42, co42, eo42⟩ := Kd.R_slice HO20022.out; subst eo42) | ((with_reducible refine gate_callee (f := 38) rfl ?_); refine goesL_ (some 29) rfl rfl Try.func38 (by kernel_rfl) rfl #[.agg #[.slice Ao36 t20013.length co36, .slice Ao39 t20016.length co39], .slice Ao42 t20020.length co42] rfl (by (try simp only [List.map_toArray, List.map_cons, List.map_nil]); first | done | rfl | (simp only [List.length_drop, List.length_take]; rfl)) ?_; (with_reducible refine (impl_PlaceOf.calls k _ _ t20013 _ _ t20016 _ _ t20020 t20023 _ ?side1 ?side2 ?side3 ?side4 ?side5 ?side6 A15.out).mono ?_); (case side1 => repeat (first | exact (Kd.S_reads' HO20015.out).2.2 | (with_reducible refine Kd.C_alloc ?_ _) | (with_reducible refine Kd.C_drewN ?_ _) | (with_reducible refine Kd.C_drew ?_))); (case side2 => exact (Kd.S_reads' HO20015.out).2.1); (case side3 => repeat (first | exact (Kd.R_reads' HO20018.out).2.2 | (with_reducible refine Kd.C_alloc ?_ _) | (with_reducible refine Kd.C_drewN ?_ _) | (with_reducible refine Kd.C_drew ?_))); (case side4 => exact (Kd.R_reads' HO20018.out).2.1); (case side5 => repeat (first | exact (Kd.R_reads' HO20022.out).2.2 | (with_reducible refine Kd.C_alloc ?_ _) | (with_reducible refine Kd.C_drewN ?_ _) | (with_reducible refine Kd.C_drew ?_))); (case side6 => exact (Kd.R_reads' HO20022.out).2.1); rintro e w43 ⟨rfl, hb⟩; refine ⟨_, rfl, ?_⟩; have n0_ := Aside0.mk (Kd.S_below (by (with_reducible repeat (first | apply Kd.S_alloc | apply Kd.S_drewN | apply Kd.S_drew)); exact HO20005.out) hb); have n1_ := Aside0.mk (Kd.R_below (by (with_reducible repeat (first | apply Kd.R_alloc | apply Kd.R_drewN | apply Kd.R_drew)); exact HO20008.out) hb); have n2_ := Aside0.mk (Kd.R_below (by (with_reducible repeat (first | apply Kd.R_alloc | apply Kd.R_drewN | apply Kd.R_drew)); exact HO20011.out) hb); have n3_ := Aside0.mk (Kd.S_below (by (with_reducible repeat (first | apply Kd.S_alloc | apply Kd.S_drewN | apply Kd.S_drew)); exact HO20015.out) hb); have n4_ := Aside0.mk (Kd.R_below (by (with_reducible repeat (first | apply Kd.R_alloc | apply Kd.R_drewN | apply Kd.R_drew)); exact HO20018.out) hb); have n5_ := Aside0.mk (Kd.R_below (by (with_reducible repeat (first | apply Kd.R_alloc | apply Kd.R_drewN | apply Kd.R_drew)); exact HO20022.out) hb); have n6_ := Aside0.mk (blk_below (g := gb20001) (o := .cells #[.slice A0_0 l0_0.length c0_0, .slice A0_1 l0_1.length c0_1] 36 (0, 0)) (by (with_reducible repeat (first | refine blk_drewN ?_ _ | refine blk_drew ?_ | refine blk_alloc ?_ _)); exact BK20001.out) hb); have n7_ := Aside0.mk (blk_below (g := gb20019) (o := .cells #[.slice Ao36 t20013.length co36, .slice Ao39 t20016.length co39] 39 (0, 0)) (by (with_reducible repeat (first | refine blk_drewN ?_ _ | refine blk_drew ?_ | refine blk_alloc ?_ _)); exact BK20019.out) hb); have n8_ := Aside0.mk (below_step (by repeat (first | (with_reducible first | exact HB.out | apply below_alloc | apply pw_below_drewN | apply below_drew1 | refine below_set ?_ GE20001.out | refine below_set ?_ GE20019.out) | exact HB.out)) hb); clear HO20005; clear HO20008; clear HO20011; clear HO20015; clear HO20018; clear HO20022; clear BK20001; clear BK20019; clear HB; have HO20005 := n0_; have HO20008 := n1_; have HO20011 := n2_; have HO20015 := n3_; have HO20018 := n4_; have HO20022 := n5_; have BK20001 := n6_; have BK20019 := n7_; have HB := n8_; clear n0_ n1_ n2_ n3_ n4_ n5_ n6_ n7_ n8_; (try clear hb); (try clear hb2); (try clear hk); (try clear hi)))
            have n0_ := Aside0.mk (Kd.S_drew HO20005.out)
            have n1_ := Aside0.mk (Kd.R_drew HO20008.out)
            have n2_ := Aside0.mk (Kd.R_drew HO20011.out)
            have n3_ := Aside0.mk (Kd.S_drew HO20015.out)
            have n4_ := Aside0.mk (Kd.R_drew HO20018.out)
            have n5_ := Aside0.mk (Kd.R_drew HO20022.out)
            have n6_ := Aside0.mk (blk_drew BK20001.out)
            have n7_ := Aside0.mk (blk_drew BK20019.out)
            have n8_ := Aside0.mk (below_drew1 HB.out)
            clear HO20005
            clear HO20008
            clear HO20011
            clear HO20015
            clear HO20018
            clear HO20022
            clear BK20001
            clear BK20019
            clear HB
            have HO20005 := n0_
            have HO20008 := n1_
            have HO20011 := n2_
            have HO20015 := n3_
            have HO20018 := n4_
            have HO20022 := n5_
            have BK20001 := n6_
            have BK20019 := n7_
            have HB := n8_
            clear n0_ n1_ n2_ n3_ n4_ n5_ n6_ n7_ n8_
            refine start_ (n := 5) (S := fun w' => w'.cell? ⟨gb20019, 0, none⟩ = some (.slice Ao36 t20013.length co36) ∧ w'.cell? ⟨gb20019, 1, none⟩ = some (.slice Ao39 t20016.length co39) ∧ w'.cell? ⟨gb20001, 0, none⟩ = some (.slice A0_0 l0_0.length c0_0) ∧ w'.cell? ⟨gb20001, 1, none⟩ = some (.slice A0_1 l0_1.length c0_1)) (ds := []) #[false, false, false, false, false] (by kernel_rfl) rfl rfl ⟨(blk_cell BK20019.out 0).trans rfl, (blk_cell BK20019.out 1).trans rfl, (blk_cell BK20001.out 0).trans rfl, (blk_cell BK20001.out 1).trans rfl⟩ (fun hHeld => ?_)
            generalize w43.drew = w44 at HO20005 HO20008 HO20011 HO20015 HO20018 HO20022 BK20001 BK20019 HB hHeld ⊢
            refine take_ (i := 0) (N := some 33) (v := ?_) (a' := ?_) #[true, false, false, false, false] rfl rfl (by kernel_rfl) (fun _ _ _ h => h) (Or.inl ⟨by rfl, ?_⟩) hHeld ?_ ?_
            rotate_left
            · rintro w' ⟨s0, s1, s2, s3⟩
              go_simp
              with_reducible rfl
            rotate_left
            · simp only [Act.put, List.setIfInBounds_toArray, List.set_cons_zero, List.set_cons_succ, i64_w, i32_w]
              rfl
            refine take_ (i := 1) (N := some 34) (v := ?_) (a' := ?_) #[true, true, false, false, false] rfl rfl (by kernel_rfl) (fun _ _ _ h => h) (Or.inl ⟨by rfl, ?_⟩) hHeld ?_ ?_
            rotate_left
            · rintro w' ⟨s0, s1, s2, s3⟩
              go_simp
              with_reducible rfl
            rotate_left
            · simp only [Act.put, List.setIfInBounds_toArray, List.set_cons_zero, List.set_cons_succ, i64_w, i32_w]
              rfl
            refine one_ (i := 2) (N := some 35) #[true, true, true, false, false] rfl rfl (by kernel_rfl) (by decide) (fun K hK => ?_)
            refine goes_ Try.func32 (by kernel_rfl) rfl #[.agg #[.slice A0_0 l0_0.length c0_0, .slice A0_1 l0_1.length c0_1]] (by rfl) rfl rfl (by (try simp only [List.map_toArray, List.map_cons, List.map_nil]); first | done | rfl | (simp only [List.length_drop, List.length_take]; rfl)) ?_
            with_reducible refine (laws_toLayout.calls k _ _ l0_0 _ _ l0_1 t20024 t20027 _ ?side1 ?side2 ?side3 ?side4 A17.out).mono ?_
            (case side1 => repeat (first | exact (Kd.C_below HR0_0.out HB.out) | (with_reducible refine Kd.C_alloc ?_ _) | (with_reducible refine Kd.C_drewN ?_ _) | (with_reducible refine Kd.C_drew ?_)))
            (case side2 => exact HC0_0.out)
            (case side3 => repeat (first | exact (Kd.C_below HR0_1.out HB.out) | (with_reducible refine Kd.C_alloc ?_ _) | (with_reducible refine Kd.C_drewN ?_ _) | (with_reducible refine Kd.C_drew ?_)))
            (case side4 => exact HC0_1.out)
            rintro e w45 ⟨v20025, v20028, rfl, ho0, ho1, hb⟩
            refine ⟨_, rfl, ?_⟩
            have n0_ := Aside0.mk (Kd.S_mono (Kd.S_told (Kd.S_told (Kd.S_old (by (with_reducible repeat (first | apply Kd.S_alloc | apply Kd.S_drewN | apply Kd.S_drew)); exact HO20005.out) hb) (Kd.S_base ho0)) (Kd.R_base ho1)) (fun _ h_ => h_.1))
            have n1_ := Aside0.mk (Kd.R_elder' (by (with_reducible repeat (first | apply Kd.R_alloc | apply Kd.R_drewN | apply Kd.R_drew)); exact HO20008.out) (Kd.R_base ho1) hb)
            have n2_ := Aside0.mk (Kd.R_elder' (by (with_reducible repeat (first | apply Kd.R_alloc | apply Kd.R_drewN | apply Kd.R_drew)); exact HO20011.out) (Kd.R_base ho1) hb)
            have n3_ := Aside0.mk (Kd.S_mono (Kd.S_told (Kd.S_told (Kd.S_old (by (with_reducible repeat (first | apply Kd.S_alloc | apply Kd.S_drewN | apply Kd.S_drew)); exact HO20015.out) hb) (Kd.S_base ho0)) (Kd.R_base ho1)) (fun _ h_ => h_.1))
            have n4_ := Aside0.mk (Kd.R_elder' (by (with_reducible repeat (first | apply Kd.R_alloc | apply Kd.R_drewN | apply Kd.R_drew)); exact HO20018.out) (Kd.R_base ho1) hb)
            have n5_ := Aside0.mk (Kd.R_elder' (by (with_reducible repeat (first | apply Kd.R_alloc | apply Kd.R_drewN | apply Kd.R_drew)); exact HO20022.out) (Kd.R_base ho1) hb)
            have n6_ := Aside0.mk (Kd.S_lower (Kd.S_new' (Kd.S_new' (Kd.S_new' (Kd.S_new' (Kd.S_new' (Kd.S_new' ho0 (Kd.S_lt (by (with_reducible repeat (first | apply Kd.S_alloc | apply Kd.S_drewN | apply Kd.S_drew)); exact HO20005.out))) (Kd.R_lt (by (with_reducible repeat (first | apply Kd.R_alloc | apply Kd.R_drewN | apply Kd.R_drew)); exact HO20008.out))) (Kd.R_lt (by (with_reducible repeat (first | apply Kd.R_alloc | apply Kd.R_drewN | apply Kd.R_drew)); exact HO20011.out))) (Kd.S_lt (by (with_reducible repeat (first | apply Kd.S_alloc | apply Kd.S_drewN | apply Kd.S_drew)); exact HO20015.out))) (Kd.R_lt (by (with_reducible repeat (first | apply Kd.R_alloc | apply Kd.R_drewN | apply Kd.R_drew)); exact HO20018.out))) (Kd.R_lt (by (with_reducible repeat (first | apply Kd.R_alloc | apply Kd.R_drewN | apply Kd.R_drew)); exact HO20022.out))) (below_size (by repeat (first | (with_reducible first | exact HB.out | apply below_alloc | apply pw_below_drewN | apply below_drew1 | refine below_set ?_ GE20001.out | refine below_set ?_ GE20019.out) | exact HB.out))))
            have n7_ := Aside0.mk (Kd.R_lower (Kd.R_new' (Kd.R_new' (Kd.R_new' (Kd.R_new' ho1 (Kd.R_lt (by (with_reducible repeat (first | apply Kd.R_alloc | apply Kd.R_drewN | apply Kd.R_drew)); exact HO20008.out))) (Kd.R_lt (by (with_reducible repeat (first | apply Kd.R_alloc | apply Kd.R_drewN | apply Kd.R_drew)); exact HO20011.out))) (Kd.R_lt (by (with_reducible repeat (first | apply Kd.R_alloc | apply Kd.R_drewN | apply Kd.R_drew)); exact HO20018.out))) (Kd.R_lt (by (with_reducible repeat (first | apply Kd.R_alloc | apply Kd.R_drewN | apply Kd.R_drew)); exact HO20022.out))) (below_size (by repeat (first | (with_reducible first | exact HB.out | apply below_alloc | apply pw_below_drewN | apply below_drew1 | refine below_set ?_ GE20001.out | refine below_set ?_ GE20019.out) | exact HB.out))))
            have n8_ := Aside0.mk (blk_below (g := gb20001) (o := .cells #[.slice A0_0 l0_0.length c0_0, .slice A0_1 l0_1.length c0_1] 36 (0, 0)) (by (with_reducible repeat (first | refine blk_drewN ?_ _ | refine blk_drew ?_ | refine blk_alloc ?_ _)); exact BK20001.out) hb)
            have n9_ := Aside0.mk (blk_below (g := gb20019) (o := .cells #[.slice Ao36 t20013.length co36, .slice Ao39 t20016.length co39] 39 (0, 0)) (by (with_reducible repeat (first | refine blk_drewN ?_ _ | refine blk_drew ?_ | refine blk_alloc ?_ _)); exact BK20019.out) hb)
            have n10_ := Aside0.mk (below_step (by repeat (first | (with_reducible first | exact HB.out | apply below_alloc | apply pw_below_drewN | apply below_drew1 | refine below_set ?_ GE20001.out | refine below_set ?_ GE20019.out) | exact HB.out)) hb)
            clear HO20005
            clear HO20008
            clear HO20011
            clear HO20015
            clear HO20018
            clear HO20022
            clear BK20001
            clear BK20019
            clear HB
            have HO20005 := n0_
            have HO20008 := n1_
            have HO20011 := n2_
            have HO20015 := n3_
            have HO20018 := n4_
            have HO20022 := n5_
            have HO20026 := n6_
            have HO20029 := n7_
            have BK20001 := n8_
            have BK20019 := n9_
            have HB := n10_
            clear n0_ n1_ n2_ n3_ n4_ n5_ n6_ n7_ n8_ n9_ n10_
            (try clear hb)
            (try clear hb2)
            (try clear hk)
            (try clear hi)
            (try clear ho0)
            (try clear ho1)
            obtain ⟨Ao46, co46, eo46⟩ := Kd.S_slice HO20026.out
            (first | subst eo46 | (injection eo46 with f1_ f2_ f3_; have f4_ := f1_.symm; have f5_ := f3_.symm; clear f1_ f2_ f3_; subst f4_; subst f5_))
            obtain ⟨Ao47, co47, eo47⟩ := Kd.R_slice HO20029.out
            (first | subst eo47 | (injection eo47 with f1_ f2_ f3_; have f4_ := f1_.symm; have f5_ := f3_.symm; clear f1_ f2_ f3_; subst f4_; subst f5_))
            refine hK.out _ _ ⟨(blk_cell BK20019.out 0).trans rfl, (blk_cell BK20019.out 1).trans rfl, (blk_cell BK20001.out 0).trans rfl, (blk_cell BK20001.out 1).trans rfl⟩ (fun hHeld => ?_)
            clear hK K
            refine norm_ (a' := ?_) ?_ ?_
            rotate_left
            · show Act.put _ (some 35) _ = _
              simp only [Act.put, List.setIfInBounds_toArray, List.set_cons_zero, List.set_cons_succ, i64_w, i32_w]
              rfl
            refine one_ (i := 3) (N := some 36) #[true, true, true, true, false] rfl rfl (by kernel_rfl) (by decide) (fun K hK => ?_)
            refine goes_ Try.func34 (by kernel_rfl) rfl #[.agg #[.slice Ao36 t20013.length co36, .slice Ao39 t20016.length co39], .agg #[.slice Ao46 t20024.length co46, .slice Ao47 t20027.length co47]] (by rfl) rfl rfl (by (try simp only [List.map_toArray, List.map_cons, List.map_nil]); first | done | rfl | (simp only [List.length_drop, List.length_take]; rfl)) ?_
            with_reducible refine (laws_eqLayout.calls k _ _ t20013 _ _ t20016 _ _ t20024 _ _ t20027 true _ ?side1 ?side2 ?side3 ?side4 ?side5 ?side6 ?side7 ?side8 A18.out).mono ?_
            (case side1 => repeat (first | exact (Kd.S_reads' HO20015.out).2.2 | (with_reducible refine Kd.C_alloc ?_ _) | (with_reducible refine Kd.C_drewN ?_ _) | (with_reducible refine Kd.C_drew ?_)))
            (case side2 => exact (Kd.S_reads' HO20015.out).2.1)
            (case side3 => repeat (first | exact (Kd.R_reads' HO20018.out).2.2 | (with_reducible refine Kd.C_alloc ?_ _) | (with_reducible refine Kd.C_drewN ?_ _) | (with_reducible refine Kd.C_drew ?_)))
            (case side4 => exact (Kd.R_reads' HO20018.out).2.1)
            (case side5 => repeat (first | exact (Kd.S_reads' HO20026.out).2.2 | (with_reducible refine Kd.C_alloc ?_ _) | (with_reducible refine Kd.C_drewN ?_ _) | (with_reducible refine Kd.C_drew ?_)))
            (case side6 => exact (Kd.S_reads' HO20026.out).2.1)
            (case side7 => repeat (first | exact (Kd.R_reads' HO20029.out).2.2 | (with_reducible refine Kd.C_alloc ?_ _) | (with_reducible refine Kd.C_drewN ?_ _) | (with_reducible refine Kd.C_drew ?_)))
            (case side8 => exact (Kd.R_reads' HO20029.out).2.1)
            rintro e w48 ⟨rfl, hb⟩
            refine ⟨_, rfl, ?_⟩
            have n0_ := Aside0.mk (Kd.S_below (by (with_reducible repeat (first | apply Kd.S_alloc | apply Kd.S_drewN | apply Kd.S_drew)); exact HO20005.out) hb)
            have n1_ := Aside0.mk (Kd.R_below (by (with_reducible repeat (first | apply Kd.R_alloc | apply Kd.R_drewN | apply Kd.R_drew)); exact HO20008.out) hb)
            have n2_ := Aside0.mk (Kd.R_below (by (with_reducible repeat (first | apply Kd.R_alloc | apply Kd.R_drewN | apply Kd.R_drew)); exact HO20011.out) hb)
            have n3_ := Aside0.mk (Kd.S_below (by (with_reducible repeat (first | apply Kd.S_alloc | apply Kd.S_drewN | apply Kd.S_drew)); exact HO20015.out) hb)
            have n4_ := Aside0.mk (Kd.R_below (by (with_reducible repeat (first | apply Kd.R_alloc | apply Kd.R_drewN | apply Kd.R_drew)); exact HO20018.out) hb)
            have n5_ := Aside0.mk (Kd.R_below (by (with_reducible repeat (first | apply Kd.R_alloc | apply Kd.R_drewN | apply Kd.R_drew)); exact HO20022.out) hb)
            have n6_ := Aside0.mk (Kd.S_below (by (with_reducible repeat (first | apply Kd.S_alloc | apply Kd.S_drewN | apply Kd.S_drew)); exact HO20026.out) hb)
            have n7_ := Aside0.mk (Kd.R_below (by (with_reducible repeat (first | apply Kd.R_alloc | apply Kd.R_drewN | apply Kd.R_drew)); exact HO20029.out) hb)
            have n8_ := Aside0.mk (blk_below (g := gb20001) (o := .cells #[.slice A0_0 l0_0.length c0_0, .slice A0_1 l0_1.length c0_1] 36 (0, 0)) (by (with_reducible repeat (first | refine blk_drewN ?_ _ | refine blk_drew ?_ | refine blk_alloc ?_ _)); exact BK20001.out) hb)
            have n9_ := Aside0.mk (blk_below (g := gb20019) (o := .cells #[.slice Ao36 t20013.length co36, .slice Ao39 t20016.length co39] 39 (0, 0)) (by (with_reducible repeat (first | refine blk_drewN ?_ _ | refine blk_drew ?_ | refine blk_alloc ?_ _)); exact BK20019.out) hb)
            have n10_ := Aside0.mk (below_step (by repeat (first | (with_reducible first | exact HB.out | apply below_alloc | apply pw_below_drewN | apply below_drew1 | refine below_set ?_ GE20001.out | refine below_set ?_ GE20019.out) | exact HB.out)) hb)
            clear HO20005
            clear HO20008
            clear HO20011
            clear HO20015
            clear HO20018
            clear HO20022
            clear HO20026
            clear HO20029
            clear BK20001
            clear BK20019
            clear HB
            have HO20005 := n0_
            have HO20008 := n1_
            have HO20011 := n2_
            have HO20015 := n3_
            have HO20018 := n4_
            have HO20022 := n5_
            have HO20026 := n6_
            have HO20029 := n7_
            have BK20001 := n8_
            have BK20019 := n9_
            have HB := n10_
            clear n0_ n1_ n2_ n3_ n4_ n5_ n6_ n7_ n8_ n9_ n10_
            (try clear hb)
            (try clear hb2)
            (try clear hk)
            (try clear hi)
            refine hK.out _ _ ⟨(blk_cell BK20019.out 0).trans rfl, (blk_cell BK20019.out 1).trans rfl, (blk_cell BK20001.out 0).trans rfl, (blk_cell BK20001.out 1).trans rfl⟩ (fun hHeld => ?_)
            clear hK K
            refine norm_ (a' := ?_) ?_ ?_
            rotate_left
            · show Act.put _ (some 36) _ = _
              simp only [Act.put, List.setIfInBounds_toArray, List.set_cons_zero, List.set_cons_succ, i64_w, i32_w]
              rfl
            refine pure_ (i := 4) (N := some 37) (v := ?_) (a' := ?_) #[true, true, true, true, true] rfl rfl (by kernel_rfl) (fun _ _ _ h => h) (Or.inl ⟨by rfl, ?_⟩) ?_ ?_
            rotate_left
            · intro w'
              go_simp
              with_reducible rfl
            rotate_left
            · simp only [Act.put, List.setIfInBounds_toArray, List.set_cons_zero, List.set_cons_succ, i64_w, i32_w]
              rfl
            refine done_ (by kernel_rfl) ?_
            try go_wp2_with (first | ((with_reducible refine gate_callee (f := 11) rfl ?_); refine goesL_ (some 40) rfl rfl Try.func11 (by kernel_rfl) rfl #[.slice A1 l1.length c1] rfl (by (try simp only [List.map_toArray, List.map_cons, List.map_nil]); first | done | rfl | (simp only [List.length_drop, List.length_take]; rfl)) ?_; (with_reducible refine (laws_toIntS.calls k _ _ l1 t20031 _ ?side1 ?side2 A20.out).mono ?_); (case side1 => repeat (first | exact (Kd.C_below HR1.out HB.out) | (with_reducible refine Kd.C_alloc ?_ _) | (with_reducible refine Kd.C_drewN ?_ _) | (with_reducible refine Kd.C_drew ?_))); (case side2 => exact HC1.out); rintro e w49 ⟨v20032, rfl, ho0, hb⟩; refine ⟨_, rfl, ?_⟩; have n0_ := Aside0.mk (Kd.S_elder' (by (with_reducible repeat (first | apply Kd.S_alloc | apply Kd.S_drewN | apply Kd.S_drew)); exact HO20005.out) (Kd.R_base ho0) hb); have n1_ := Aside0.mk (Kd.R_elder' (by (with_reducible repeat (first | apply Kd.R_alloc | apply Kd.R_drewN | apply Kd.R_drew)); exact HO20008.out) (Kd.R_base ho0) hb); have n2_ := Aside0.mk (Kd.R_elder' (by (with_reducible repeat (first | apply Kd.R_alloc | apply Kd.R_drewN | apply Kd.R_drew)); exact HO20011.out) (Kd.R_base ho0) hb); have n3_ := Aside0.mk (Kd.S_elder' (by (with_reducible repeat (first | apply Kd.S_alloc | apply Kd.S_drewN | apply Kd.S_drew)); exact HO20015.out) (Kd.R_base ho0) hb); have n4_ := Aside0.mk (Kd.R_elder' (by (with_reducible repeat (first | apply Kd.R_alloc | apply Kd.R_drewN | apply Kd.R_drew)); exact HO20018.out) (Kd.R_base ho0) hb); have n5_ := Aside0.mk (Kd.R_elder' (by (with_reducible repeat (first | apply Kd.R_alloc | apply Kd.R_drewN | apply Kd.R_drew)); exact HO20022.out) (Kd.R_base ho0) hb); have n6_ := Aside0.mk (Kd.S_elder' (by (with_reducible repeat (first | apply Kd.S_alloc | apply Kd.S_drewN | apply Kd.S_drew)); exact HO20026.out) (Kd.R_base ho0) hb); have n7_ := Aside0.mk (Kd.R_elder' (by (with_reducible repeat (first | apply Kd.R_alloc | apply Kd.R_drewN | apply Kd.R_drew)); exact HO20029.out) (Kd.R_base ho0) hb); have n8_ := Aside0.mk (Kd.R_lower (Kd.R_new' (Kd.R_new' (Kd.R_new' (Kd.R_new' (Kd.R_new' ho0 (Kd.R_lt (by (with_reducible repeat (first | apply Kd.R_alloc | apply Kd.R_drewN | apply Kd.R_drew)); exact HO20008.out))) (Kd.R_lt (by (with_reducible repeat (first | apply Kd.R_alloc | apply Kd.R_drewN | apply Kd.R_drew)); exact HO20011.out))) (Kd.R_lt (by (with_reducible repeat (first | apply Kd.R_alloc | apply Kd.R_drewN | apply Kd.R_drew)); exact HO20018.out))) (Kd.R_lt (by (with_reducible repeat (first | apply Kd.R_alloc | apply Kd.R_drewN | apply Kd.R_drew)); exact HO20022.out))) (Kd.R_lt (by (with_reducible repeat (first | apply Kd.R_alloc | apply Kd.R_drewN | apply Kd.R_drew)); exact HO20029.out))) (below_size (by repeat (first | (with_reducible first | exact HB.out | apply below_alloc | apply pw_below_drewN | apply below_drew1 | refine below_set ?_ GE20001.out | refine below_set ?_ GE20019.out) | exact HB.out)))); have n9_ := Aside0.mk (blk_below (g := gb20001) (o := .cells #[.slice A0_0 l0_0.length c0_0, .slice A0_1 l0_1.length c0_1] 36 (0, 0)) (by (with_reducible repeat (first | refine blk_drewN ?_ _ | refine blk_drew ?_ | refine blk_alloc ?_ _)); exact BK20001.out) hb); have n10_ := Aside0.mk (blk_below (g := gb20019) (o := .cells #[.slice Ao36 t20013.length co36, .slice Ao39 t20016.length co39] 39 (0, 0)) (by (with_reducible repeat (first | refine blk_drewN ?_ _ | refine blk_drew ?_ | refine blk_alloc ?_ _)); exact BK20019.out) hb); have n11_ := Aside0.mk (below_step (by repeat (first | (with_reducible first | exact HB.out | apply below_alloc | apply pw_below_drewN | apply below_drew1 | refine below_set ?_ GE20001.out | refine below_set ?_ GE20019.out) | exact HB.out)) hb); clear HO20005; clear HO20008; clear HO20011; clear HO20015; clear HO20018; clear HO20022; clear HO20026; clear HO20029; clear BK20001; clear BK20019; clear HB; have HO20005 := n0_; have HO20008 := n1_; have HO20011 := n2_; have HO20015 := n3_; have HO20018 := n4_; have HO20022 := n5_; have HO20026 := n6_; have HO20029 := n7_; have HO20033 := n8_; have BK20001 := n9_; have BK20019 := n10_; have HB := n11_; clear n0_ n1_ n2_ n3_ n4_ n5_ n6_ n7_ n8_ n9_ n10_ n11_; (try clear hb); (try clear hb2); (try clear hk); (try clear hi); (try clear ho0); obtain ⟨Ao50, co50, eo50⟩ := Kd.R_slice HO20033.out; subst eo50) | ((with_reducible refine gate_callee (f := 13) rfl ?_); refine goesL_ (some 41) rfl rfl Try.func13 (by kernel_rfl) rfl #[.slice Ao42 t20020.length co42, .slice Ao50 t20031.length co50] rfl (by (try simp only [List.map_toArray, List.map_cons, List.map_nil]); first | done | rfl | (simp only [List.length_drop, List.length_take]; rfl)) ?_; (with_reducible refine (laws_eqIntS.calls k _ _ t20020 _ _ t20031 true _ ?side1 ?side2 ?side3 ?side4 A21.out).mono ?_); (case side1 => repeat (first | exact (Kd.R_reads' HO20022.out).2.2 | (with_reducible refine Kd.C_alloc ?_ _) | (with_reducible refine Kd.C_drewN ?_ _) | (with_reducible refine Kd.C_drew ?_))); (case side2 => exact (Kd.R_reads' HO20022.out).2.1); (case side3 => repeat (first | exact (Kd.R_reads' HO20033.out).2.2 | (with_reducible refine Kd.C_alloc ?_ _) | (with_reducible refine Kd.C_drewN ?_ _) | (with_reducible refine Kd.C_drew ?_))); (case side4 => exact (Kd.R_reads' HO20033.out).2.1); rintro e w' ⟨rfl, ⟨nd, rfl⟩⟩; refine ⟨_, rfl, ?_⟩))
            go_ret
            exact ⟨by first | rfl | (simp [errW_none, errW_some] <;> rfl) | (simp [*, errW_none, errW_some] <;> rfl), by repeat (first | (with_reducible first | exact HB.out | apply below_alloc | apply pw_below_drewN | apply below_drew1 | refine below_set ?_ GE20001.out | refine below_set ?_ GE20019.out) | exact HB.out)⟩
          · replace c22 := Bool.eq_false_iff.mpr c22
            subst c22
            have H1 : (none) = some r := by rw [if_neg (show ¬ (false = true) by decide)] at H; exact H
            clear H
            have H := H1
            clear H1
            exact absurd H (by simp)
        · replace c19 := Bool.eq_false_iff.mpr c19
          subst c19
          have H1 : (none) = some r := by rw [if_neg (show ¬ (false = true) by decide)] at H; exact H
          clear H
          have H := H1
          clear H1
          exact absurd H (by simp)
      · rw [if_neg c16] at H
        exact absurd H (by simp)

end Go.Proofs.Yteijndaldkkpfaa.Lp
