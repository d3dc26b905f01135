-- Written for this claim by a program (wip/hyb/hyb.py).
import Derived.Test.YtifnnehjpgodfaaTu0
import Derived.Test.YtifnnehjpgodfaaTu1
import Derived.Test.YtifnnehjpgodfaaTu2
import Derived.Test.YtifnnehjpgodfaaTu3
namespace Go.Proofs.Ytifnnehjpgodfaa.Tu
open Go.RowKit Go.Proofs.YtifnnehjpgodfaaW.PrintWords Go.Proofs.YtifnnehjpgodfaaW.PrintLast Go.Proofs.YtifnnehjpgodfaaW.PrintMore
attribute [local go_sem] max2_int min2_int max_two min_two max_three min_three max_four min_four   -- for this text's walks alone
set_option linter.unusedVariables false
set_option linter.unusedSimpArgs false

/-! ### laws_FnExactTurnSegments: function 11 -/
def laws_FnExactTurnSegments.j0 : Nat → List Int → List Int → Bool → List Int → Bool → Option (Bool)
  | 0, _, _, _, _, _ => none
  | k + 1, x0, x3, x4, x6, x58 => if x58 = true then (none) else ((laws_markIntS.f k x6 1).bind fun bt20023 => ((laws_heldIntS.f k bt20023.2 1).bind fun t20025 => (if t20025 < 0 then (none) else (if t20025 = bt20023.1 then ((laws_toIntS.f k x0).bind fun t20026 => ((impl_TurnSegments.f k t20026).bind fun bt20029 => ((laws_eqIntS.f k bt20029.1 x3).bind fun t20033 => (if t20033 = true then (if (bt20029.2 != x4) = true then (none) else ((laws_heldIntS.f k bt20023.2 1).bind fun t20034 => (if t20034 < 0 then (none) else (if t20034 = bt20023.1 then (some true) else (none))))) else (none))))) else (none)))))
def laws_FnExactTurnSegments.f (k : Nat) (l0 : List Int) : Option (Bool) := if (l0.length : Int) > 1048576 then (some true) else ((laws_toIntS.f k l0).bind fun t20001 => ((spec_TurnSegments.f k t20001).bind fun bt20004 => ((laws_toIntS.f k l0).bind fun t20008 => ((impl_TurnSegments.f k t20008).bind fun bt20011 => ((laws_eqIntS.f k bt20011.1 bt20004.1).bind fun t20015 => (if t20015 = true then (if (bt20011.2 != bt20004.2) = true then (none) else ((laws_toIntS.f k l0).bind fun t20016 => ((laws_eqIntS.f k t20008 t20016).bind fun t20019 => (if t20019 = true then ((laws_markIntS.f k t20008 1).bind fun bt20020 => (if bt20020.1 < 0 then (laws_FnExactTurnSegments.j0 k l0 bt20004.1 bt20004.2 bt20011.1 true) else ((laws_eqIntS.f k bt20011.1 bt20004.1).bind fun t20022 => (if t20022 = true then (laws_FnExactTurnSegments.j0 k l0 bt20004.1 bt20004.2 bt20011.1 (bt20011.2 != bt20004.2)) else (none))))) else (none))))) else (none)))))))
theorem laws_FnExactTurnSegments.mono_l : ∀ k, (∀ y0 y1 y2 y3 y4, LeO (laws_FnExactTurnSegments.j0 k y0 y1 y2 y3 y4) (laws_FnExactTurnSegments.j0 (k + 1) y0 y1 y2 y3 y4))
  | 0 => fun _ _ _ _ _ r h => by simp [laws_FnExactTurnSegments.j0] at h
  | k + 1 => by
    have ih0 := laws_FnExactTurnSegments.mono_l k
    · intro y0 y1 y2 y3 y4
      unfold laws_FnExactTurnSegments.j0
      repeat' first
      | (with_reducible exact ih0 _ _ _ _ _)
      | (with_reducible exact impl_TurnSegments.mono _ _)
      | (with_reducible exact laws_eqIntS.mono _ _ _)
      | (with_reducible exact laws_heldIntS.mono _ _ _)
      | (with_reducible exact laws_markIntS.mono _ _ _)
      | (with_reducible exact laws_toIntS.mono _ _)
      | (with_reducible exact spec_TurnSegments.mono _ _)
      | (with_reducible exact LeO.refl _)
      | (with_reducible exact LeO.none _)
      | (with_reducible refine LeO.ite ?_ ?_)
      | (with_reducible refine LeO.bind ?_ (fun _ => ?_))
      | exact ih0 _ _ _ _ _
      | exact impl_TurnSegments.mono _ _
      | exact laws_eqIntS.mono _ _ _
      | exact laws_heldIntS.mono _ _ _
      | exact laws_markIntS.mono _ _ _
      | exact laws_toIntS.mono _ _
      | exact spec_TurnSegments.mono _ _
      | exact LeO.none _
      | refine LeO.ite ?_ ?_
      | refine LeO.bind ?_ (fun _ => ?_)
theorem laws_FnExactTurnSegments.mono : ∀ a0 k, LeO (laws_FnExactTurnSegments.f k a0) (laws_FnExactTurnSegments.f (k + 1) a0) := by
  intro a0 k
  have ih0 := laws_FnExactTurnSegments.mono_l k
  unfold laws_FnExactTurnSegments.f
  repeat' first
      | (with_reducible exact ih0 _ _ _ _ _)
      | (with_reducible exact impl_TurnSegments.mono _ _)
      | (with_reducible exact laws_eqIntS.mono _ _ _)
      | (with_reducible exact laws_heldIntS.mono _ _ _)
      | (with_reducible exact laws_markIntS.mono _ _ _)
      | (with_reducible exact laws_toIntS.mono _ _)
      | (with_reducible exact spec_TurnSegments.mono _ _)
      | (with_reducible exact LeO.refl _)
      | (with_reducible exact LeO.none _)
      | (with_reducible refine LeO.ite ?_ ?_)
      | (with_reducible refine LeO.bind ?_ (fun _ => ?_))
      | exact ih0 _ _ _ _ _
      | exact impl_TurnSegments.mono _ _
      | exact laws_eqIntS.mono _ _ _
      | exact laws_heldIntS.mono _ _ _
      | exact laws_markIntS.mono _ _ _
      | exact laws_toIntS.mono _ _
      | exact spec_TurnSegments.mono _ _
      | exact LeO.none _
      | refine LeO.ite ?_ ?_
      | refine LeO.bind ?_ (fun _ => ?_)
set_option maxHeartbeats 8000000 in
set_option maxRecDepth 100000 in
theorem laws_FnExactTurnSegments.calls (k : Nat) (A0 : Option Addr) (c0 : Nat) (l0 : List Int) (r : Bool) (w : World) (hr0 : Kd.C (Kd.int .i64) w A0 l0.length l0) (hc0 : l0.length ≤ c0) (h : laws_FnExactTurnSegments.f k l0 = some r) :
    Calls Try.prog 11 #[.slice A0 l0.length c0] w fun e w' => e = .returned (.bool r) ∧ Below w.heap.size w w' := by
  have HR0 := Aside0.mk hr0
  have HC0 := Aside0.mk hc0
  clear hr0 hc0
  have HB := Aside0.mk (Below.refl w.heap.size w)
  have H : (if (l0.length : Int) > 1048576 then (some true) else ((laws_toIntS.f k l0).bind fun t20001 => ((spec_TurnSegments.f k t20001).bind fun bt20004 => ((laws_toIntS.f k l0).bind fun t20008 => ((impl_TurnSegments.f k t20008).bind fun bt20011 => ((laws_eqIntS.f k bt20011.1 bt20004.1).bind fun t20015 => (if t20015 = true then (if (bt20011.2 != bt20004.2) = true then (none) else ((laws_toIntS.f k l0).bind fun t20016 => ((laws_eqIntS.f k t20008 t20016).bind fun t20019 => (if t20019 = true then ((laws_markIntS.f k t20008 1).bind fun bt20020 => (if bt20020.1 < 0 then (laws_FnExactTurnSegments.j0 k l0 bt20004.1 bt20004.2 bt20011.1 true) else ((laws_eqIntS.f k bt20011.1 bt20004.1).bind fun t20022 => (if t20022 = true then (laws_FnExactTurnSegments.j0 k l0 bt20004.1 bt20004.2 bt20011.1 (bt20011.2 != bt20004.2)) else (none))))) else (none))))) else (none)))))))) = some r := h
  clear h
  by_cases c2 : (l0.length : Int) > 1048576
  · rw [if_pos c2] at H
    have c2b0 : decide (1048576 < (l0.length : Int)) = true := decide_eq_true c2
    have c2b1 : decide (1048576 < l0.length) = true := decide_eq_true (by omega)
    clear c2
    obtain rfl := Option.some.inj H
    go_enter Try.func11, Try.ntmps11
    go_wp2
    go_ret
    exact ⟨by first | rfl | (simp [errW_none, errW_some] <;> rfl) | (simp [*, errW_none, errW_some] <;> rfl), by repeat (first | (with_reducible first | exact HB.out | apply below_alloc | apply pw_below_drewN | apply below_drew1) | exact HB.out)⟩
  · rw [if_neg c2] at H
    have c2b0 : decide (1048576 < (l0.length : Int)) = false := decide_eq_false c2
    have c2b1 : decide (1048576 < l0.length) = false := decide_eq_false (by omega)
    clear c2
    replace H := Option.bind_eq_some_iff.mp H
    obtain ⟨t20001, A30, H⟩ := H
    replace H : ((spec_TurnSegments.f k t20001).bind fun bt20004 => ((laws_toIntS.f k l0).bind fun t20008 => ((impl_TurnSegments.f k t20008).bind fun bt20011 => ((laws_eqIntS.f k bt20011.1 bt20004.1).bind fun t20015 => (if t20015 = true then (if (bt20011.2 != bt20004.2) = true then (none) else ((laws_toIntS.f k l0).bind fun t20016 => ((laws_eqIntS.f k t20008 t20016).bind fun t20019 => (if t20019 = true then ((laws_markIntS.f k t20008 1).bind fun bt20020 => (if bt20020.1 < 0 then (laws_FnExactTurnSegments.j0 k l0 bt20004.1 bt20004.2 bt20011.1 true) else ((laws_eqIntS.f k bt20011.1 bt20004.1).bind fun t20022 => (if t20022 = true then (laws_FnExactTurnSegments.j0 k l0 bt20004.1 bt20004.2 bt20011.1 (bt20011.2 != bt20004.2)) else (none))))) else (none))))) else (none)))))) = some r := H
    have A3 := Aside0.mk A30
    clear A30
    replace H := Option.bind_eq_some_iff.mp H
    obtain ⟨⟨t20004, t20005⟩, A40, H⟩ := H
    replace H : ((laws_toIntS.f k l0).bind fun t20008 => ((impl_TurnSegments.f k t20008).bind fun bt20011 => ((laws_eqIntS.f k bt20011.1 t20004).bind fun t20015 => (if t20015 = true then (if (bt20011.2 != t20005) = true then (none) else ((laws_toIntS.f k l0).bind fun t20016 => ((laws_eqIntS.f k t20008 t20016).bind fun t20019 => (if t20019 = true then ((laws_markIntS.f k t20008 1).bind fun bt20020 => (if bt20020.1 < 0 then (laws_FnExactTurnSegments.j0 k l0 t20004 t20005 bt20011.1 true) else ((laws_eqIntS.f k bt20011.1 t20004).bind fun t20022 => (if t20022 = true then (laws_FnExactTurnSegments.j0 k l0 t20004 t20005 bt20011.1 (bt20011.2 != t20005)) else (none))))) else (none))))) else (none))))) = some r := H
    have A4 := Aside0.mk A40
    clear A40
    replace H := Option.bind_eq_some_iff.mp H
    obtain ⟨t20008, A50, H⟩ := H
    replace H : ((impl_TurnSegments.f k t20008).bind fun bt20011 => ((laws_eqIntS.f k bt20011.1 t20004).bind fun t20015 => (if t20015 = true then (if (bt20011.2 != t20005) = true then (none) else ((laws_toIntS.f k l0).bind fun t20016 => ((laws_eqIntS.f k t20008 t20016).bind fun t20019 => (if t20019 = true then ((laws_markIntS.f k t20008 1).bind fun bt20020 => (if bt20020.1 < 0 then (laws_FnExactTurnSegments.j0 k l0 t20004 t20005 bt20011.1 true) else ((laws_eqIntS.f k bt20011.1 t20004).bind fun t20022 => (if t20022 = true then (laws_FnExactTurnSegments.j0 k l0 t20004 t20005 bt20011.1 (bt20011.2 != t20005)) else (none))))) else (none))))) else (none)))) = some r := H
    have A5 := Aside0.mk A50
    clear A50
    replace H := Option.bind_eq_some_iff.mp H
    obtain ⟨⟨t20011, t20012⟩, A60, H⟩ := H
    replace H : ((laws_eqIntS.f k t20011 t20004).bind fun t20015 => (if t20015 = true then (if (t20012 != t20005) = true then (none) else ((laws_toIntS.f k l0).bind fun t20016 => ((laws_eqIntS.f k t20008 t20016).bind fun t20019 => (if t20019 = true then ((laws_markIntS.f k t20008 1).bind fun bt20020 => (if bt20020.1 < 0 then (laws_FnExactTurnSegments.j0 k l0 t20004 t20005 t20011 true) else ((laws_eqIntS.f k t20011 t20004).bind fun t20022 => (if t20022 = true then (laws_FnExactTurnSegments.j0 k l0 t20004 t20005 t20011 (t20012 != t20005)) else (none))))) else (none))))) else (none))) = some r := H
    have A6 := Aside0.mk A60
    clear A60
    replace H := Option.bind_eq_some_iff.mp H
    obtain ⟨t20015, A70, H⟩ := H
    replace H : (if t20015 = true then (if (t20012 != t20005) = true then (none) else ((laws_toIntS.f k l0).bind fun t20016 => ((laws_eqIntS.f k t20008 t20016).bind fun t20019 => (if t20019 = true then ((laws_markIntS.f k t20008 1).bind fun bt20020 => (if bt20020.1 < 0 then (laws_FnExactTurnSegments.j0 k l0 t20004 t20005 t20011 true) else ((laws_eqIntS.f k t20011 t20004).bind fun t20022 => (if t20022 = true then (laws_FnExactTurnSegments.j0 k l0 t20004 t20005 t20011 (t20012 != t20005)) else (none))))) else (none))))) else (none)) = some r := H
    have A7 := Aside0.mk A70
    clear A70
    by_cases c8 : t20015 = true
    · subst c8
      have H1 : (if (t20012 != t20005) = true then (none) else ((laws_toIntS.f k l0).bind fun t20016 => ((laws_eqIntS.f k t20008 t20016).bind fun t20019 => (if t20019 = true then ((laws_markIntS.f k t20008 1).bind fun bt20020 => (if bt20020.1 < 0 then (laws_FnExactTurnSegments.j0 k l0 t20004 t20005 t20011 true) else ((laws_eqIntS.f k t20011 t20004).bind fun t20022 => (if t20022 = true then (laws_FnExactTurnSegments.j0 k l0 t20004 t20005 t20011 (t20012 != t20005)) else (none))))) else (none))))) = some r := by rw [if_pos rfl] at H; exact H
      clear H
      have H := H1
      clear H1
      by_cases c9 : (t20012 != t20005) = true
      · rw [if_pos c9] at H
        exact absurd H (by simp)
      · rw [if_neg c9] at H
        have c9b0 : (t20012 != t20005) = false := by simpa using c9
        (try (have c9b1 : decide (t20012 = t20005) = true := by simpa using c9))
        (try (have c9b2 : (t20012 == t20005) = true := by simpa using c9))
        clear c9
        replace H := Option.bind_eq_some_iff.mp H
        obtain ⟨t20016, A100, H⟩ := H
        replace H : ((laws_eqIntS.f k t20008 t20016).bind fun t20019 => (if t20019 = true then ((laws_markIntS.f k t20008 1).bind fun bt20020 => (if bt20020.1 < 0 then (laws_FnExactTurnSegments.j0 k l0 t20004 t20005 t20011 true) else ((laws_eqIntS.f k t20011 t20004).bind fun t20022 => (if t20022 = true then (laws_FnExactTurnSegments.j0 k l0 t20004 t20005 t20011 (t20012 != t20005)) else (none))))) else (none))) = some r := H
        have A10 := Aside0.mk A100
        clear A100
        replace H := Option.bind_eq_some_iff.mp H
        obtain ⟨t20019, A110, H⟩ := H
        replace H : (if t20019 = true then ((laws_markIntS.f k t20008 1).bind fun bt20020 => (if bt20020.1 < 0 then (laws_FnExactTurnSegments.j0 k l0 t20004 t20005 t20011 true) else ((laws_eqIntS.f k t20011 t20004).bind fun t20022 => (if t20022 = true then (laws_FnExactTurnSegments.j0 k l0 t20004 t20005 t20011 (t20012 != t20005)) else (none))))) else (none)) = some r := H
        have A11 := Aside0.mk A110
        clear A110
        by_cases c12 : t20019 = true
        · subst c12
          have H1 : ((laws_markIntS.f k t20008 1).bind fun bt20020 => (if bt20020.1 < 0 then (laws_FnExactTurnSegments.j0 k l0 t20004 t20005 t20011 true) else ((laws_eqIntS.f k t20011 t20004).bind fun t20022 => (if t20022 = true then (laws_FnExactTurnSegments.j0 k l0 t20004 t20005 t20011 (t20012 != t20005)) else (none))))) = some r := by rw [if_pos rfl] at H; exact H
          clear H
          have H := H1
          clear H1
          replace H := Option.bind_eq_some_iff.mp H
          obtain ⟨⟨t20020, t20021⟩, A130, H⟩ := H
          replace H : (if t20020 < 0 then (laws_FnExactTurnSegments.j0 k l0 t20004 t20005 t20011 true) else ((laws_eqIntS.f k t20011 t20004).bind fun t20022 => (if t20022 = true then (laws_FnExactTurnSegments.j0 k l0 t20004 t20005 t20011 (t20012 != t20005)) else (none)))) = some r := H
          have A13 := Aside0.mk A130
          clear A130
          have HC14 := Aside0.mk H
          clear H
          go_enter Try.func11, Try.ntmps11
          go_upto_region 12 with (first | ((with_reducible refine gate_callee (f := 16) rfl ?_); refine goesL_ (some 18) rfl rfl Try.func16 (by kernel_rfl) rfl #[.slice A0 l0.length c0] rfl (by (try simp only [List.map_toArray, List.map_cons, List.map_nil]); first | done | rfl | (simp only [List.length_drop, List.length_take]; rfl)) ?_; (with_reducible refine (laws_toIntS.calls k _ _ l0 t20001 _ ?side1 ?side2 A3.out).mono ?_); (case side1 => repeat (first | exact HR0.out | (with_reducible refine Kd.C_alloc ?_ _) | (with_reducible refine Kd.C_drewN ?_ _) | (with_reducible refine Kd.C_drew ?_))); (case side2 => exact HC0.out); rintro e w15 ⟨v20002, rfl, ho0, hb⟩; refine ⟨_, rfl, ?_⟩; have n0_ := Aside0.mk (Kd.R_lower ho0 (below_size (by repeat (first | (with_reducible first | exact HB.out | apply below_alloc | apply pw_below_drewN | apply below_drew1) | exact HB.out)))); have n1_ := Aside0.mk (below_step (by repeat (first | (with_reducible first | exact HB.out | apply below_alloc | apply pw_below_drewN | apply below_drew1) | exact HB.out)) hb); clear HB; have HO20003 := n0_; have HB := n1_; clear n0_ n1_; (try clear hb); (try clear hb2); (try clear hk); (try clear hi); (try clear ho0); obtain ⟨Ao16, co16, eo16⟩ := Kd.R_slice HO20003.out; subst eo16) | ((with_reducible refine gate_callee (f := 33) rfl ?_); refine goesL_ (some 19) rfl rfl Try.func33 (by kernel_rfl) rfl #[.slice Ao16 t20001.length co16] rfl (by (try simp only [List.map_toArray, List.map_cons, List.map_nil]); first | done | rfl | (simp only [List.length_drop, List.length_take]; rfl)) ?_; (with_reducible refine (spec_TurnSegments.calls k _ _ t20001 t20004 t20005 _ ?side1 ?side2 A4.out).mono ?_); (case side1 => repeat (first | exact (Kd.R_reads' HO20003.out).2.2 | (with_reducible refine Kd.C_alloc ?_ _) | (with_reducible refine Kd.C_drewN ?_ _) | (with_reducible refine Kd.C_drew ?_))); (case side2 => exact (Kd.R_reads' HO20003.out).2.1); rintro e w17 ⟨v20006, rfl, ho0, hb⟩; refine ⟨_, rfl, ?_⟩; have n0_ := Aside0.mk (Kd.R_elder' (by (with_reducible repeat (first | apply Kd.R_alloc | apply Kd.R_drewN | apply Kd.R_drew)); exact HO20003.out) (Kd.R_base ho0) hb); have n1_ := Aside0.mk (Kd.R_lower (Kd.R_new' ho0 (Kd.R_lt (by (with_reducible repeat (first | apply Kd.R_alloc | apply Kd.R_drewN | apply Kd.R_drew)); exact HO20003.out))) (below_size (by repeat (first | (with_reducible first | exact HB.out | apply below_alloc | apply pw_below_drewN | apply below_drew1) | exact HB.out)))); have n2_ := Aside0.mk (below_step (by repeat (first | (with_reducible first | exact HB.out | apply below_alloc | apply pw_below_drewN | apply below_drew1) | exact HB.out)) hb); clear HO20003; clear HB; have HO20003 := n0_; have HO20007 := n1_; have HB := n2_; clear n0_ n1_ n2_; (try clear hb); (try clear hb2); (try clear hk); (try clear hi); (try clear ho0)) | ((with_reducible refine gate_callee (f := 16) rfl ?_); refine goesL_ (some 23) rfl rfl Try.func16 (by kernel_rfl) rfl #[.slice A0 l0.length c0] rfl (by (try simp only [List.map_toArray, List.map_cons, List.map_nil]); first | done | rfl | (simp only [List.length_drop, List.length_take]; rfl)) ?_; (with_reducible refine (laws_toIntS.calls k _ _ l0 t20008 _ ?side1 ?side2 A5.out).mono ?_); (case side1 => repeat (first | exact (Kd.C_below HR0.out HB.out) | (with_reducible refine Kd.C_alloc ?_ _) | (with_reducible refine Kd.C_drewN ?_ _) | (with_reducible refine Kd.C_drew ?_))); (case side2 => exact HC0.out); rintro e w18 ⟨v20009, rfl, ho0, hb⟩; refine ⟨_, rfl, ?_⟩; have n0_ := Aside0.mk (Kd.R_elder' (by (with_reducible repeat (first | apply Kd.R_alloc | apply Kd.R_drewN | apply Kd.R_drew)); exact HO20003.out) (Kd.R_base ho0) hb); have n1_ := Aside0.mk (Kd.R_elder' (by (with_reducible repeat (first | apply Kd.R_alloc | apply Kd.R_drewN | apply Kd.R_drew)); exact HO20007.out) (Kd.R_base ho0) hb); have n2_ := Aside0.mk (Kd.R_lower (Kd.R_new' (Kd.R_new' ho0 (Kd.R_lt (by (with_reducible repeat (first | apply Kd.R_alloc | apply Kd.R_drewN | apply Kd.R_drew)); exact HO20003.out))) (Kd.R_lt (by (with_reducible repeat (first | apply Kd.R_alloc | apply Kd.R_drewN | apply Kd.R_drew)); exact HO20007.out))) (below_size (by repeat (first | (with_reducible first | exact HB.out | apply below_alloc | apply pw_below_drewN | apply below_drew1) | exact HB.out)))); have n3_ := Aside0.mk (below_step (by repeat (first | (with_reducible first | exact HB.out | apply below_alloc | apply pw_below_drewN | apply below_drew1) | exact HB.out)) hb); clear HO20003; clear HO20007; clear HB; have HO20003 := n0_; have HO20007 := n1_; have HO20010 := n2_; have HB := n3_; clear n0_ n1_ n2_ n3_; (try clear hb); (try clear hb2); (try clear hk); (try clear hi); (try clear ho0); obtain ⟨Ao19, co19, eo19⟩ := Kd.R_slice HO20010.out; subst eo19) | ((with_reducible refine gate_callee (f := 34) rfl ?_); refine goesL_ (some 26) rfl rfl Try.func34 (by kernel_rfl) rfl #[.slice Ao19 t20008.length co19] rfl (by (try simp only [List.map_toArray, List.map_cons, List.map_nil]); first | done | rfl | (simp only [List.length_drop, List.length_take]; rfl)) ?_; (with_reducible refine (impl_TurnSegments.calls k _ _ t20008 t20011 t20012 _ ?side1 ?side2 A6.out).mono ?_); (case side1 => repeat (first | exact (Kd.R_reads' HO20010.out).2.2 | (with_reducible refine Kd.C_alloc ?_ _) | (with_reducible refine Kd.C_drewN ?_ _) | (with_reducible refine Kd.C_drew ?_))); (case side2 => exact (Kd.R_reads' HO20010.out).2.1); rintro e w20 ⟨v20013, rfl, ho0, hb⟩; refine ⟨_, rfl, ?_⟩; have n0_ := Aside0.mk (Kd.R_elder' (by (with_reducible repeat (first | apply Kd.R_alloc | apply Kd.R_drewN | apply Kd.R_drew)); exact HO20003.out) (Kd.R_base ho0) hb); have n1_ := Aside0.mk (Kd.R_elder' (by (with_reducible repeat (first | apply Kd.R_alloc | apply Kd.R_drewN | apply Kd.R_drew)); exact HO20007.out) (Kd.R_base ho0) hb); have n2_ := Aside0.mk (Kd.R_elder' (by (with_reducible repeat (first | apply Kd.R_alloc | apply Kd.R_drewN | apply Kd.R_drew)); exact HO20010.out) (Kd.R_base ho0) hb); have n3_ := Aside0.mk (Kd.R_lower (Kd.R_new' (Kd.R_new' (Kd.R_new' ho0 (Kd.R_lt (by (with_reducible repeat (first | apply Kd.R_alloc | apply Kd.R_drewN | apply Kd.R_drew)); exact HO20003.out))) (Kd.R_lt (by (with_reducible repeat (first | apply Kd.R_alloc | apply Kd.R_drewN | apply Kd.R_drew)); exact HO20007.out))) (Kd.R_lt (by (with_reducible repeat (first | apply Kd.R_alloc | apply Kd.R_drewN | apply Kd.R_drew)); exact HO20010.out))) (below_size (by repeat (first | (with_reducible first | exact HB.out | apply below_alloc | apply pw_below_drewN | apply below_drew1) | exact HB.out)))); have n4_ := Aside0.mk (below_step (by repeat (first | (with_reducible first | exact HB.out | apply below_alloc | apply pw_below_drewN | apply below_drew1) | exact HB.out)) hb); clear HO20003; clear HO20007; clear HO20010; clear HB; have HO20003 := n0_; have HO20007 := n1_; have HO20010 := n2_; have HO20014 := n3_; have HB := n4_; clear n0_ n1_ n2_ n3_ n4_; (try clear hb); (try clear hb2); (try clear hk); (try clear hi); (try clear ho0); obtain ⟨Ao21, co21, eo21⟩ := Kd.R_slice HO20014.out; subst eo21; obtain ⟨Ao22, co22, eo22⟩ := Kd.R_slice HO20007.out; subst eo22) | ((with_reducible refine gate_callee (f := 18) rfl ?_); refine goesL_ (some 31) rfl rfl Try.func18 (by kernel_rfl) rfl #[.slice Ao21 t20011.length co21, .slice Ao22 t20004.length co22] rfl (by (try simp only [List.map_toArray, List.map_cons, List.map_nil]); first | done | rfl | (simp only [List.length_drop, List.length_take]; rfl)) ?_; (with_reducible refine (laws_eqIntS.calls k _ _ t20011 _ _ t20004 true _ ?side1 ?side2 ?side3 ?side4 A7.out).mono ?_); (case side1 => repeat (first | exact (Kd.R_reads' HO20014.out).2.2 | (with_reducible refine Kd.C_alloc ?_ _) | (with_reducible refine Kd.C_drewN ?_ _) | (with_reducible refine Kd.C_drew ?_))); (case side2 => exact (Kd.R_reads' HO20014.out).2.1); (case side3 => repeat (first | exact (Kd.R_reads' HO20007.out).2.2 | (with_reducible refine Kd.C_alloc ?_ _) | (with_reducible refine Kd.C_drewN ?_ _) | (with_reducible refine Kd.C_drew ?_))); (case side4 => exact (Kd.R_reads' HO20007.out).2.1); rintro e w' ⟨rfl, ⟨nd, rfl⟩⟩; refine ⟨_, rfl, ?_⟩) | ((with_reducible refine gate_callee (f := 16) rfl ?_); refine goesL_ (some 40) rfl rfl Try.func16 (by kernel_rfl) rfl #[.slice A0 l0.length c0] rfl (by (try simp only [List.map_toArray, List.map_cons, List.map_nil]); first | done | rfl | (simp only [List.length_drop, List.length_take]; rfl)) ?_; (with_reducible refine (laws_toIntS.calls k _ _ l0 t20016 _ ?side1 ?side2 A10.out).mono ?_); (case side1 => repeat (first | exact (Kd.C_below HR0.out (by repeat (first | (with_reducible first | exact HB.out | apply below_alloc | apply pw_below_drewN | apply below_drew1) | exact HB.out))) | (with_reducible refine Kd.C_alloc ?_ _) | (with_reducible refine Kd.C_drewN ?_ _) | (with_reducible refine Kd.C_drew ?_))); (case side2 => exact HC0.out); rintro e w23 ⟨v20017, rfl, ho0, hb⟩; refine ⟨_, rfl, ?_⟩; have n0_ := Aside0.mk (Kd.R_elder' (by (with_reducible repeat (first | apply Kd.R_alloc | apply Kd.R_drewN | apply Kd.R_drew)); exact HO20003.out) (Kd.R_base ho0) hb); have n1_ := Aside0.mk (Kd.R_elder' (by (with_reducible repeat (first | apply Kd.R_alloc | apply Kd.R_drewN | apply Kd.R_drew)); exact HO20007.out) (Kd.R_base ho0) hb); have n2_ := Aside0.mk (Kd.R_elder' (by (with_reducible repeat (first | apply Kd.R_alloc | apply Kd.R_drewN | apply Kd.R_drew)); exact HO20010.out) (Kd.R_base ho0) hb); have n3_ := Aside0.mk (Kd.R_elder' (by (with_reducible repeat (first | apply Kd.R_alloc | apply Kd.R_drewN | apply Kd.R_drew)); exact HO20014.out) (Kd.R_base ho0) hb); have n4_ := Aside0.mk (Kd.R_lower (Kd.R_new' (Kd.R_new' (Kd.R_new' (Kd.R_new' ho0 (Kd.R_lt (by (with_reducible repeat (first | apply Kd.R_alloc | apply Kd.R_drewN | apply Kd.R_drew)); exact HO20003.out))) (Kd.R_lt (by (with_reducible repeat (first | apply Kd.R_alloc | apply Kd.R_drewN | apply Kd.R_drew)); exact HO20007.out))) (Kd.R_lt (by (with_reducible repeat (first | apply Kd.R_alloc | apply Kd.R_drewN | apply Kd.R_drew)); exact HO20010.out))) (Kd.R_lt (by (with_reducible repeat (first | apply Kd.R_alloc | apply Kd.R_drewN | apply Kd.R_drew)); exact HO20014.out))) (below_size (by repeat (first | (with_reducible first | exact HB.out | apply below_alloc | apply pw_below_drewN | apply below_drew1) | exact HB.out)))); have n5_ := Aside0.mk (below_step (by repeat (first | (with_reducible first | exact HB.out | apply below_alloc | apply pw_below_drewN | apply below_drew1) | exact HB.out)) hb); clear HO20003; clear HO20007; clear HO20010; clear HO20014; clear HB; have HO20003 := n0_; have HO20007 := n1_; have HO20010 := n2_; have HO20014 := n3_; have HO20018 := n4_; have HB := n5_; clear n0_ n1_ n2_ n3_ n4_ n5_; (try clear hb); (try clear hb2); (try clear hk); (try clear hi); (try clear ho0); obtain ⟨Ao24, co24, eo24⟩ := Kd.R_slice HO20018.out; subst eo24) | ((with_reducible refine gate_callee (f := 18) rfl ?_); refine goesL_ (some 41) rfl rfl Try.func18 (by kernel_rfl) rfl #[.slice Ao19 t20008.length co19, .slice Ao24 t20016.length co24] rfl (by (try simp only [List.map_toArray, List.map_cons, List.map_nil]); first | done | rfl | (simp only [List.length_drop, List.length_take]; rfl)) ?_; (with_reducible refine (laws_eqIntS.calls k _ _ t20008 _ _ t20016 true _ ?side1 ?side2 ?side3 ?side4 A11.out).mono ?_); (case side1 => repeat (first | exact (Kd.R_reads' HO20010.out).2.2 | (with_reducible refine Kd.C_alloc ?_ _) | (with_reducible refine Kd.C_drewN ?_ _) | (with_reducible refine Kd.C_drew ?_))); (case side2 => exact (Kd.R_reads' HO20010.out).2.1); (case side3 => repeat (first | exact (Kd.R_reads' HO20018.out).2.2 | (with_reducible refine Kd.C_alloc ?_ _) | (with_reducible refine Kd.C_drewN ?_ _) | (with_reducible refine Kd.C_drew ?_))); (case side4 => exact (Kd.R_reads' HO20018.out).2.1); rintro e w' ⟨rfl, ⟨nd, rfl⟩⟩; refine ⟨_, rfl, ?_⟩) | ((with_reducible refine gate_callee (f := 21) rfl ?_); refine goesL_ (some 45) rfl rfl Try.func21 (by kernel_rfl) rfl #[.slice Ao19 t20008.length co19, .int .i64 1] rfl (by (try simp only [List.map_toArray, List.map_cons, List.map_nil]); first | done | rfl | (simp only [List.length_drop, List.length_take]; rfl)) ?_; (with_reducible refine (laws_markIntS.calls k (fun k_ => some k_ = (.slice Ao19 t20008.length co19 : Value).ownBlock) (.slice Ao19 t20008.length co19) t20008 1 t20020 t20021 w _ ?side1 ?side2 A13.out).mono ?_); (case side1 => repeat (first | (with_reducible first | exact HB.out | apply below_alloc | apply pw_below_drewN | apply below_drew1) | exact HB.out)); (case side2 => exact Kd.R_tight rfl HO20010.out); rintro e w25 ⟨rfl, hy0, hb, hkp⟩; refine ⟨_, rfl, ?_⟩; have n0_ := Aside0.mk (Kd.R_mono (ok' := fun k_ => some k_ ≠ (.slice Ao22 t20004.length co22 : Value).ownBlock ∧ some k_ ≠ (.slice Ao19 t20008.length co19 : Value).ownBlock ∧ some k_ ≠ (.slice Ao21 t20011.length co21 : Value).ownBlock ∧ some k_ ≠ (.slice Ao24 t20016.length co24 : Value).ownBlock) (Kd.R_keptB (HO20003.out) hkp (fun k_ hk_ hs_ => (hk_.1.1.2) hs_)) (fun k_ hk_ => ⟨hk_.1.1.1.1.2, hk_.1.1.1.2, hk_.1.1.2, hk_.1.2⟩)); have n1_ := Aside0.mk (Kd.R_mono (ok' := fun k_ => some k_ ≠ (.slice Ao16 t20001.length co16 : Value).ownBlock ∧ some k_ ≠ (.slice Ao19 t20008.length co19 : Value).ownBlock ∧ some k_ ≠ (.slice Ao21 t20011.length co21 : Value).ownBlock ∧ some k_ ≠ (.slice Ao24 t20016.length co24 : Value).ownBlock) (Kd.R_keptB (HO20007.out) hkp (fun k_ hk_ hs_ => (hk_.1.1.2) hs_)) (fun k_ hk_ => ⟨hk_.1.1.1.1.2, hk_.1.1.1.2, hk_.1.1.2, hk_.1.2⟩)); have n2_ := Aside0.mk (Kd.R_reok rfl hy0 (fun k_ e_ => HO20010.out.1 k_ e_)); have n3_ := Aside0.mk (Kd.R_mono (ok' := fun k_ => some k_ ≠ (.slice Ao16 t20001.length co16 : Value).ownBlock ∧ some k_ ≠ (.slice Ao22 t20004.length co22 : Value).ownBlock ∧ some k_ ≠ (.slice Ao19 t20008.length co19 : Value).ownBlock ∧ some k_ ≠ (.slice Ao24 t20016.length co24 : Value).ownBlock) (Kd.R_keptB (HO20014.out) hkp (fun k_ hk_ hs_ => (hk_.1.2) hs_)) (fun k_ hk_ => ⟨hk_.1.1.1.1.2, hk_.1.1.1.2, hk_.1.1.2, hk_.1.2⟩)); have n4_ := Aside0.mk (Kd.R_mono (ok' := fun k_ => some k_ ≠ (.slice Ao16 t20001.length co16 : Value).ownBlock ∧ some k_ ≠ (.slice Ao22 t20004.length co22 : Value).ownBlock ∧ some k_ ≠ (.slice Ao19 t20008.length co19 : Value).ownBlock ∧ some k_ ≠ (.slice Ao21 t20011.length co21 : Value).ownBlock) (Kd.R_keptB (HO20018.out) hkp (fun k_ hk_ hs_ => (hk_.1.2) hs_)) (fun k_ hk_ => ⟨hk_.1.1.1.1.2, hk_.1.1.1.2, hk_.1.1.2, hk_.1.2⟩)); have n5_ := Aside0.mk (hb); clear HO20003; clear HO20007; clear HO20010; clear HO20014; clear HO20018; clear HB; have HO20003 := n0_; have HO20007 := n1_; have HO20010 := n2_; have HO20014 := n3_; have HO20018 := n4_; have HB := n5_; clear n0_ n1_ n2_ n3_ n4_ n5_; (try clear hb); (try clear hkp); (try clear hy0)))
          (try simp only [Act.put, List.setIfInBounds_toArray, List.set_cons_zero, List.set_cons_succ])
          go_cut [58] (fun v58 wc => ∃ (kq : Nat) (x58_13 : Bool), v58 = .bool x58_13 ∧ Aside0 (laws_FnExactTurnSegments.j0 kq l0 t20004 t20005 t20011 x58_13 = some r) ∧ Aside0 (kq ≤ k) ∧ Aside0 (Kd.R (Kd.int .i64) 3 wc w.heap.size (fun k_ => some k_ ≠ ((.slice Ao21 t20011.length co21) : Value).ownBlock) (.slice Ao22 t20004.length co22) t20004) ∧ Aside0 (Kd.R (Kd.int .i64) 3 wc w.heap.size (fun k_ => some k_ ≠ ((.slice Ao22 t20004.length co22) : Value).ownBlock) (.slice Ao21 t20011.length co21) t20011) ∧ Aside0 (Below w.heap.size w wc))
          case first =>
            have H := HC14.out
            clear HC14
            by_cases c26 : t20020 < 0
            · rw [if_pos c26] at H
              have c26b0 : decide (t20020 < 0) = true := decide_eq_true c26
              clear c26
              (first | rw [c26b0] | (simp only [i64_w, i32_w]; rw [c26b0]) | skip)
              have H' := Aside0.mk H
              clear H
              go_wp2
              go_meet
              case rel => exact ⟨_, (true), (by first | rfl | (simp; done) | (simp [*]; done)), H', ⟨by first | omega | exact Nat.le_refl _⟩, ⟨by (with_reducible repeat (first | apply Kd.R_alloc | apply Kd.R_drewN | apply Kd.R_drew)); exact Kd.R_mono HO20007.out (fun _ hk => hk.2.2.1)⟩, ⟨by (with_reducible repeat (first | apply Kd.R_alloc | apply Kd.R_drewN | apply Kd.R_drew)); exact Kd.R_mono HO20014.out (fun _ hk => hk.2.1)⟩, ⟨by repeat (first | (with_reducible first | exact HB.out | apply below_alloc | apply pw_below_drewN | apply below_drew1) | exact HB.out)⟩⟩
            · rw [if_neg c26] at H
              have c26b0 : decide (t20020 < 0) = false := decide_eq_false c26
              clear c26
              (first | rw [c26b0] | (simp only [i64_w, i32_w]; rw [c26b0]) | skip)
              replace H := Option.bind_eq_some_iff.mp H
              obtain ⟨t20022, A270, H⟩ := H
              replace H : (if t20022 = true then (laws_FnExactTurnSegments.j0 k l0 t20004 t20005 t20011 (t20012 != t20005)) else (none)) = some r := H
              have A27 := Aside0.mk A270
              clear A270
              by_cases c28 : t20022 = true
              · subst c28
                have H1 : (laws_FnExactTurnSegments.j0 k l0 t20004 t20005 t20011 (t20012 != t20005)) = some r := by rw [if_pos rfl] at H; exact H
                clear H
                have H := H1
                clear H1
                have H' := Aside0.mk H
                clear H
                go_wp2_with (first | (go_at_call 18; (with_reducible refine (laws_eqIntS.calls k _ _ t20011 _ _ t20004 true _ ?side1 ?side2 ?side3 ?side4 A27.out).mono ?_); (case side1 => repeat (first | exact (Kd.R_reads' HO20014.out).2.2 | (with_reducible refine Kd.C_alloc ?_ _) | (with_reducible refine Kd.C_drewN ?_ _) | (with_reducible refine Kd.C_drew ?_))); (case side2 => exact (Kd.R_reads' HO20014.out).2.1); (case side3 => repeat (first | exact (Kd.R_reads' HO20007.out).2.2 | (with_reducible refine Kd.C_alloc ?_ _) | (with_reducible refine Kd.C_drewN ?_ _) | (with_reducible refine Kd.C_drew ?_))); (case side4 => exact (Kd.R_reads' HO20007.out).2.1); rintro e w' ⟨rfl, ⟨nd, rfl⟩⟩))
                go_meet
                case rel => exact ⟨_, ((t20012 != t20005)), (by first | rfl | (simp; done) | (simp [*]; done)), H', ⟨by first | omega | exact Nat.le_refl _⟩, ⟨by (with_reducible repeat (first | apply Kd.R_alloc | apply Kd.R_drewN | apply Kd.R_drew)); exact Kd.R_mono HO20007.out (fun _ hk => hk.2.2.1)⟩, ⟨by (with_reducible repeat (first | apply Kd.R_alloc | apply Kd.R_drewN | apply Kd.R_drew)); exact Kd.R_mono HO20014.out (fun _ hk => hk.2.1)⟩, ⟨by repeat (first | (with_reducible first | exact HB.out | apply below_alloc | apply pw_below_drewN | apply below_drew1) | exact HB.out)⟩⟩
              · replace c28 := Bool.eq_false_iff.mpr c28
                subst c28
                have H1 : (none) = some r := by rw [if_neg (show ¬ (false = true) by decide)] at H; exact H
                clear H
                have H := H1
                clear H1
                exact absurd H (by simp)
          case rest =>
            clear HC14
            try clear c1
            try clear c2
            try clear c2b0
            try clear c2b1
            try clear p2
            try clear c3
            try clear c8
            try clear c9
            try clear c9b0
            try clear c9b1
            try clear c9b2
            try clear c11
            try clear c12
            try clear c16
            try clear c18
            try clear c21
            try clear c26
            try clear c26b0
            try clear c28
            obtain ⟨kq, x58_13, rfl, HA, HJ13, HO_3, HO_6, HB⟩ := hcut
            cases kq with
            | zero => exact absurd HA.out (by simp [laws_FnExactTurnSegments.j0])
            | succ kj13 =>
              have H := HA.out
              clear HA
              simp only [laws_FnExactTurnSegments.j0] at H
              by_cases c29 : x58_13 = true
              · subst c29
                have H1 : (none) = some r := by rw [if_pos rfl] at H; exact H
                clear H
                have H := H1
                clear H1
                exact absurd H (by simp)
              · replace c29 := Bool.eq_false_iff.mpr c29
                subst c29
                have H1 : ((laws_markIntS.f kj13 t20011 1).bind fun bt20023 => ((laws_heldIntS.f kj13 bt20023.2 1).bind fun t20025 => (if t20025 < 0 then (none) else (if t20025 = bt20023.1 then ((laws_toIntS.f kj13 l0).bind fun t20026 => ((impl_TurnSegments.f kj13 t20026).bind fun bt20029 => ((laws_eqIntS.f kj13 bt20029.1 t20004).bind fun t20033 => (if t20033 = true then (if (bt20029.2 != t20005) = true then (none) else ((laws_heldIntS.f kj13 bt20023.2 1).bind fun t20034 => (if t20034 < 0 then (none) else (if t20034 = bt20023.1 then (some true) else (none))))) else (none))))) else (none))))) = some r := by rw [if_neg (show ¬ (false = true) by decide)] at H; exact H
                clear H
                have H := H1
                clear H1
                replace H := Option.bind_eq_some_iff.mp H
                obtain ⟨⟨t20023, t20024⟩, A300, H⟩ := H
                replace H : ((laws_heldIntS.f kj13 t20024 1).bind fun t20025 => (if t20025 < 0 then (none) else (if t20025 = t20023 then ((laws_toIntS.f kj13 l0).bind fun t20026 => ((impl_TurnSegments.f kj13 t20026).bind fun bt20029 => ((laws_eqIntS.f kj13 bt20029.1 t20004).bind fun t20033 => (if t20033 = true then (if (bt20029.2 != t20005) = true then (none) else ((laws_heldIntS.f kj13 t20024 1).bind fun t20034 => (if t20034 < 0 then (none) else (if t20034 = t20023 then (some true) else (none))))) else (none))))) else (none)))) = some r := H
                have A30 := Aside0.mk A300
                clear A300
                replace H := Option.bind_eq_some_iff.mp H
                obtain ⟨t20025, A310, H⟩ := H
                replace H : (if t20025 < 0 then (none) else (if t20025 = t20023 then ((laws_toIntS.f kj13 l0).bind fun t20026 => ((impl_TurnSegments.f kj13 t20026).bind fun bt20029 => ((laws_eqIntS.f kj13 bt20029.1 t20004).bind fun t20033 => (if t20033 = true then (if (bt20029.2 != t20005) = true then (none) else ((laws_heldIntS.f kj13 t20024 1).bind fun t20034 => (if t20034 < 0 then (none) else (if t20034 = t20023 then (some true) else (none))))) else (none))))) else (none))) = some r := H
                have A31 := Aside0.mk A310
                clear A310
                by_cases c32 : t20025 < 0
                · rw [if_pos c32] at H
                  exact absurd H (by simp)
                · rw [if_neg c32] at H
                  have c32b0 : decide (t20025 < 0) = false := decide_eq_false c32
                  clear c32
                  by_cases c33 : t20025 = t20023
                  · rw [if_pos c33] at H
                    have c33b0 : (t20025 == t20023) = true := beq_iff_eq.mpr c33
                    have c33b1 : (t20025 != t20023) = false := bne_eq_false_iff_eq.mpr c33
                    clear c33
                    replace H := Option.bind_eq_some_iff.mp H
                    obtain ⟨t20026, A340, H⟩ := H
                    replace H : ((impl_TurnSegments.f kj13 t20026).bind fun bt20029 => ((laws_eqIntS.f kj13 bt20029.1 t20004).bind fun t20033 => (if t20033 = true then (if (bt20029.2 != t20005) = true then (none) else ((laws_heldIntS.f kj13 t20024 1).bind fun t20034 => (if t20034 < 0 then (none) else (if t20034 = t20023 then (some true) else (none))))) else (none)))) = some r := H
                    have A34 := Aside0.mk A340
                    clear A340
                    replace H := Option.bind_eq_some_iff.mp H
                    obtain ⟨⟨t20029, t20030⟩, A350, H⟩ := H
                    replace H : ((laws_eqIntS.f kj13 t20029 t20004).bind fun t20033 => (if t20033 = true then (if (t20030 != t20005) = true then (none) else ((laws_heldIntS.f kj13 t20024 1).bind fun t20034 => (if t20034 < 0 then (none) else (if t20034 = t20023 then (some true) else (none))))) else (none))) = some r := H
                    have A35 := Aside0.mk A350
                    clear A350
                    replace H := Option.bind_eq_some_iff.mp H
                    obtain ⟨t20033, A360, H⟩ := H
                    replace H : (if t20033 = true then (if (t20030 != t20005) = true then (none) else ((laws_heldIntS.f kj13 t20024 1).bind fun t20034 => (if t20034 < 0 then (none) else (if t20034 = t20023 then (some true) else (none))))) else (none)) = some r := H
                    have A36 := Aside0.mk A360
                    clear A360
                    by_cases c37 : t20033 = true
                    · subst c37
                      have H1 : (if (t20030 != t20005) = true then (none) else ((laws_heldIntS.f kj13 t20024 1).bind fun t20034 => (if t20034 < 0 then (none) else (if t20034 = t20023 then (some true) else (none))))) = some r := by rw [if_pos rfl] at H; exact H
                      clear H
                      have H := H1
                      clear H1
                      by_cases c38 : (t20030 != t20005) = true
                      · rw [if_pos c38] at H
                        exact absurd H (by simp)
                      · rw [if_neg c38] at H
                        have c38b0 : (t20030 != t20005) = false := by simpa using c38
                        (try (have c38b1 : decide (t20030 = t20005) = true := by simpa using c38))
                        (try (have c38b2 : (t20030 == t20005) = true := by simpa using c38))
                        clear c38
                        replace H := Option.bind_eq_some_iff.mp H
                        obtain ⟨t20034, A390, H⟩ := H
                        replace H : (if t20034 < 0 then (none) else (if t20034 = t20023 then (some true) else (none))) = some r := H
                        have A39 := Aside0.mk A390
                        clear A390
                        by_cases c40 : t20034 < 0
                        · rw [if_pos c40] at H
                          exact absurd H (by simp)
                        · rw [if_neg c40] at H
                          have c40b0 : decide (t20034 < 0) = false := decide_eq_false c40
                          clear c40
                          by_cases c41 : t20034 = t20023
                          · rw [if_pos c41] at H
                            have c41b0 : (t20034 == t20023) = true := beq_iff_eq.mpr c41
                            have c41b1 : (t20034 != t20023) = false := bne_eq_false_iff_eq.mpr c41
                            clear c41
                            obtain rfl := Option.some.inj H
                            go_wp2_with (first | ((with_reducible refine gate_callee (f := 21) rfl ?_); refine goesL_ (some 61) rfl rfl Try.func21 (by kernel_rfl) rfl #[.slice Ao21 t20011.length co21, .int .i64 1] rfl (by (try simp only [List.map_toArray, List.map_cons, List.map_nil]); first | done | rfl | (simp only [List.length_drop, List.length_take]; rfl)) ?_; (with_reducible refine (laws_markIntS.calls kj13 (fun k_ => some k_ = (.slice Ao21 t20011.length co21 : Value).ownBlock) (.slice Ao21 t20011.length co21) t20011 1 t20023 t20024 w _ ?side1 ?side2 A30.out).mono ?_); (case side1 => repeat (first | (with_reducible first | exact HB.out | apply below_alloc | apply pw_below_drewN | apply below_drew1) | exact HB.out)); (case side2 => exact Kd.R_tight rfl HO_6.out); rintro e w42 ⟨rfl, hy0, hb, hkp⟩; refine ⟨_, rfl, ?_⟩; have n0_ := Aside0.mk (Kd.R_mono (ok' := fun k_ => some k_ ≠ (.slice Ao21 t20011.length co21 : Value).ownBlock) (Kd.R_keptB (HO_3.out) hkp (fun k_ hk_ hs_ => (hk_) hs_)) (fun k_ hk_ => hk_.1)); have n1_ := Aside0.mk (Kd.R_reok rfl hy0 (fun k_ e_ => HO_6.out.1 k_ e_)); have n2_ := Aside0.mk (hb); clear HO_3; clear HO_6; clear HB; have HO_3 := n0_; have HO_6 := n1_; have HB := n2_; clear n0_ n1_ n2_; (try clear hb); (try clear hkp); (try clear hy0)) | ((with_reducible refine gate_callee (f := 22) rfl ?_); refine goesL_ (some 64) rfl rfl Try.func22 (by kernel_rfl) rfl #[.slice Ao21 t20024.length co21, .int .i64 1] rfl (by (try simp only [List.map_toArray, List.map_cons, List.map_nil]); first | done | (rw [show t20024.length = t20011.length from (Kd.R_reads' HO_6.out).1.symm] <;> rfl) | rfl | (simp only [List.length_drop, List.length_take]; rfl)) ?_; (with_reducible refine (laws_heldIntS.calls kj13 _ _ t20024 1 t20025 _ ?side1 ?side2 A31.out).mono ?_); (case side1 => repeat (first | exact (Kd.R_reads' HO_6.out).2.2 | (with_reducible refine Kd.C_alloc ?_ _) | (with_reducible refine Kd.C_drewN ?_ _) | (with_reducible refine Kd.C_drew ?_))); (case side2 => rw [show t20024.length = t20011.length from (Kd.R_reads' HO_6.out).1.symm]; exact (Kd.R_reads' HO_6.out).2.1); rintro e w' ⟨rfl, ⟨nd, rfl⟩⟩; refine ⟨_, rfl, ?_⟩) | ((with_reducible refine gate_callee (f := 16) rfl ?_); refine goesL_ (some 72) rfl rfl Try.func16 (by kernel_rfl) rfl #[.slice A0 l0.length c0] rfl (by (try simp only [List.map_toArray, List.map_cons, List.map_nil]); first | done | rfl | (simp only [List.length_drop, List.length_take]; rfl)) ?_; (with_reducible refine (laws_toIntS.calls kj13 _ _ l0 t20026 _ ?side1 ?side2 A34.out).mono ?_); (case side1 => repeat (first | exact (Kd.C_below HR0.out (by repeat (first | (with_reducible first | exact HB.out | apply below_alloc | apply pw_below_drewN | apply below_drew1) | exact HB.out))) | (with_reducible refine Kd.C_alloc ?_ _) | (with_reducible refine Kd.C_drewN ?_ _) | (with_reducible refine Kd.C_drew ?_))); (case side2 => exact HC0.out); rintro e w43 ⟨v20027, rfl, ho0, hb⟩; refine ⟨_, rfl, ?_⟩; have n0_ := Aside0.mk (Kd.R_elder' (by (with_reducible repeat (first | apply Kd.R_alloc | apply Kd.R_drewN | apply Kd.R_drew)); exact HO_3.out) (Kd.R_base ho0) hb); have n1_ := Aside0.mk (Kd.R_elder' (by (with_reducible repeat (first | apply Kd.R_alloc | apply Kd.R_drewN | apply Kd.R_drew)); exact HO_6.out) (Kd.R_base ho0) hb); have n2_ := Aside0.mk (Kd.R_lower (Kd.R_new' (Kd.R_new' ho0 (Kd.R_lt (by (with_reducible repeat (first | apply Kd.R_alloc | apply Kd.R_drewN | apply Kd.R_drew)); exact HO_3.out))) (Kd.R_lt (by (with_reducible repeat (first | apply Kd.R_alloc | apply Kd.R_drewN | apply Kd.R_drew)); exact HO_6.out))) (below_size (by repeat (first | (with_reducible first | exact HB.out | apply below_alloc | apply pw_below_drewN | apply below_drew1) | exact HB.out)))); have n3_ := Aside0.mk (below_step (by repeat (first | (with_reducible first | exact HB.out | apply below_alloc | apply pw_below_drewN | apply below_drew1) | exact HB.out)) hb); clear HO_3; clear HO_6; clear HB; have HO_3 := n0_; have HO_6 := n1_; have HO20028 := n2_; have HB := n3_; clear n0_ n1_ n2_ n3_; (try clear hb); (try clear hb2); (try clear hk); (try clear hi); (try clear ho0); obtain ⟨Ao44, co44, eo44⟩ := Kd.R_slice HO20028.out; subst eo44) | ((with_reducible refine gate_callee (f := 34) rfl ?_); refine goesL_ (some 73) rfl rfl Try.func34 (by kernel_rfl) rfl #[.slice Ao44 t20026.length co44] rfl (by (try simp only [List.map_toArray, List.map_cons, List.map_nil]); first | done | rfl | (simp only [List.length_drop, List.length_take]; rfl)) ?_; (with_reducible refine (impl_TurnSegments.calls kj13 _ _ t20026 t20029 t20030 _ ?side1 ?side2 A35.out).mono ?_); (case side1 => repeat (first | exact (Kd.R_reads' HO20028.out).2.2 | (with_reducible refine Kd.C_alloc ?_ _) | (with_reducible refine Kd.C_drewN ?_ _) | (with_reducible refine Kd.C_drew ?_))); (case side2 => exact (Kd.R_reads' HO20028.out).2.1); rintro e w45 ⟨v20031, rfl, ho0, hb⟩; refine ⟨_, rfl, ?_⟩; have n0_ := Aside0.mk (Kd.R_elder' (by (with_reducible repeat (first | apply Kd.R_alloc | apply Kd.R_drewN | apply Kd.R_drew)); exact HO_3.out) (Kd.R_base ho0) hb); have n1_ := Aside0.mk (Kd.R_elder' (by (with_reducible repeat (first | apply Kd.R_alloc | apply Kd.R_drewN | apply Kd.R_drew)); exact HO_6.out) (Kd.R_base ho0) hb); have n2_ := Aside0.mk (Kd.R_elder' (by (with_reducible repeat (first | apply Kd.R_alloc | apply Kd.R_drewN | apply Kd.R_drew)); exact HO20028.out) (Kd.R_base ho0) hb); have n3_ := Aside0.mk (Kd.R_lower (Kd.R_new' (Kd.R_new' (Kd.R_new' ho0 (Kd.R_lt (by (with_reducible repeat (first | apply Kd.R_alloc | apply Kd.R_drewN | apply Kd.R_drew)); exact HO_3.out))) (Kd.R_lt (by (with_reducible repeat (first | apply Kd.R_alloc | apply Kd.R_drewN | apply Kd.R_drew)); exact HO_6.out))) (Kd.R_lt (by (with_reducible repeat (first | apply Kd.R_alloc | apply Kd.R_drewN | apply Kd.R_drew)); exact HO20028.out))) (below_size (by repeat (first | (with_reducible first | exact HB.out | apply below_alloc | apply pw_below_drewN | apply below_drew1) | exact HB.out)))); have n4_ := Aside0.mk (below_step (by repeat (first | (with_reducible first | exact HB.out | apply below_alloc | apply pw_below_drewN | apply below_drew1) | exact HB.out)) hb); clear HO_3; clear HO_6; clear HO20028; clear HB; have HO_3 := n0_; have HO_6 := n1_; have HO20028 := n2_; have HO20032 := n3_; have HB := n4_; clear n0_ n1_ n2_ n3_ n4_; (try clear hb); (try clear hb2); (try clear hk); (try clear hi); (try clear ho0); obtain ⟨Ao46, co46, eo46⟩ := Kd.R_slice HO20032.out; subst eo46) | ((with_reducible refine gate_callee (f := 18) rfl ?_); refine goesL_ (some 78) rfl rfl Try.func18 (by kernel_rfl) rfl #[.slice Ao46 t20029.length co46, .slice Ao22 t20004.length co22] rfl (by (try simp only [List.map_toArray, List.map_cons, List.map_nil]); first | done | rfl | (simp only [List.length_drop, List.length_take]; rfl)) ?_; (with_reducible refine (laws_eqIntS.calls kj13 _ _ t20029 _ _ t20004 true _ ?side1 ?side2 ?side3 ?side4 A36.out).mono ?_); (case side1 => repeat (first | exact (Kd.R_reads' HO20032.out).2.2 | (with_reducible refine Kd.C_alloc ?_ _) | (with_reducible refine Kd.C_drewN ?_ _) | (with_reducible refine Kd.C_drew ?_))); (case side2 => exact (Kd.R_reads' HO20032.out).2.1); (case side3 => repeat (first | exact (Kd.R_reads' HO_3.out).2.2 | (with_reducible refine Kd.C_alloc ?_ _) | (with_reducible refine Kd.C_drewN ?_ _) | (with_reducible refine Kd.C_drew ?_))); (case side4 => exact (Kd.R_reads' HO_3.out).2.1); rintro e w' ⟨rfl, ⟨nd, rfl⟩⟩; refine ⟨_, rfl, ?_⟩) | ((with_reducible refine gate_callee (f := 22) rfl ?_); refine goesL_ (some 87) rfl rfl Try.func22 (by kernel_rfl) rfl #[.slice Ao21 t20024.length co21, .int .i64 1] rfl (by (try simp only [List.map_toArray, List.map_cons, List.map_nil]); first | done | (rw [show t20024.length = t20011.length from (Kd.R_reads' HO_6.out).1.symm] <;> rfl) | rfl | (simp only [List.length_drop, List.length_take]; rfl)) ?_; (with_reducible refine (laws_heldIntS.calls kj13 _ _ t20024 1 t20034 _ ?side1 ?side2 A39.out).mono ?_); (case side1 => repeat (first | exact (Kd.R_reads' HO_6.out).2.2 | (with_reducible refine Kd.C_alloc ?_ _) | (with_reducible refine Kd.C_drewN ?_ _) | (with_reducible refine Kd.C_drew ?_))); (case side2 => rw [show t20024.length = t20011.length from (Kd.R_reads' HO_6.out).1.symm]; exact (Kd.R_reads' HO_6.out).2.1); rintro e w' ⟨rfl, ⟨nd, rfl⟩⟩; refine ⟨_, rfl, ?_⟩))
                            go_ret
                            exact ⟨by first | rfl | (simp [errW_none, errW_some] <;> rfl) | (simp [*, errW_none, errW_some] <;> rfl), by repeat (first | (with_reducible first | exact HB.out | apply below_alloc | apply pw_below_drewN | apply below_drew1) | exact HB.out)⟩
                          · rw [if_neg c41] at H
                            exact absurd H (by simp)
                    · replace c37 := Bool.eq_false_iff.mpr c37
                      subst c37
                      have H1 : (none) = some r := by rw [if_neg (show ¬ (false = true) by decide)] at H; exact H
                      clear H
                      have H := H1
                      clear H1
                      exact absurd H (by simp)
                  · rw [if_neg c33] at H
                    exact absurd H (by simp)
        · replace c12 := Bool.eq_false_iff.mpr c12
          subst c12
          have H1 : (none) = some r := by rw [if_neg (show ¬ (false = true) by decide)] at H; exact H
          clear H
          have H := H1
          clear H1
          exact absurd H (by simp)
    · replace c8 := Bool.eq_false_iff.mpr c8
      subst c8
      have H1 : (none) = some r := by rw [if_neg (show ¬ (false = true) by decide)] at H; exact H
      clear H
      have H := H1
      clear H1
      exact absurd H (by simp)

/-- THE ONE PURE STATEMENT of laws_FnExactTurnSegments: yours. -/
def laws_FnExactTurnSegments.Pure : Prop := ∀ (l0 : List Int), l0.length ≤ maxLen → l0.length * 8 ≤ 140737488351232 → (∀ x ∈ l0, (Lit.int .i64 x).wf = true) → ∃ k, laws_FnExactTurnSegments.f k l0 = some true
theorem laws_FnExactTurnSegments.walk (P : laws_FnExactTurnSegments.Pure) (a0 : Option Addr) (len0 cap0 : Nat) (z0 : List Int) (w : World) (w0 : (a0 = none ∧ len0 = 0 ∧ cap0 = 0 ∧ z0 = []) ∨ ∃ x, a0 = some x ∧ len0 ≤ cap0 ∧ cap0 ≤ maxLen ∧ z0.length = cap0 ∧ (∀ i, i < z0.length → w.cell? (x.add i) = some (.int .i64 (z0.getD i 0))) ∧ ∀ n ∈ z0, (Lit.int .i64 n).wf = true) (y0 : len0 * 8 ≤ 140737488351232) :
    Calls Try.prog 11 #[.slice a0 len0 cap0] w fun e w' => e = .returned (.bool true) ∧ Below w.heap.size w w' := by
  obtain ⟨l0, rfl, hr0, hm0, hw0, hc0⟩ := ReadsInt.ofRowC w0
  obtain ⟨k, h⟩ := P l0 hm0 y0 hw0
  refine (laws_FnExactTurnSegments.calls k _ _ l0 true w (Kd.C_of_reads (d := (0 : Int)) (h1 := fun _ => rfl) hr0) hc0 h).mono ?_
  rintro e w' ⟨rfl, hd⟩
  exact ⟨rfl, hd⟩

end Go.Proofs.Ytifnnehjpgodfaa.Tu
