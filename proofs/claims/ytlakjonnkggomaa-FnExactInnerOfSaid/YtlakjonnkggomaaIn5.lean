-- Written for this claim by a program (wip/hyb/hyb.py).
import Derived.Test.YtlakjonnkggomaaIn0
import Derived.Test.YtlakjonnkggomaaIn4
namespace Go.Proofs.Ytlakjonnkggomaa.In
open Go.RowKit Go.Proofs.YtlakjonnkggomaaW.PrintWords Go.Proofs.YtlakjonnkggomaaW.PrintLast Go.Proofs.YtlakjonnkggomaaW.PrintMore
attribute [local go_sem] max2_int min2_int max_two min_two max_three min_three max_four min_four   -- for this text's walks alone
set_option linter.unusedVariables false
set_option linter.unusedSimpArgs false

/-! ### laws_heldLayoutS: function 12 -/
def laws_heldLayoutS.l0 : Nat → List (S30) → Int → Int → Option (Int)
  | 0, _, _, _ => none
  | k + 1, x0, x1, x5 => if x5 < (x0.length : Int) then (if 0 ≤ x5 then ((laws_heldIntSS.f k ((rd_T30 x0 x5).f0) x1).bind fun t20002 => (if t20002 < 0 then (some (-1)) else ((laws_heldIntS.f k ((rd_T30 x0 x5).f1) t20002).bind fun t20004 => (if t20004 < 0 then (some (-1)) else (laws_heldLayoutS.l0 k x0 t20004 (wrap64 (x5 + 1))))))) else (none)) else (some x1)
def laws_heldLayoutS.f (k : Nat) (l0 : List (S30)) (a1 : Int) : Option (Int) := laws_heldLayoutS.l0 k l0 a1 0
theorem laws_heldLayoutS.mono_l : ∀ k, (∀ y0 y1 y2, LeO (laws_heldLayoutS.l0 k y0 y1 y2) (laws_heldLayoutS.l0 (k + 1) y0 y1 y2))
  | 0 => fun _ _ _ r h => by simp [laws_heldLayoutS.l0] at h
  | k + 1 => by
    have ih0 := laws_heldLayoutS.mono_l k
    · intro y0 y1 y2
      unfold laws_heldLayoutS.l0
      repeat' first
      | (with_reducible exact ih0 _ _ _)
      | (with_reducible exact laws_heldIntS.mono _ _ _)
      | (with_reducible exact laws_heldIntSS.mono _ _ _)
      | (with_reducible exact LeO.refl _)
      | (with_reducible exact LeO.none _)
      | (with_reducible refine LeO.ite ?_ ?_)
      | (with_reducible refine LeO.bind ?_ (fun _ => ?_))
      | exact ih0 _ _ _
      | exact laws_heldIntS.mono _ _ _
      | exact laws_heldIntSS.mono _ _ _
      | exact LeO.none _
      | refine LeO.ite ?_ ?_
      | refine LeO.bind ?_ (fun _ => ?_)
theorem laws_heldLayoutS.mono : ∀ a0 a1 k, LeO (laws_heldLayoutS.f k a0 a1) (laws_heldLayoutS.f (k + 1) a0 a1) := by
  intro a0 a1 k
  have ih0 := laws_heldLayoutS.mono_l k
  unfold laws_heldLayoutS.f
  repeat' first
      | (with_reducible exact ih0 _ _ _)
      | (with_reducible exact laws_heldIntS.mono _ _ _)
      | (with_reducible exact laws_heldIntSS.mono _ _ _)
      | (with_reducible exact LeO.refl _)
      | (with_reducible exact LeO.none _)
      | (with_reducible refine LeO.ite ?_ ?_)
      | (with_reducible refine LeO.bind ?_ (fun _ => ?_))
      | exact ih0 _ _ _
      | exact laws_heldIntS.mono _ _ _
      | exact laws_heldIntSS.mono _ _ _
      | exact LeO.none _
      | refine LeO.ite ?_ ?_
      | refine LeO.bind ?_ (fun _ => ?_)
set_option maxHeartbeats 8000000 in
set_option maxRecDepth 100000 in
theorem laws_heldLayoutS.calls (k : Nat) (A0 : Option Addr) (c0 : Nat) (l0 : List (S30)) (a1 : Int) (r : Int) (w : World) (hr0 : Kd.C k30 w A0 l0.length l0) (hc0 : l0.length ≤ c0) (h : laws_heldLayoutS.f k l0 a1 = some r) :
    Calls Try.prog 12 #[.slice A0 l0.length c0, .int .i64 a1] w fun e w' => e = .returned (.int .i64 r) ∧ Drawn0 w w' := by
  have HR0 := Aside0.mk hr0
  have HC0 := Aside0.mk hc0
  clear hr0 hc0
  have H : (laws_heldLayoutS.l0 k l0 a1 0) = some r := h
  clear h
  have H' := Aside0.mk H
  clear H
  go_enter Try.func12, Try.ntmps12
  go_wp2
  go_loopg [1, 5] k (fun kq v1 v5 w' => ∃ (x1_1 : Int) (x5_1 : Int), v1 = .int .i64 x1_1 ∧ v5 = .int .i64 x5_1 ∧ Aside0 (laws_heldLayoutS.l0 kq l0 x1_1 x5_1 = some r) ∧ Aside0 (kq ≤ k) ∧ Drawn0 w w')
  case atStart => exact ⟨(a1), (0), (by first | rfl | (simp; done) | (simp [*]; done)), (by first | rfl | (simp; done) | (simp [*]; done)), H', ⟨Nat.le_refl _⟩, by repeat (first | exact Drawn0.refl _ | apply Drawn0.step)⟩
  case round =>
    clear H'
    try clear c1
    try clear p2
    obtain ⟨x1_1, x5_1, rfl, rfl, HA, HK1, ⟨m1, rfl⟩⟩ := hrel
    cases gk with
    | zero => exact absurd HA.out (by simp [laws_heldLayoutS.l0])
    | succ k1 =>
      have H := HA.out
      clear HA
      simp only [laws_heldLayoutS.l0] at H
      by_cases c3 : x5_1 < (l0.length : Int)
      · rw [if_pos c3] at H
        have c3b0 : decide (x5_1 < (l0.length : Int)) = true := decide_eq_true c3
        clear c3
        by_cases c4 : 0 ≤ x5_1
        · rw [if_pos c4] at H
          have c4b0 : decide (0 ≤ x5_1) = true := decide_eq_true c4
          clear c4
          replace H := Option.bind_eq_some_iff.mp H
          obtain ⟨t20002, A50, H⟩ := H
          replace H : (if t20002 < 0 then (some (-1)) else ((laws_heldIntS.f k1 ((rd_T30 l0 x5_1).f1) t20002).bind fun t20004 => (if t20004 < 0 then (some (-1)) else (laws_heldLayoutS.l0 k1 l0 t20004 (wrap64 (x5_1 + 1)))))) = some r := H
          have A5 := Aside0.mk A50
          clear A50
          by_cases c6 : t20002 < 0
          · rw [if_pos c6] at H
            have c6b0 : decide (t20002 < 0) = true := decide_eq_true c6
            clear c6
            obtain rfl := Option.some.inj H
            have p20001 : 0 ≤ (x5_1 : Int) := of_decide_eq_true (by first | (with_reducible assumption) | assumption)
            have q20001 : x5_1 < (l0.length : Int) := of_decide_eq_true (by first | (with_reducible assumption) | assumption)
            obtain ⟨ad20001, A20001_0, c20001_0, A20001_1, c20001_1, e20001, hx20001_0, hx20001_1, hl20001_0, hi20001_0, hl20001_1, hi20001_1⟩ := at_T30 HR0.out x5_1 p20001 q20001
            cases e20001
            have HR20001_0 := Aside0.mk hi20001_0
            have HC20001_0 := Aside0.mk hl20001_0
            clear hi20001_0 hl20001_0
            have HR20001_1 := Aside0.mk hi20001_1
            have HC20001_1 := Aside0.mk hl20001_1
            clear hi20001_1 hl20001_1
            replace p20001 := eq_true p20001
            replace q20001 := eq_true q20001
            go_wp2_with (first | ((with_reducible refine gate_callee (f := 26) rfl ?_); refine goesL_ (some 18) rfl rfl Try.func26 (by kernel_rfl) rfl #[.slice A20001_0 ((rd_T30 l0 x5_1).f0).length c20001_0, .int .i64 x1_1] rfl (by (try simp only [List.map_toArray, List.map_cons, List.map_nil]); first | done | rfl | (simp only [List.length_drop, List.length_take]; rfl)) ?_; (with_reducible refine (laws_heldIntSS.calls k1 _ _ ((rd_T30 l0 x5_1).f0) x1_1 t20002 _ ?side1 ?side2 A5.out).mono ?_); (case side1 => repeat (first | exact HR20001_0.out | (with_reducible refine Kd.C_alloc ?_ _) | (with_reducible refine Kd.C_drewN ?_ _) | (with_reducible refine Kd.C_drew ?_))); (case side2 => exact HC20001_0.out); rintro e w' ⟨rfl, ⟨nd, rfl⟩⟩; refine ⟨_, rfl, ?_⟩))
            go_ret
            exact ⟨by first | rfl | (simp; done) | (simp [*]; done), by repeat (first | exact Drawn0.refl _ | apply Drawn0.step)⟩
          · rw [if_neg c6] at H
            have c6b0 : decide (t20002 < 0) = false := decide_eq_false c6
            clear c6
            replace H := Option.bind_eq_some_iff.mp H
            obtain ⟨t20004, A70, H⟩ := H
            replace H : (if t20004 < 0 then (some (-1)) else (laws_heldLayoutS.l0 k1 l0 t20004 (wrap64 (x5_1 + 1)))) = some r := H
            have A7 := Aside0.mk A70
            clear A70
            by_cases c8 : t20004 < 0
            · rw [if_pos c8] at H
              have c8b0 : decide (t20004 < 0) = true := decide_eq_true c8
              clear c8
              obtain rfl := Option.some.inj H
              have p20001 : 0 ≤ (x5_1 : Int) := of_decide_eq_true (by first | (with_reducible assumption) | assumption)
              have q20001 : x5_1 < (l0.length : Int) := of_decide_eq_true (by first | (with_reducible assumption) | assumption)
              obtain ⟨ad20001, A20001_0, c20001_0, A20001_1, c20001_1, e20001, hx20001_0, hx20001_1, hl20001_0, hi20001_0, hl20001_1, hi20001_1⟩ := at_T30 HR0.out x5_1 p20001 q20001
              cases e20001
              have HR20001_0 := Aside0.mk hi20001_0
              have HC20001_0 := Aside0.mk hl20001_0
              clear hi20001_0 hl20001_0
              have HR20001_1 := Aside0.mk hi20001_1
              have HC20001_1 := Aside0.mk hl20001_1
              clear hi20001_1 hl20001_1
              replace p20001 := eq_true p20001
              replace q20001 := eq_true q20001
              go_wp2_with (first | ((with_reducible refine gate_callee (f := 26) rfl ?_); refine goesL_ (some 18) rfl rfl Try.func26 (by kernel_rfl) rfl #[.slice A20001_0 ((rd_T30 l0 x5_1).f0).length c20001_0, .int .i64 x1_1] rfl (by (try simp only [List.map_toArray, List.map_cons, List.map_nil]); first | done | rfl | (simp only [List.length_drop, List.length_take]; rfl)) ?_; (with_reducible refine (laws_heldIntSS.calls k1 _ _ ((rd_T30 l0 x5_1).f0) x1_1 t20002 _ ?side1 ?side2 A5.out).mono ?_); (case side1 => repeat (first | exact HR20001_0.out | (with_reducible refine Kd.C_alloc ?_ _) | (with_reducible refine Kd.C_drewN ?_ _) | (with_reducible refine Kd.C_drew ?_))); (case side2 => exact HC20001_0.out); rintro e w' ⟨rfl, ⟨nd, rfl⟩⟩; refine ⟨_, rfl, ?_⟩; have p20003 : 0 ≤ (x5_1 : Int) := of_decide_eq_true (by first | (with_reducible assumption) | assumption); have q20003 : x5_1 < (l0.length : Int) := of_decide_eq_true (by first | (with_reducible assumption) | assumption); obtain ⟨ad20003, A20003_0, c20003_0, A20003_1, c20003_1, e20003, hx20003_0, hx20003_1, hl20003_0, hi20003_0, hl20003_1, hi20003_1⟩ := at_T30 HR0.out x5_1 p20003 q20003; obtain rfl : ad20001 = ad20003 := (by injection e20003); have HR20003_0 := Aside0.mk hi20003_0; have HC20003_0 := Aside0.mk hl20003_0; clear hi20003_0 hl20003_0; have HR20003_1 := Aside0.mk hi20003_1; have HC20003_1 := Aside0.mk hl20003_1; clear hi20003_1 hl20003_1; replace p20003 := eq_true p20003; replace q20003 := eq_true q20003; have ea_ := Option.some.inj (hx20001_0.symm.trans hx20003_0); injection ea_ with ea_ en_ ec_; subst ea_; subst ec_; clear en_; have ea_ := Option.some.inj (hx20001_1.symm.trans hx20003_1); injection ea_ with ea_ en_ ec_; subst ea_; subst ec_; clear en_) | ((with_reducible refine gate_callee (f := 27) rfl ?_); refine goesL_ (some 27) rfl rfl Try.func27 (by kernel_rfl) rfl #[.slice A20001_1 ((rd_T30 l0 x5_1).f1).length c20001_1, .int .i64 t20002] rfl (by (try simp only [List.map_toArray, List.map_cons, List.map_nil]); first | done | rfl | (simp only [List.length_drop, List.length_take]; rfl)) ?_; (with_reducible refine (laws_heldIntS.calls k1 _ _ ((rd_T30 l0 x5_1).f1) t20002 t20004 _ ?side1 ?side2 A7.out).mono ?_); (case side1 => repeat (first | exact HR20003_1.out | (with_reducible refine Kd.C_alloc ?_ _) | (with_reducible refine Kd.C_drewN ?_ _) | (with_reducible refine Kd.C_drew ?_))); (case side2 => exact HC20003_1.out); rintro e w' ⟨rfl, ⟨nd, rfl⟩⟩; refine ⟨_, rfl, ?_⟩))
              go_ret
              exact ⟨by first | rfl | (simp; done) | (simp [*]; done), by repeat (first | exact Drawn0.refl _ | apply Drawn0.step)⟩
            · rw [if_neg c8] at H
              have c8b0 : decide (t20004 < 0) = false := decide_eq_false c8
              clear c8
              have H' := Aside0.mk H
              clear H
              have p20001 : 0 ≤ (x5_1 : Int) := of_decide_eq_true (by first | (with_reducible assumption) | assumption)
              have q20001 : x5_1 < (l0.length : Int) := of_decide_eq_true (by first | (with_reducible assumption) | assumption)
              obtain ⟨ad20001, A20001_0, c20001_0, A20001_1, c20001_1, e20001, hx20001_0, hx20001_1, hl20001_0, hi20001_0, hl20001_1, hi20001_1⟩ := at_T30 HR0.out x5_1 p20001 q20001
              cases e20001
              have HR20001_0 := Aside0.mk hi20001_0
              have HC20001_0 := Aside0.mk hl20001_0
              clear hi20001_0 hl20001_0
              have HR20001_1 := Aside0.mk hi20001_1
              have HC20001_1 := Aside0.mk hl20001_1
              clear hi20001_1 hl20001_1
              replace p20001 := eq_true p20001
              replace q20001 := eq_true q20001
              go_wp2_with (first | ((with_reducible refine gate_callee (f := 26) rfl ?_); refine goesL_ (some 18) rfl rfl Try.func26 (by kernel_rfl) rfl #[.slice A20001_0 ((rd_T30 l0 x5_1).f0).length c20001_0, .int .i64 x1_1] rfl (by (try simp only [List.map_toArray, List.map_cons, List.map_nil]); first | done | rfl | (simp only [List.length_drop, List.length_take]; rfl)) ?_; (with_reducible refine (laws_heldIntSS.calls k1 _ _ ((rd_T30 l0 x5_1).f0) x1_1 t20002 _ ?side1 ?side2 A5.out).mono ?_); (case side1 => repeat (first | exact HR20001_0.out | (with_reducible refine Kd.C_alloc ?_ _) | (with_reducible refine Kd.C_drewN ?_ _) | (with_reducible refine Kd.C_drew ?_))); (case side2 => exact HC20001_0.out); rintro e w' ⟨rfl, ⟨nd, rfl⟩⟩; refine ⟨_, rfl, ?_⟩; have p20003 : 0 ≤ (x5_1 : Int) := of_decide_eq_true (by first | (with_reducible assumption) | assumption); have q20003 : x5_1 < (l0.length : Int) := of_decide_eq_true (by first | (with_reducible assumption) | assumption); obtain ⟨ad20003, A20003_0, c20003_0, A20003_1, c20003_1, e20003, hx20003_0, hx20003_1, hl20003_0, hi20003_0, hl20003_1, hi20003_1⟩ := at_T30 HR0.out x5_1 p20003 q20003; obtain rfl : ad20001 = ad20003 := (by injection e20003); have HR20003_0 := Aside0.mk hi20003_0; have HC20003_0 := Aside0.mk hl20003_0; clear hi20003_0 hl20003_0; have HR20003_1 := Aside0.mk hi20003_1; have HC20003_1 := Aside0.mk hl20003_1; clear hi20003_1 hl20003_1; replace p20003 := eq_true p20003; replace q20003 := eq_true q20003; have ea_ := Option.some.inj (hx20001_0.symm.trans hx20003_0); injection ea_ with ea_ en_ ec_; subst ea_; subst ec_; clear en_; have ea_ := Option.some.inj (hx20001_1.symm.trans hx20003_1); injection ea_ with ea_ en_ ec_; subst ea_; subst ec_; clear en_) | ((with_reducible refine gate_callee (f := 27) rfl ?_); refine goesL_ (some 27) rfl rfl Try.func27 (by kernel_rfl) rfl #[.slice A20001_1 ((rd_T30 l0 x5_1).f1).length c20001_1, .int .i64 t20002] rfl (by (try simp only [List.map_toArray, List.map_cons, List.map_nil]); first | done | rfl | (simp only [List.length_drop, List.length_take]; rfl)) ?_; (with_reducible refine (laws_heldIntS.calls k1 _ _ ((rd_T30 l0 x5_1).f1) t20002 t20004 _ ?side1 ?side2 A7.out).mono ?_); (case side1 => repeat (first | exact HR20003_1.out | (with_reducible refine Kd.C_alloc ?_ _) | (with_reducible refine Kd.C_drewN ?_ _) | (with_reducible refine Kd.C_drew ?_))); (case side2 => exact HC20003_1.out); rintro e w' ⟨rfl, ⟨nd, rfl⟩⟩; refine ⟨_, rfl, ?_⟩))
              go_roundg k1
              case measure => have := HK1.out; omega
              case rel => exact ⟨(t20004), (wrap64 (x5_1 + 1)), (by first | rfl | (simp; done) | (simp [*]; done)), (by first | rfl | (simp; done) | (simp [*]; done)), H', ⟨by have := HK1.out; omega⟩, by repeat (first | exact Drawn0.refl _ | apply Drawn0.step)⟩
        · rw [if_neg c4] at H
          exact absurd H (by simp)
      · rw [if_neg c3] at H
        have c3b0 : decide (x5_1 < (l0.length : Int)) = false := decide_eq_false c3
        clear c3
        obtain rfl := Option.some.inj H
        go_wp2
        go_ret
        exact ⟨by first | rfl | (simp; done) | (simp [*]; done), by repeat (first | exact Drawn0.refl _ | apply Drawn0.step)⟩

-- NOT PRINTED: function 3 (laws_FnExactInnerOf)

end Go.Proofs.Ytlakjonnkggomaa.In
