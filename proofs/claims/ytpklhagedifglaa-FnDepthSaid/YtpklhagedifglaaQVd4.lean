/-
  Cut to what this claim uses.
-/
import Derived.Test.YtpklhagedifglaaQVd0
import Derived.Test.YtpklhagedifglaaQVd3
namespace Go.Proofs.Ytpklhagedifglaa.Vd
open Go.RowKit Go.Proofs.YtpklhagedifglaaW.PrintWords Go.Proofs.YtpklhagedifglaaW.PrintLast Go.Proofs.YtpklhagedifglaaW.PrintMore
attribute [local go_sem] max2_int min2_int max_two min_two max_three min_three max_four min_four   -- for this text's walks alone
set_option linter.unusedVariables false
set_option linter.unusedSimpArgs false
mutual
def laws_FnDepth.j0 : Nat → ByteArray → Int → Bool → Option (Bool)
  | 0, _, _, _ => none
  | k + 1, x3, x4, x34 => if x34 = true then (none) else (if x4 < 0 then (some (x4 == (-1))) else ((impl_FreeVars.f x3).bind fun t20007 => (laws_FnDepth.l0 k x3 x4 t20007 (t20007.size : Int) 0)))
def laws_FnDepth.l0 : Nat → ByteArray → Int → ByteArray → Int → Int → Option (Bool)
  | 0, _, _, _, _, _ => none
  | k + 1, x3, x4, x5, x42, x43 => if x43 < x42 then (if 0 ≤ x43 then (if x43 < (x5.size : Int) then (if (bt x5 x43) = 97 then (laws_FnDepth.l0 k x3 x4 x5 x42 (wrap64 (x43 + 1))) else (if (bt x5 x43) = 98 then (laws_FnDepth.l0 k x3 x4 x5 x42 (wrap64 (x43 + 1))) else (none))) else (none)) else (none)) else ((impl_PartsOfTerm.f x3).bind fun t20008 => (if (t20008.length : Int) = 1 then (laws_FnDepth.j2 k x4 t20008 true) else (if (t20008.length : Int) = 2 then ((impl_SignOf.f x3).bind fun t20011 => (if t20011.toList = ([91] : List UInt8) then (laws_FnDepth.j2 k x4 t20008 false) else ((impl_SignOf.f x3).bind fun t20012 => (laws_FnDepth.j2 k x4 t20008 (t20012.toList != ([123] : List UInt8)))))) else (laws_FnDepth.j2 k x4 t20008 false))))
def laws_FnDepth.j2 : Nat → Int → List ByteArray → Bool → Option (Bool)
  | 0, _, _, _ => none
  | k + 1, x4, x7, x76 => if x76 = true then (laws_FnDepth.l1 k x4 x7 x7 (x7.length : Int) 0) else (if x4 ≤ 3 then (if (x7.length : Int) = 0 then (some true) else (if 0 < (x7.length : Int) then ((impl_IsFunction.f (rdOf ByteArray.empty x7 0)).bind fun t20018 => (some t20018)) else (none))) else (none))
def laws_FnDepth.l1 : Nat → Int → List ByteArray → List ByteArray → Int → Int → Option (Bool)
  | 0, _, _, _, _, _ => none
  | k + 1, x4, x7, x77, x78, x79 => if x79 < x78 then (if 0 ≤ x79 then (if x79 < (x77.length : Int) then ((impl_DepthOfTerm.f (rdOf ByteArray.empty x77 x79)).bind fun t20014 => (if t20014 < 0 then (none) else (laws_FnDepth.l1 k x4 x7 x77 x78 (wrap64 (x79 + 1))))) else (none)) else (none)) else (if x4 ≤ 3 then (if (x7.length : Int) = 0 then (some true) else (if 0 < (x7.length : Int) then ((impl_IsFunction.f (rdOf ByteArray.empty x7 0)).bind fun t20016 => (some t20016)) else (none))) else (none))
end
def laws_FnDepth.f (k : Nat) (l0 : List Int) : Option (Bool) := if (l0.length : Int) > 1048576 then (some true) else ((spec_DrawDepthOfTerm.f k l0).bind fun t20001 => ((impl_DepthOfTerm.f t20001).bind fun t20002 => ((spec_DepthOfTerm.f t20001).bind fun t20003 => (if t20002 = t20003 then ((impl_IsFunction.f t20001).bind fun t20004 => (if (t20004 != (decide (t20002 ≥ 0))) = true then (laws_FnDepth.j0 k t20001 t20002 true) else ((impl_IsFunction.f t20001).bind fun t20005 => ((spec_IsFunction.f t20001).bind fun t20006 => (laws_FnDepth.j0 k t20001 t20002 (t20005 != t20006)))))) else (laws_FnDepth.j0 k t20001 t20002 true)))))
theorem laws_FnDepth.mono_l : ∀ k, (∀ y0 y1 y2, LeO (laws_FnDepth.j0 k y0 y1 y2) (laws_FnDepth.j0 (k + 1) y0 y1 y2)) ∧ (∀ y0 y1 y2 y3 y4, LeO (laws_FnDepth.l0 k y0 y1 y2 y3 y4) (laws_FnDepth.l0 (k + 1) y0 y1 y2 y3 y4)) ∧ (∀ y0 y1 y2, LeO (laws_FnDepth.j2 k y0 y1 y2) (laws_FnDepth.j2 (k + 1) y0 y1 y2)) ∧ (∀ y0 y1 y2 y3 y4, LeO (laws_FnDepth.l1 k y0 y1 y2 y3 y4) (laws_FnDepth.l1 (k + 1) y0 y1 y2 y3 y4))
  | 0 => ⟨fun _ _ _ r h => by simp [laws_FnDepth.j0] at h, fun _ _ _ _ _ r h => by simp [laws_FnDepth.l0] at h, fun _ _ _ r h => by simp [laws_FnDepth.j2] at h, fun _ _ _ _ _ r h => by simp [laws_FnDepth.l1] at h⟩
  | k + 1 => by
    obtain ⟨ih0, ih1, ih2, ih3⟩ := laws_FnDepth.mono_l k
    refine ⟨?_, ?_, ?_, ?_⟩
    · intro y0 y1 y2
      unfold laws_FnDepth.j0
      repeat' first
      | (with_reducible exact ih0 _ _ _)
      | (with_reducible exact ih1 _ _ _ _ _)
      | (with_reducible exact ih2 _ _ _)
      | (with_reducible exact ih3 _ _ _ _ _)
      | (with_reducible exact spec_DrawDepthOfTerm.mono _ _)
      | (with_reducible exact LeO.refl _)
      | (with_reducible exact LeO.none _)
      | (with_reducible refine LeO.ite ?_ ?_)
      | (with_reducible refine LeO.bind ?_ (fun _ => ?_))
      | exact ih0 _ _ _
      | exact ih1 _ _ _ _ _
      | exact ih2 _ _ _
      | exact ih3 _ _ _ _ _
      | exact spec_DrawDepthOfTerm.mono _ _
      | exact LeO.none _
      | refine LeO.ite ?_ ?_
      | refine LeO.bind ?_ (fun _ => ?_)
    · intro y0 y1 y2 y3 y4
      unfold laws_FnDepth.l0
      repeat' first
      | (with_reducible exact ih0 _ _ _)
      | (with_reducible exact ih1 _ _ _ _ _)
      | (with_reducible exact ih2 _ _ _)
      | (with_reducible exact ih3 _ _ _ _ _)
      | (with_reducible exact spec_DrawDepthOfTerm.mono _ _)
      | (with_reducible exact LeO.refl _)
      | (with_reducible exact LeO.none _)
      | (with_reducible refine LeO.ite ?_ ?_)
      | (with_reducible refine LeO.bind ?_ (fun _ => ?_))
      | exact ih0 _ _ _
      | exact ih1 _ _ _ _ _
      | exact ih2 _ _ _
      | exact ih3 _ _ _ _ _
      | exact spec_DrawDepthOfTerm.mono _ _
      | exact LeO.none _
      | refine LeO.ite ?_ ?_
      | refine LeO.bind ?_ (fun _ => ?_)
    · intro y0 y1 y2
      unfold laws_FnDepth.j2
      repeat' first
      | (with_reducible exact ih0 _ _ _)
      | (with_reducible exact ih1 _ _ _ _ _)
      | (with_reducible exact ih2 _ _ _)
      | (with_reducible exact ih3 _ _ _ _ _)
      | (with_reducible exact spec_DrawDepthOfTerm.mono _ _)
      | (with_reducible exact LeO.refl _)
      | (with_reducible exact LeO.none _)
      | (with_reducible refine LeO.ite ?_ ?_)
      | (with_reducible refine LeO.bind ?_ (fun _ => ?_))
      | exact ih0 _ _ _
      | exact ih1 _ _ _ _ _
      | exact ih2 _ _ _
      | exact ih3 _ _ _ _ _
      | exact spec_DrawDepthOfTerm.mono _ _
      | exact LeO.none _
      | refine LeO.ite ?_ ?_
      | refine LeO.bind ?_ (fun _ => ?_)
    · intro y0 y1 y2 y3 y4
      unfold laws_FnDepth.l1
      repeat' first
      | (with_reducible exact ih0 _ _ _)
      | (with_reducible exact ih1 _ _ _ _ _)
      | (with_reducible exact ih2 _ _ _)
      | (with_reducible exact ih3 _ _ _ _ _)
      | (with_reducible exact spec_DrawDepthOfTerm.mono _ _)
      | (with_reducible exact LeO.refl _)
      | (with_reducible exact LeO.none _)
      | (with_reducible refine LeO.ite ?_ ?_)
      | (with_reducible refine LeO.bind ?_ (fun _ => ?_))
      | exact ih0 _ _ _
      | exact ih1 _ _ _ _ _
      | exact ih2 _ _ _
      | exact ih3 _ _ _ _ _
      | exact spec_DrawDepthOfTerm.mono _ _
      | exact LeO.none _
      | refine LeO.ite ?_ ?_
      | refine LeO.bind ?_ (fun _ => ?_)
theorem laws_FnDepth.mono : ∀ a0 k, LeO (laws_FnDepth.f k a0) (laws_FnDepth.f (k + 1) a0) := by
  intro a0 k
  obtain ⟨ih0, ih1, ih2, ih3⟩ := laws_FnDepth.mono_l k
  unfold laws_FnDepth.f
  repeat' first
      | (with_reducible exact ih0 _ _ _)
      | (with_reducible exact ih1 _ _ _ _ _)
      | (with_reducible exact ih2 _ _ _)
      | (with_reducible exact ih3 _ _ _ _ _)
      | (with_reducible exact spec_DrawDepthOfTerm.mono _ _)
      | (with_reducible exact LeO.refl _)
      | (with_reducible exact LeO.none _)
      | (with_reducible refine LeO.ite ?_ ?_)
      | (with_reducible refine LeO.bind ?_ (fun _ => ?_))
      | exact ih0 _ _ _
      | exact ih1 _ _ _ _ _
      | exact ih2 _ _ _
      | exact ih3 _ _ _ _ _
      | exact spec_DrawDepthOfTerm.mono _ _
      | exact LeO.none _
      | refine LeO.ite ?_ ?_
      | refine LeO.bind ?_ (fun _ => ?_)
set_option maxHeartbeats 8000000 in
set_option maxRecDepth 100000 in
theorem laws_FnDepth.calls (k : Nat) (A0 : Option Addr) (c0 : Nat) (l0 : List Int) (r : Bool) (w : World) (hr0 : Kd.C (Kd.int .u8) w A0 l0.length l0) (hc0 : l0.length ≤ c0) (h : laws_FnDepth.f k l0 = some r) :
    Calls Try.prog 3 #[.slice A0 l0.length c0] w fun e w' => e = .returned (.bool r) ∧ Below w.heap.size w w' := by
  have HR0 := Aside0.mk hr0
  have HC0 := Aside0.mk hc0
  clear hr0 hc0
  have HB := Aside0.mk (Below.refl w.heap.size w)
  have H : (if (l0.length : Int) > 1048576 then (some true) else ((spec_DrawDepthOfTerm.f k l0).bind fun t20001 => ((impl_DepthOfTerm.f t20001).bind fun t20002 => ((spec_DepthOfTerm.f t20001).bind fun t20003 => (if t20002 = t20003 then ((impl_IsFunction.f t20001).bind fun t20004 => (if (t20004 != (decide (t20002 ≥ 0))) = true then (laws_FnDepth.j0 k t20001 t20002 true) else ((impl_IsFunction.f t20001).bind fun t20005 => ((spec_IsFunction.f t20001).bind fun t20006 => (laws_FnDepth.j0 k t20001 t20002 (t20005 != t20006)))))) else (laws_FnDepth.j0 k t20001 t20002 true)))))) = some r := h
  clear h
  by_cases c2 : (l0.length : Int) > 1048576
  · rw [if_pos c2] at H
    have c2b0 : decide (1048576 < (l0.length : Int)) = true := decide_eq_true c2
    have c2b1 : decide (1048576 < l0.length) = true := decide_eq_true (by omega)
    clear c2
    obtain rfl := Option.some.inj H
    go_enter Try.func3, Try.ntmps3
    go_wp2
    all_goals (try (exfalso; omega))
    go_ret
    exact ⟨by first | rfl | (simp [errW_none, errW_some] <;> rfl) | (simp [*, errW_none, errW_some] <;> rfl), by repeat (first | (with_reducible first | exact HB.out | apply below_alloc | apply pw_below_drewN | apply below_drew1) | exact HB.out)⟩
  · rw [if_neg c2] at H
    have c2b0 : decide (1048576 < (l0.length : Int)) = false := decide_eq_false c2
    have c2b1 : decide (1048576 < l0.length) = false := decide_eq_false (by omega)
    clear c2
    replace H := Option.bind_eq_some_iff.mp H
    obtain ⟨t20001, A30, H⟩ := H
    replace H : ((impl_DepthOfTerm.f t20001).bind fun t20002 => ((spec_DepthOfTerm.f t20001).bind fun t20003 => (if t20002 = t20003 then ((impl_IsFunction.f t20001).bind fun t20004 => (if (t20004 != (decide (t20002 ≥ 0))) = true then (laws_FnDepth.j0 k t20001 t20002 true) else ((impl_IsFunction.f t20001).bind fun t20005 => ((spec_IsFunction.f t20001).bind fun t20006 => (laws_FnDepth.j0 k t20001 t20002 (t20005 != t20006)))))) else (laws_FnDepth.j0 k t20001 t20002 true)))) = some r := H
    have A3 := Aside0.mk A30
    clear A30
    replace H := Option.bind_eq_some_iff.mp H
    obtain ⟨t20002, A40, H⟩ := H
    replace H : ((spec_DepthOfTerm.f t20001).bind fun t20003 => (if t20002 = t20003 then ((impl_IsFunction.f t20001).bind fun t20004 => (if (t20004 != (decide (t20002 ≥ 0))) = true then (laws_FnDepth.j0 k t20001 t20002 true) else ((impl_IsFunction.f t20001).bind fun t20005 => ((spec_IsFunction.f t20001).bind fun t20006 => (laws_FnDepth.j0 k t20001 t20002 (t20005 != t20006)))))) else (laws_FnDepth.j0 k t20001 t20002 true))) = some r := H
    have A4 := Aside0.mk A40
    clear A40
    have HC5 := Aside0.mk H
    clear H
    go_enter Try.func3, Try.ntmps3
    go_upto_region 5 with (first | ((with_reducible refine gate_callee (f := 5) rfl ?_); refine goesL_ (some 14) rfl rfl Try.func5 (by kernel_rfl) rfl #[.slice A0 l0.length c0] rfl (by (try simp only [List.map_toArray, List.map_cons, List.map_nil]); first | done | rfl | (simp only [List.length_drop, List.length_take]; rfl)) ?_; (with_reducible refine (spec_DrawDepthOfTerm.calls k _ _ l0 t20001 _ ?side1 ?side2 A3.out).mono ?_); (case side1 => repeat (first | exact HR0.out | (with_reducible refine Kd.C_alloc ?_ _) | (with_reducible refine Kd.C_drewN ?_ _) | (with_reducible refine Kd.C_drew ?_))); (case side2 => exact HC0.out); rintro e w6 ⟨rfl, hb⟩; refine ⟨_, rfl, ?_⟩; have n0_ := Aside0.mk (below_step (by repeat (first | (with_reducible first | exact HB.out | apply below_alloc | apply pw_below_drewN | apply below_drew1) | exact HB.out)) hb); clear HB; have HB := n0_; clear n0_; (try clear hb); (try clear hb2); (try clear hk); (try clear hi)) | ((with_reducible refine gate_callee (f := 6) rfl ?_); refine goesL_ (some 16) rfl rfl Try.func6 (by kernel_rfl) rfl #[.string t20001] rfl (by (try simp only [List.map_toArray, List.map_cons, List.map_nil]); first | done | rfl | (simp only [List.length_drop, List.length_take]; rfl)) ?_; (with_reducible refine (impl_DepthOfTerm.calls t20001 t20002 _ A4.out).mono ?_); rintro e w7 ⟨rfl, hb⟩; refine ⟨_, rfl, ?_⟩; have n0_ := Aside0.mk (below_step (by repeat (first | (with_reducible first | exact HB.out | apply below_alloc | apply pw_below_drewN | apply below_drew1) | exact HB.out)) hb); clear HB; have HB := n0_; clear n0_; (try clear hb); (try clear hb2); (try clear hk); (try clear hi)))
    (try simp only [Act.put, List.setIfInBounds_toArray, List.set_cons_zero, List.set_cons_succ])
    go_cut [34] (fun v34 wc => ∃ (kq : Nat) (x34_4 : Bool), v34 = .bool x34_4 ∧ Aside0 (laws_FnDepth.j0 kq t20001 t20002 x34_4 = some r) ∧ Aside0 (kq ≤ k) ∧ Aside0 (Below w.heap.size w wc))
    case first =>
      have H := HC5.out
      clear HC5
      replace H := Option.bind_eq_some_iff.mp H
      obtain ⟨t20003, A80, H⟩ := H
      replace H : (if t20002 = t20003 then ((impl_IsFunction.f t20001).bind fun t20004 => (if (t20004 != (decide (t20002 ≥ 0))) = true then (laws_FnDepth.j0 k t20001 t20002 true) else ((impl_IsFunction.f t20001).bind fun t20005 => ((spec_IsFunction.f t20001).bind fun t20006 => (laws_FnDepth.j0 k t20001 t20002 (t20005 != t20006)))))) else (laws_FnDepth.j0 k t20001 t20002 true)) = some r := H
      have A8 := Aside0.mk A80
      clear A80
      by_cases c9 : t20002 = t20003
      · rw [if_pos c9] at H
        have c9b0 : (t20002 == t20003) = true := beq_iff_eq.mpr c9
        have c9b1 : (t20002 != t20003) = false := bne_eq_false_iff_eq.mpr c9
        clear c9
        (first | rw [c9b0] | (simp only [i64_w, i32_w]; rw [c9b0]) | skip)
        replace H := Option.bind_eq_some_iff.mp H
        obtain ⟨t20004, A100, H⟩ := H
        replace H : (if (t20004 != (decide (t20002 ≥ 0))) = true then (laws_FnDepth.j0 k t20001 t20002 true) else ((impl_IsFunction.f t20001).bind fun t20005 => ((spec_IsFunction.f t20001).bind fun t20006 => (laws_FnDepth.j0 k t20001 t20002 (t20005 != t20006))))) = some r := H
        have A10 := Aside0.mk A100
        clear A100
        by_cases c11 : (t20004 != (decide (t20002 ≥ 0))) = true
        · rw [if_pos c11] at H
          have c11b0 : (t20004 != (decide (t20002 ≥ 0))) = true := c11
          (try (have c11b1 : decide (t20004 = (decide (t20002 ≥ 0))) = false := by simpa using c11))
          (try (have c11b2 : (t20004 == (decide (t20002 ≥ 0))) = false := by simpa using c11))
          (try (have c11b3 : ¬ (t20004 = (decide (t20002 ≥ 0))) := by simpa using c11))
          clear c11
          have H' := Aside0.mk H
          clear H
          go_wp2_with (first | ((with_reducible refine gate_callee (f := 7) rfl ?_); refine goesL_ (some 19) rfl rfl Try.func7 (by kernel_rfl) rfl #[.string t20001] rfl (by (try simp only [List.map_toArray, List.map_cons, List.map_nil]); first | done | rfl | (simp only [List.length_drop, List.length_take]; rfl)) ?_; (with_reducible refine (spec_DepthOfTerm.calls t20001 t20003 _ A8.out).mono ?_); rintro e w12 ⟨rfl, hb⟩; refine ⟨_, rfl, ?_⟩; have n0_ := Aside0.mk (below_step (by repeat (first | (with_reducible first | exact HB.out | apply below_alloc | apply pw_below_drewN | apply below_drew1) | exact HB.out)) hb); clear HB; have HB := n0_; clear n0_; (try clear hb); (try clear hb2); (try clear hk); (try clear hi)) | (go_at_call 8; (with_reducible refine (impl_IsFunction.calls t20001 t20004 _ A10.out).mono ?_); rintro e w13 ⟨rfl, hb⟩; have n0_ := Aside0.mk (below_step (by repeat (first | (with_reducible first | exact HB.out | apply below_alloc | apply pw_below_drewN | apply below_drew1) | exact HB.out)) hb); clear HB; have HB := n0_; clear n0_; (try clear hb); (try clear hb2); (try clear hk); (try clear hi)))
          go_meet
          case rel => exact ⟨_, (true), (by first | rfl | (simp; done) | (simp [*]; done)), H', ⟨by first | omega | exact Nat.le_refl _⟩, ⟨by repeat (first | (with_reducible first | exact HB.out | apply below_alloc | apply pw_below_drewN | apply below_drew1) | exact HB.out)⟩⟩
        · rw [if_neg c11] at H
          have c11b0 : (t20004 != (decide (t20002 ≥ 0))) = false := by simpa using c11
          (try (have c11b1 : decide (t20004 = (decide (t20002 ≥ 0))) = true := by simpa using c11))
          (try (have c11b2 : (t20004 == (decide (t20002 ≥ 0))) = true := by simpa using c11))
          clear c11
          replace H := Option.bind_eq_some_iff.mp H
          obtain ⟨t20005, A140, H⟩ := H
          replace H : ((spec_IsFunction.f t20001).bind fun t20006 => (laws_FnDepth.j0 k t20001 t20002 (t20005 != t20006))) = some r := H
          have A14 := Aside0.mk A140
          clear A140
          replace H := Option.bind_eq_some_iff.mp H
          obtain ⟨t20006, A150, H⟩ := H
          replace H : (laws_FnDepth.j0 k t20001 t20002 (t20005 != t20006)) = some r := H
          have A15 := Aside0.mk A150
          clear A150
          have H' := Aside0.mk H
          clear H
          go_wp2_with (first | ((with_reducible refine gate_callee (f := 7) rfl ?_); refine goesL_ (some 19) rfl rfl Try.func7 (by kernel_rfl) rfl #[.string t20001] rfl (by (try simp only [List.map_toArray, List.map_cons, List.map_nil]); first | done | rfl | (simp only [List.length_drop, List.length_take]; rfl)) ?_; (with_reducible refine (spec_DepthOfTerm.calls t20001 t20003 _ A8.out).mono ?_); rintro e w16 ⟨rfl, hb⟩; refine ⟨_, rfl, ?_⟩; have n0_ := Aside0.mk (below_step (by repeat (first | (with_reducible first | exact HB.out | apply below_alloc | apply pw_below_drewN | apply below_drew1) | exact HB.out)) hb); clear HB; have HB := n0_; clear n0_; (try clear hb); (try clear hb2); (try clear hk); (try clear hi)) | (go_at_call 8; (with_reducible refine (impl_IsFunction.calls t20001 t20004 _ A10.out).mono ?_); rintro e w17 ⟨rfl, hb⟩; have n0_ := Aside0.mk (below_step (by repeat (first | (with_reducible first | exact HB.out | apply below_alloc | apply pw_below_drewN | apply below_drew1) | exact HB.out)) hb); clear HB; have HB := n0_; clear n0_; (try clear hb); (try clear hb2); (try clear hk); (try clear hi)) | (go_at_call 8; (with_reducible refine (impl_IsFunction.calls t20001 t20005 _ A14.out).mono ?_); rintro e w18 ⟨rfl, hb⟩; have n0_ := Aside0.mk (below_step (by repeat (first | (with_reducible first | exact HB.out | apply below_alloc | apply pw_below_drewN | apply below_drew1) | exact HB.out)) hb); clear HB; have HB := n0_; clear n0_; (try clear hb); (try clear hb2); (try clear hk); (try clear hi)) | (go_at_call 9; (with_reducible refine (spec_IsFunction.calls t20001 t20006 _ A15.out).mono ?_); rintro e w19 ⟨rfl, hb⟩; have n0_ := Aside0.mk (below_step (by repeat (first | (with_reducible first | exact HB.out | apply below_alloc | apply pw_below_drewN | apply below_drew1) | exact HB.out)) hb); clear HB; have HB := n0_; clear n0_; (try clear hb); (try clear hb2); (try clear hk); (try clear hi)))
          go_meet
          case rel => exact ⟨_, ((t20005 != t20006)), (by first | rfl | (simp; done) | (simp [*]; done) | (have ew := A10.out.symm.trans A14.out; cases ew; first | (simp; done) | (simp [bne]; done))), H', ⟨by first | omega | exact Nat.le_refl _⟩, ⟨by repeat (first | (with_reducible first | exact HB.out | apply below_alloc | apply pw_below_drewN | apply below_drew1) | exact HB.out)⟩⟩
      · rw [if_neg c9] at H
        have c9b0 : (t20002 == t20003) = false := beq_eq_false_iff_ne.mpr c9
        have c9b1 : (t20002 != t20003) = true := bne_iff_ne.mpr c9
        (first | rw [c9b0] | (simp only [i64_w, i32_w]; rw [c9b0]) | skip)
        have H' := Aside0.mk H
        clear H
        go_wp2_with (first | ((with_reducible refine gate_callee (f := 7) rfl ?_); refine goesL_ (some 19) rfl rfl Try.func7 (by kernel_rfl) rfl #[.string t20001] rfl (by (try simp only [List.map_toArray, List.map_cons, List.map_nil]); first | done | rfl | (simp only [List.length_drop, List.length_take]; rfl)) ?_; (with_reducible refine (spec_DepthOfTerm.calls t20001 t20003 _ A8.out).mono ?_); rintro e w20 ⟨rfl, hb⟩; refine ⟨_, rfl, ?_⟩; have n0_ := Aside0.mk (below_step (by repeat (first | (with_reducible first | exact HB.out | apply below_alloc | apply pw_below_drewN | apply below_drew1) | exact HB.out)) hb); clear HB; have HB := n0_; clear n0_; (try clear hb); (try clear hb2); (try clear hk); (try clear hi)))
        go_meet
        case rel => exact ⟨_, (true), (by first | rfl | (simp; done) | (simp [*]; done)), H', ⟨by first | omega | exact Nat.le_refl _⟩, ⟨by repeat (first | (with_reducible first | exact HB.out | apply below_alloc | apply pw_below_drewN | apply below_drew1) | exact HB.out)⟩⟩
    case rest =>
      clear HC5
      try clear c1
      try clear c2
      try clear c2b0
      try clear c2b1
      try clear p2
      try clear c3
      try clear c5
      try clear c6
      try clear c7
      try clear c9
      try clear c9b0
      try clear c9b1
      try clear c11
      try clear c11b0
      try clear c11b1
      try clear c11b2
      obtain ⟨kq, x34_4, rfl, HA, HJ4, HB⟩ := hcut
      cases kq with
      | zero => exact absurd HA.out (by simp [laws_FnDepth.j0])
      | succ kj4 =>
        have H := HA.out
        clear HA
        simp only [laws_FnDepth.j0] at H
        by_cases c21 : x34_4 = true
        · subst c21
          have H1 : (none) = some r := by rw [if_pos rfl] at H; exact H
          clear H
          have H := H1
          clear H1
          exact absurd H (by simp)
        · replace c21 := Bool.eq_false_iff.mpr c21
          subst c21
          have H1 : (if t20002 < 0 then (some (t20002 == (-1))) else ((impl_FreeVars.f t20001).bind fun t20007 => (laws_FnDepth.l0 kj4 t20001 t20002 t20007 (t20007.size : Int) 0))) = some r := by rw [if_neg (show ¬ (false = true) by decide)] at H; exact H
          clear H
          have H := H1
          clear H1
          by_cases c22 : t20002 < 0
          · rw [if_pos c22] at H
            have c22b0 : decide (t20002 < 0) = true := decide_eq_true c22
            clear c22
            obtain rfl := Option.some.inj H
            go_wp2
            all_goals (try (exfalso; omega))
            go_ret
            exact ⟨by first | rfl | (simp [errW_none, errW_some] <;> rfl) | (simp [*, errW_none, errW_some] <;> rfl), by repeat (first | (with_reducible first | exact HB.out | apply below_alloc | apply pw_below_drewN | apply below_drew1) | exact HB.out)⟩
          · rw [if_neg c22] at H
            have c22b0 : decide (t20002 < 0) = false := decide_eq_false c22
            clear c22
            replace H := Option.bind_eq_some_iff.mp H
            obtain ⟨t20007, A230, H⟩ := H
            replace H : (laws_FnDepth.l0 kj4 t20001 t20002 t20007 (t20007.size : Int) 0) = some r := H
            have A23 := Aside0.mk A230
            clear A230
            have H' := Aside0.mk H
            clear H
            go_wp2_with (first | ((with_reducible refine gate_callee (f := 10) rfl ?_); refine goesL_ (some 40) rfl rfl Try.func10 (by kernel_rfl) rfl #[.string t20001] rfl (by (try simp only [List.map_toArray, List.map_cons, List.map_nil]); first | done | rfl | (simp only [List.length_drop, List.length_take]; rfl)) ?_; (with_reducible refine (impl_FreeVars.calls t20001 t20007 _ A23.out).mono ?_); rintro e w24 ⟨rfl, hb⟩; refine ⟨_, rfl, ?_⟩; have n0_ := Aside0.mk (below_step (by repeat (first | (with_reducible first | exact HB.out | apply below_alloc | apply pw_below_drewN | apply below_drew1) | exact HB.out)) hb); clear HB; have HB := n0_; clear n0_; (try clear hb); (try clear hb2); (try clear hk); (try clear hi)))
            go_loopg [43] kj4 (fun kq v43 w' => ∃ (x43_2 : Int), v43 = .int .i64 x43_2 ∧ Aside0 (laws_FnDepth.l0 kq t20001 t20002 t20007 (t20007.size : Int) x43_2 = some r) ∧ Aside0 (kq ≤ kj4) ∧ Aside0 (Below w.heap.size w w'))
            case atStart => exact ⟨(0), (by first | rfl | (simp; done) | (simp [*]; done)), H', ⟨Nat.le_refl _⟩, ⟨by repeat (first | (with_reducible first | exact HB.out | apply below_alloc | apply pw_below_drewN | apply below_drew1) | exact HB.out)⟩⟩
            case round =>
              clear H'
              try clear c1
              try clear c2
              try clear c2b0
              try clear c2b1
              try clear p2
              try clear c3
              try clear c5
              try clear c6
              try clear c7
              try clear c9
              try clear c9b0
              try clear c9b1
              try clear c10
              try clear c11
              try clear c11b0
              try clear c11b1
              try clear c11b2
              try clear c21
              try clear c22
              try clear c22b0
              try clear p2
              obtain ⟨x43_2, rfl, HA, HK2, HB⟩ := hrel
              cases gk with
              | zero => exact absurd HA.out (by simp [laws_FnDepth.l0])
              | succ k2 =>
                have H := HA.out
                clear HA
                simp only [laws_FnDepth.l0] at H
                by_cases c25 : x43_2 < (t20007.size : Int)
                · rw [if_pos c25] at H
                  have c25b0 : decide (x43_2 < (t20007.size : Int)) = true := decide_eq_true c25
                  clear c25
                  by_cases c26 : 0 ≤ x43_2
                  · rw [if_pos c26] at H
                    have c26b0 : decide (0 ≤ x43_2) = true := decide_eq_true c26
                    clear c26
                    by_cases c27 : x43_2 < (t20007.size : Int)
                    · rw [if_pos c27] at H
                      have c27b0 : decide (x43_2 < (t20007.size : Int)) = true := decide_eq_true c27
                      clear c27
                      by_cases c29 : (bt t20007 x43_2) = 97
                      · rw [if_pos c29] at H
                        have c29b0 : ((bt t20007 x43_2) == 97) = true := beq_iff_eq.mpr c29
                        have c29b1 : ((bt t20007 x43_2) != 97) = false := bne_eq_false_iff_eq.mpr c29
                        clear c29
                        have H' := Aside0.mk H
                        clear H
                        have p28 : 0 ≤ (x43_2 : Int) := of_decide_eq_true (by first | (with_reducible assumption) | assumption)
                        have q28 : x43_2 < (t20007.size : Int) := of_decide_eq_true (by first | (with_reducible assumption) | assumption)
                        have hx28 := bt_at t20007 x43_2
                        replace p28 := eq_true p28
                        replace q28 := eq_true q28
                        go_wp2
                        go_roundg k2
                        case measure => have := HJ4.out; have := HK2.out; omega
                        case rel => exact ⟨(wrap64 (x43_2 + 1)), (by first | rfl | (simp; done) | (simp [*]; done)), H', ⟨by have := HJ4.out; have := HK2.out; omega⟩, ⟨by repeat (first | (with_reducible first | exact HB.out | apply below_alloc | apply pw_below_drewN | apply below_drew1) | exact HB.out)⟩⟩
                      · rw [if_neg c29] at H
                        have c29b0 : ((bt t20007 x43_2) == 97) = false := beq_eq_false_iff_ne.mpr c29
                        have c29b1 : ((bt t20007 x43_2) != 97) = true := bne_iff_ne.mpr c29
                        by_cases c31 : (bt t20007 x43_2) = 98
                        · rw [if_pos c31] at H
                          have c31b0 : ((bt t20007 x43_2) == 98) = true := beq_iff_eq.mpr c31
                          have c31b1 : ((bt t20007 x43_2) != 98) = false := bne_eq_false_iff_eq.mpr c31
                          clear c31
                          have H' := Aside0.mk H
                          clear H
                          have p28 : 0 ≤ (x43_2 : Int) := of_decide_eq_true (by first | (with_reducible assumption) | assumption)
                          have q28 : x43_2 < (t20007.size : Int) := of_decide_eq_true (by first | (with_reducible assumption) | assumption)
                          have hx28 := bt_at t20007 x43_2
                          replace p28 := eq_true p28
                          replace q28 := eq_true q28
                          have p30 : 0 ≤ (x43_2 : Int) := of_decide_eq_true (by first | (with_reducible assumption) | assumption)
                          have q30 : x43_2 < (t20007.size : Int) := of_decide_eq_true (by first | (with_reducible assumption) | assumption)
                          have hx30 := bt_at t20007 x43_2
                          replace p30 := eq_true p30
                          replace q30 := eq_true q30
                          go_wp2
                          go_roundg k2
                          case measure => have := HJ4.out; have := HK2.out; omega
                          case rel => exact ⟨(wrap64 (x43_2 + 1)), (by first | rfl | (simp; done) | (simp [*]; done)), H', ⟨by have := HJ4.out; have := HK2.out; omega⟩, ⟨by repeat (first | (with_reducible first | exact HB.out | apply below_alloc | apply pw_below_drewN | apply below_drew1) | exact HB.out)⟩⟩
                        · rw [if_neg c31] at H
                          exact absurd H (by simp)
                    · rw [if_neg c27] at H
                      exact absurd H (by simp)
                  · rw [if_neg c26] at H
                    exact absurd H (by simp)
                · rw [if_neg c25] at H
                  have c25b0 : decide (x43_2 < (t20007.size : Int)) = false := decide_eq_false c25
                  clear c25
                  replace H := Option.bind_eq_some_iff.mp H
                  obtain ⟨t20008, A320, H⟩ := H
                  replace H : (if (t20008.length : Int) = 1 then (laws_FnDepth.j2 k2 t20002 t20008 true) else (if (t20008.length : Int) = 2 then ((impl_SignOf.f t20001).bind fun t20011 => (if t20011.toList = ([91] : List UInt8) then (laws_FnDepth.j2 k2 t20002 t20008 false) else ((impl_SignOf.f t20001).bind fun t20012 => (laws_FnDepth.j2 k2 t20002 t20008 (t20012.toList != ([123] : List UInt8)))))) else (laws_FnDepth.j2 k2 t20002 t20008 false))) = some r := H
                  have A32 := Aside0.mk A320
                  clear A320
                  have HC33 := Aside0.mk H
                  clear H
                  go_upto_region 17 with (first | ((with_reducible refine gate_callee (f := 11) rfl ?_); refine goesL_ (some 58) rfl rfl Try.func11 (by kernel_rfl) rfl #[.string t20001] rfl (by (try simp only [List.map_toArray, List.map_cons, List.map_nil]); first | done | rfl | (simp only [List.length_drop, List.length_take]; rfl)) ?_; (with_reducible refine (impl_PartsOfTerm.calls t20001 t20008 _ A32.out).mono ?_); rintro e w34 ⟨v20009, rfl, ho0, hb⟩; refine ⟨_, rfl, ?_⟩; have n0_ := Aside0.mk (Kd.R_lower ho0 (below_size (by repeat (first | (with_reducible first | exact HB.out | apply below_alloc | apply pw_below_drewN | apply below_drew1) | exact HB.out)))); have n1_ := Aside0.mk (below_step (by repeat (first | (with_reducible first | exact HB.out | apply below_alloc | apply pw_below_drewN | apply below_drew1) | exact HB.out)) hb); clear HB; have HO20010 := n0_; have HB := n1_; clear n0_ n1_; (try clear hb); (try clear hb2); (try clear hk); (try clear hi); (try clear ho0)))
                  (try simp only [Act.put, List.setIfInBounds_toArray, List.set_cons_zero, List.set_cons_succ])
                  go_cut [76] (fun v76 wc => ∃ (kq : Nat) (x76_32 : Bool), v76 = .bool x76_32 ∧ Aside0 (laws_FnDepth.j2 kq t20002 t20008 x76_32 = some r) ∧ Aside0 (kq ≤ k2) ∧ Aside0 (Kd.R Kd.string 9 wc w.heap.size (fun _ => True) v20009 t20008) ∧ Aside0 (Below w.heap.size w wc))
                  case first =>
                    have H := HC33.out
                    clear HC33
                    by_cases c35 : (t20008.length : Int) = 1
                    · rw [if_pos c35] at H
                      have c35b0 : ((t20008.length : Int) == 1) = true := beq_iff_eq.mpr c35
                      have c35b1 : ((t20008.length : Int) != 1) = false := bne_eq_false_iff_eq.mpr c35
                      clear c35
                      (first | rw [c35b0] | (simp only [i64_w, i32_w]; rw [c35b0]) | skip)
                      have H' := Aside0.mk H
                      clear H
                      obtain ⟨Ao36, co36, eo36⟩ := Kd.R_slice HO20010.out
                      subst eo36
                      go_wp2
                      go_meet
                      case rel => exact ⟨_, (true), (by first | rfl | (simp; done) | (simp [*]; done)), H', ⟨by have := HJ4.out; have := HK2.out; first | omega | exact Nat.le_refl _⟩, ⟨by (with_reducible repeat (first | apply Kd.R_alloc | apply Kd.R_drewN | apply Kd.R_drew)); exact HO20010.out⟩, ⟨by repeat (first | (with_reducible first | exact HB.out | apply below_alloc | apply pw_below_drewN | apply below_drew1) | exact HB.out)⟩⟩
                    · rw [if_neg c35] at H
                      have c35b0 : ((t20008.length : Int) == 1) = false := beq_eq_false_iff_ne.mpr c35
                      have c35b1 : ((t20008.length : Int) != 1) = true := bne_iff_ne.mpr c35
                      (first | rw [c35b0] | (simp only [i64_w, i32_w]; rw [c35b0]) | skip)
                      by_cases c37 : (t20008.length : Int) = 2
                      · rw [if_pos c37] at H
                        have c37b0 : ((t20008.length : Int) == 2) = true := beq_iff_eq.mpr c37
                        have c37b1 : ((t20008.length : Int) != 2) = false := bne_eq_false_iff_eq.mpr c37
                        clear c37
                        replace H := Option.bind_eq_some_iff.mp H
                        obtain ⟨t20011, A380, H⟩ := H
                        replace H : (if t20011.toList = ([91] : List UInt8) then (laws_FnDepth.j2 k2 t20002 t20008 false) else ((impl_SignOf.f t20001).bind fun t20012 => (laws_FnDepth.j2 k2 t20002 t20008 (t20012.toList != ([123] : List UInt8))))) = some r := H
                        have A38 := Aside0.mk A380
                        clear A380
                        by_cases c39 : t20011.toList = ([91] : List UInt8)
                        · rw [if_pos c39] at H
                          have c39b0 : (t20011.toList == ([91] : List UInt8)) = true := beq_iff_eq.mpr c39
                          have c39b1 : (t20011.toList != ([91] : List UInt8)) = false := bne_eq_false_iff_eq.mpr c39
                          clear c39
                          have H' := Aside0.mk H
                          clear H
                          obtain ⟨Ao40, co40, eo40⟩ := Kd.R_slice HO20010.out
                          subst eo40
                          go_wp2_with (first | (go_at_call 12; (with_reducible refine (impl_SignOf.calls t20001 t20011 _ A38.out).mono ?_); rintro e w41 ⟨rfl, hb⟩; have n0_ := Aside0.mk (Kd.R_below (by (with_reducible repeat (first | apply Kd.R_alloc | apply Kd.R_drewN | apply Kd.R_drew)); exact HO20010.out) hb); have n1_ := Aside0.mk (below_step (by repeat (first | (with_reducible first | exact HB.out | apply below_alloc | apply pw_below_drewN | apply below_drew1) | exact HB.out)) hb); clear HO20010; clear HB; have HO20010 := n0_; have HB := n1_; clear n0_ n1_; (try clear hb); (try clear hb2); (try clear hk); (try clear hi)))
                          go_meet
                          case rel => exact ⟨_, (false), (by first | rfl | (simp; done) | (simp [*]; done)), H', ⟨by have := HJ4.out; have := HK2.out; first | omega | exact Nat.le_refl _⟩, ⟨by (with_reducible repeat (first | apply Kd.R_alloc | apply Kd.R_drewN | apply Kd.R_drew)); exact HO20010.out⟩, ⟨by repeat (first | (with_reducible first | exact HB.out | apply below_alloc | apply pw_below_drewN | apply below_drew1) | exact HB.out)⟩⟩
                        · rw [if_neg c39] at H
                          have c39b0 : (t20011.toList == ([91] : List UInt8)) = false := beq_eq_false_iff_ne.mpr c39
                          have c39b1 : (t20011.toList != ([91] : List UInt8)) = true := bne_iff_ne.mpr c39
                          replace H := Option.bind_eq_some_iff.mp H
                          obtain ⟨t20012, A420, H⟩ := H
                          replace H : (laws_FnDepth.j2 k2 t20002 t20008 (t20012.toList != ([123] : List UInt8))) = some r := H
                          have A42 := Aside0.mk A420
                          clear A420
                          have H' := Aside0.mk H
                          clear H
                          obtain ⟨Ao43, co43, eo43⟩ := Kd.R_slice HO20010.out
                          subst eo43
                          go_wp2_with (first | (go_at_call 12; (with_reducible refine (impl_SignOf.calls t20001 t20011 _ A38.out).mono ?_); rintro e w44 ⟨rfl, hb⟩; have n0_ := Aside0.mk (Kd.R_below (by (with_reducible repeat (first | apply Kd.R_alloc | apply Kd.R_drewN | apply Kd.R_drew)); exact HO20010.out) hb); have n1_ := Aside0.mk (below_step (by repeat (first | (with_reducible first | exact HB.out | apply below_alloc | apply pw_below_drewN | apply below_drew1) | exact HB.out)) hb); clear HO20010; clear HB; have HO20010 := n0_; have HB := n1_; clear n0_ n1_; (try clear hb); (try clear hb2); (try clear hk); (try clear hi)) | (go_at_call 12; (with_reducible refine (impl_SignOf.calls t20001 t20012 _ A42.out).mono ?_); rintro e w45 ⟨rfl, hb⟩; have n0_ := Aside0.mk (Kd.R_below (by (with_reducible repeat (first | apply Kd.R_alloc | apply Kd.R_drewN | apply Kd.R_drew)); exact HO20010.out) hb); have n1_ := Aside0.mk (below_step (by repeat (first | (with_reducible first | exact HB.out | apply below_alloc | apply pw_below_drewN | apply below_drew1) | exact HB.out)) hb); clear HO20010; clear HB; have HO20010 := n0_; have HB := n1_; clear n0_ n1_; (try clear hb); (try clear hb2); (try clear hk); (try clear hi)))
                          go_meet
                          case rel => exact ⟨_, ((t20012.toList != ([123] : List UInt8))), (by first | rfl | (simp; done) | (simp [*]; done) | (have ew := A38.out.symm.trans A42.out; cases ew; first | (simp; done) | (simp [bne]; done))), H', ⟨by have := HJ4.out; have := HK2.out; first | omega | exact Nat.le_refl _⟩, ⟨by (with_reducible repeat (first | apply Kd.R_alloc | apply Kd.R_drewN | apply Kd.R_drew)); exact HO20010.out⟩, ⟨by repeat (first | (with_reducible first | exact HB.out | apply below_alloc | apply pw_below_drewN | apply below_drew1) | exact HB.out)⟩⟩
                      · rw [if_neg c37] at H
                        have c37b0 : ((t20008.length : Int) == 2) = false := beq_eq_false_iff_ne.mpr c37
                        have c37b1 : ((t20008.length : Int) != 2) = true := bne_iff_ne.mpr c37
                        have H' := Aside0.mk H
                        clear H
                        obtain ⟨Ao46, co46, eo46⟩ := Kd.R_slice HO20010.out
                        subst eo46
                        go_wp2
                        go_meet
                        case rel => exact ⟨_, (false), (by first | rfl | (simp; done) | (simp [*]; done)), H', ⟨by have := HJ4.out; have := HK2.out; first | omega | exact Nat.le_refl _⟩, ⟨by (with_reducible repeat (first | apply Kd.R_alloc | apply Kd.R_drewN | apply Kd.R_drew)); exact HO20010.out⟩, ⟨by repeat (first | (with_reducible first | exact HB.out | apply below_alloc | apply pw_below_drewN | apply below_drew1) | exact HB.out)⟩⟩
                  case rest =>
                    clear HC33
                    try clear c1
                    try clear c2
                    try clear c2b0
                    try clear c2b1
                    try clear p2
                    try clear q2
                    try clear hx2
                    try clear c3
                    try clear p3
                    try clear q3
                    try clear hx3
                    try clear c5
                    try clear c6
                    try clear p6
                    try clear c7
                    try clear c9
                    try clear c9b0
                    try clear c9b1
                    try clear c10
                    try clear c11
                    try clear c11b0
                    try clear c11b1
                    try clear c11b2
                    try clear c21
                    try clear c22
                    try clear c22b0
                    try clear c25
                    try clear c25b0
                    try clear c26
                    try clear c26b0
                    try clear c27
                    try clear c27b0
                    try clear p28
                    try clear q28
                    try clear hx28
                    try clear c29
                    try clear c29b0
                    try clear c29b1
                    try clear p30
                    try clear q30
                    try clear hx30
                    try clear c31
                    try clear c31b0
                    try clear c31b1
                    try clear c35
                    try clear c35b0
                    try clear c35b1
                    try clear c37
                    try clear c37b0
                    try clear c37b1
                    try clear c39
                    try clear c39b0
                    try clear c39b1
                    try clear p2
                    try clear p28
                    try clear p30
                    try clear q28
                    try clear q30
                    obtain ⟨kq, x76_32, rfl, HA, HJ32, HO_7, HB⟩ := hcut
                    cases kq with
                    | zero => exact absurd HA.out (by simp [laws_FnDepth.j2])
                    | succ kj32 =>
                      have H := HA.out
                      clear HA
                      simp only [laws_FnDepth.j2] at H
                      by_cases c47 : x76_32 = true
                      · subst c47
                        have H1 : (laws_FnDepth.l1 kj32 t20002 t20008 t20008 (t20008.length : Int) 0) = some r := by rw [if_pos rfl] at H; exact H
                        clear H
                        have H := H1
                        clear H1
                        have H' := Aside0.mk H
                        clear H
                        obtain ⟨Ao48, co48, eo48⟩ := Kd.R_slice HO_7.out
                        subst eo48
                        go_wp2
                        go_loopg [79] kj32 (fun kq v79 w' => ∃ (x79_4 : Int), v79 = .int .i64 x79_4 ∧ Aside0 (laws_FnDepth.l1 kq t20002 t20008 t20008 (t20008.length : Int) x79_4 = some r) ∧ Aside0 (kq ≤ kj32) ∧ Aside0 (Kd.R Kd.string 9 w' w.heap.size (fun _ => True) (.slice Ao48 t20008.length co48) t20008) ∧ Aside0 (Kd.R Kd.string 9 w' w.heap.size (fun _ => True) (.slice Ao48 t20008.length co48) t20008) ∧ Aside0 (Below w.heap.size w w'))
                        case atStart => exact ⟨(0), (by first | rfl | (simp; done) | (simp [*]; done)), H', ⟨Nat.le_refl _⟩, ⟨by (with_reducible repeat (first | apply Kd.R_alloc | apply Kd.R_drewN | apply Kd.R_drew)); exact HO_7.out⟩, ⟨by (with_reducible repeat (first | apply Kd.R_alloc | apply Kd.R_drewN | apply Kd.R_drew)); exact HO_7.out⟩, ⟨by repeat (first | (with_reducible first | exact HB.out | apply below_alloc | apply pw_below_drewN | apply below_drew1) | exact HB.out)⟩⟩
                        case round =>
                          clear H'
                          try clear c1
                          try clear c2
                          try clear c2b0
                          try clear c2b1
                          try clear p2
                          try clear q2
                          try clear hx2
                          try clear c3
                          try clear p3
                          try clear q3
                          try clear hx3
                          try clear c4
                          try clear c5
                          try clear c6
                          try clear p6
                          try clear c7
                          try clear c9
                          try clear c9b0
                          try clear c9b1
                          try clear c10
                          try clear c11
                          try clear c11b0
                          try clear c11b1
                          try clear c11b2
                          try clear c21
                          try clear c22
                          try clear c22b0
                          try clear c25
                          try clear c25b0
                          try clear c26
                          try clear c26b0
                          try clear c27
                          try clear c27b0
                          try clear p28
                          try clear q28
                          try clear hx28
                          try clear c29
                          try clear c29b0
                          try clear c29b1
                          try clear p30
                          try clear q30
                          try clear hx30
                          try clear c31
                          try clear c31b0
                          try clear c31b1
                          try clear c35
                          try clear c35b0
                          try clear c35b1
                          try clear c37
                          try clear c37b0
                          try clear c37b1
                          try clear c39
                          try clear c39b0
                          try clear c39b1
                          try clear c47
                          try clear p2
                          try clear p28
                          try clear p3
                          try clear p30
                          try clear p6
                          try clear q2
                          try clear q28
                          try clear q3
                          try clear q30
                          obtain ⟨x79_4, rfl, HA, HK4, HO_7, HO_77, HB⟩ := hrel
                          cases gk with
                          | zero => exact absurd HA.out (by simp [laws_FnDepth.l1])
                          | succ k4 =>
                            have H := HA.out
                            clear HA
                            simp only [laws_FnDepth.l1] at H
                            by_cases c49 : x79_4 < (t20008.length : Int)
                            · rw [if_pos c49] at H
                              have c49b0 : decide (x79_4 < (t20008.length : Int)) = true := decide_eq_true c49
                              clear c49
                              by_cases c50 : 0 ≤ x79_4
                              · rw [if_pos c50] at H
                                have c50b0 : decide (0 ≤ x79_4) = true := decide_eq_true c50
                                clear c50
                                by_cases c51 : x79_4 < (t20008.length : Int)
                                · rw [if_pos c51] at H
                                  have c51b0 : decide (x79_4 < (t20008.length : Int)) = true := decide_eq_true c51
                                  clear c51
                                  replace H := Option.bind_eq_some_iff.mp H
                                  obtain ⟨t20014, A520, H⟩ := H
                                  replace H : (if t20014 < 0 then (none) else (laws_FnDepth.l1 k4 t20002 t20008 t20008 (t20008.length : Int) (wrap64 (x79_4 + 1)))) = some r := H
                                  have A52 := Aside0.mk A520
                                  clear A520
                                  by_cases c53 : t20014 < 0
                                  · rw [if_pos c53] at H
                                    exact absurd H (by simp)
                                  · rw [if_neg c53] at H
                                    have c53b0 : decide (t20014 < 0) = false := decide_eq_false c53
                                    clear c53
                                    have H' := Aside0.mk H
                                    clear H
                                    have p20013 : 0 ≤ (x79_4 : Int) := of_decide_eq_true (by first | (with_reducible assumption) | assumption)
                                    have q20013 : x79_4 < (t20008.length : Int) := of_decide_eq_true (by first | (with_reducible assumption) | assumption)
                                    obtain ⟨ad20013, e20013, hx20013_0⟩ := Kd.at_string (Kd.R_reads' HO_77.out).2.2 x79_4 p20013 q20013
                                    cases e20013
                                    replace p20013 := eq_true p20013
                                    replace q20013 := eq_true q20013
                                    go_wp2_with (first | ((with_reducible refine gate_callee (f := 6) rfl ?_); refine goesL_ (some 84) rfl rfl Try.func6 (by kernel_rfl) rfl #[.string (rdOf ByteArray.empty t20008 x79_4)] rfl (by (try simp only [List.map_toArray, List.map_cons, List.map_nil]); first | done | rfl | (simp only [List.length_drop, List.length_take]; rfl)) ?_; (with_reducible refine (impl_DepthOfTerm.calls (rdOf ByteArray.empty t20008 x79_4) t20014 _ A52.out).mono ?_); rintro e w54 ⟨rfl, hb⟩; refine ⟨_, rfl, ?_⟩; have n0_ := Aside0.mk (Kd.R_below (by (with_reducible repeat (first | apply Kd.R_alloc | apply Kd.R_drewN | apply Kd.R_drew)); exact HO_7.out) hb); have n1_ := Aside0.mk (Kd.R_below (by (with_reducible repeat (first | apply Kd.R_alloc | apply Kd.R_drewN | apply Kd.R_drew)); exact HO_77.out) hb); have n2_ := Aside0.mk (below_step (by repeat (first | (with_reducible first | exact HB.out | apply below_alloc | apply pw_below_drewN | apply below_drew1) | exact HB.out)) hb); clear HO_7; clear HO_77; clear HB; have HO_7 := n0_; have HO_77 := n1_; have HB := n2_; clear n0_ n1_ n2_; (try clear hb); (try clear hb2); (try clear hk); (try clear hi)))
                                    go_roundg k4
                                    case measure => have := HJ4.out; have := HK2.out; have := HJ32.out; have := HK4.out; omega
                                    case rel => exact ⟨(wrap64 (x79_4 + 1)), (by first | rfl | (simp; done) | (simp [*]; done)), H', ⟨by have := HJ4.out; have := HK2.out; have := HJ32.out; have := HK4.out; omega⟩, ⟨by (with_reducible repeat (first | apply Kd.R_alloc | apply Kd.R_drewN | apply Kd.R_drew)); exact HO_7.out⟩, ⟨by (with_reducible repeat (first | apply Kd.R_alloc | apply Kd.R_drewN | apply Kd.R_drew)); exact HO_77.out⟩, ⟨by repeat (first | (with_reducible first | exact HB.out | apply below_alloc | apply pw_below_drewN | apply below_drew1) | exact HB.out)⟩⟩
                                · rw [if_neg c51] at H
                                  exact absurd H (by simp)
                              · rw [if_neg c50] at H
                                exact absurd H (by simp)
                            · rw [if_neg c49] at H
                              have c49b0 : decide (x79_4 < (t20008.length : Int)) = false := decide_eq_false c49
                              clear c49
                              by_cases c55 : t20002 ≤ 3
                              · rw [if_pos c55] at H
                                have c55b0 : decide (t20002 ≤ 3) = true := decide_eq_true c55
                                clear c55
                                by_cases c56 : (t20008.length : Int) = 0
                                · rw [if_pos c56] at H
                                  have c56b0 : ((t20008.length : Int) == 0) = true := beq_iff_eq.mpr c56
                                  have c56b1 : ((t20008.length : Int) != 0) = false := bne_eq_false_iff_eq.mpr c56
                                  clear c56
                                  obtain rfl := Option.some.inj H
                                  go_wp2
                                  all_goals (try (exfalso; omega))
                                  go_ret
                                  exact ⟨by first | rfl | (simp [errW_none, errW_some] <;> rfl) | (simp [*, errW_none, errW_some] <;> rfl), by repeat (first | (with_reducible first | exact HB.out | apply below_alloc | apply pw_below_drewN | apply below_drew1) | exact HB.out)⟩
                                · rw [if_neg c56] at H
                                  have c56b0 : ((t20008.length : Int) == 0) = false := beq_eq_false_iff_ne.mpr c56
                                  have c56b1 : ((t20008.length : Int) != 0) = true := bne_iff_ne.mpr c56
                                  have c56b2 : ¬ (t20008 = []) := fun h_ => c56 (by rw [h_]; rfl)
                                  by_cases c57 : 0 < (t20008.length : Int)
                                  · rw [if_pos c57] at H
                                    have c57b0 : decide (0 < (t20008.length : Int)) = true := decide_eq_true c57
                                    have c57b1 : decide (0 < t20008.length) = true := decide_eq_true (by omega)
                                    clear c57
                                    replace H := Option.bind_eq_some_iff.mp H
                                    obtain ⟨t20016, A580, H⟩ := H
                                    replace H : (some t20016) = some r := H
                                    have A58 := Aside0.mk A580
                                    clear A580
                                    obtain rfl := Option.some.inj H
                                    have p20015 : 0 ≤ (0 : Int) := (by omega)
                                    have q20015 : 0 < (t20008.length : Int) := of_decide_eq_true (by first | (with_reducible assumption) | assumption)
                                    obtain ⟨ad20015, e20015, hx20015_0⟩ := Kd.at_string (Kd.R_reads' HO_7.out).2.2 0 p20015 q20015
                                    cases e20015
                                    have qi20015 : (0 < t20008.length) = True := eq_true (by omega)
                                    (try rw [show ((0 : Int)).toNat = 0 from rfl] at hx20015_0)
                                    (try rw [Addr.add_zero'] at hx20015_0)
                                    replace p20015 := eq_true p20015
                                    replace q20015 := eq_true q20015
                                    go_wp2_with (first | (go_at_call 8; (with_reducible refine (impl_IsFunction.calls (rdOf ByteArray.empty t20008 0) t20016 _ A58.out).mono ?_); rintro e w59 ⟨rfl, hb⟩; have n0_ := Aside0.mk (Kd.R_below (by (with_reducible repeat (first | apply Kd.R_alloc | apply Kd.R_drewN | apply Kd.R_drew)); exact HO_7.out) hb); have n1_ := Aside0.mk (Kd.R_below (by (with_reducible repeat (first | apply Kd.R_alloc | apply Kd.R_drewN | apply Kd.R_drew)); exact HO_77.out) hb); have n2_ := Aside0.mk (below_step (by repeat (first | (with_reducible first | exact HB.out | apply below_alloc | apply pw_below_drewN | apply below_drew1) | exact HB.out)) hb); clear HO_7; clear HO_77; clear HB; have HO_7 := n0_; have HO_77 := n1_; have HB := n2_; clear n0_ n1_ n2_; (try clear hb); (try clear hb2); (try clear hk); (try clear hi)))
                                    all_goals (try (exfalso; omega))
                                    go_ret
                                    exact ⟨by first | rfl | (simp [errW_none, errW_some] <;> rfl) | (simp [*, errW_none, errW_some] <;> rfl), by repeat (first | (with_reducible first | exact HB.out | apply below_alloc | apply pw_below_drewN | apply below_drew1) | exact HB.out)⟩
                                  · rw [if_neg c57] at H
                                    exact absurd H (by simp)
                              · rw [if_neg c55] at H
                                exact absurd H (by simp)
                      · replace c47 := Bool.eq_false_iff.mpr c47
                        subst c47
                        have H1 : (if t20002 ≤ 3 then (if (t20008.length : Int) = 0 then (some true) else (if 0 < (t20008.length : Int) then ((impl_IsFunction.f (rdOf ByteArray.empty t20008 0)).bind fun t20018 => (some t20018)) else (none))) else (none)) = some r := by rw [if_neg (show ¬ (false = true) by decide)] at H; exact H
                        clear H
                        have H := H1
                        clear H1
                        by_cases c60 : t20002 ≤ 3
                        · rw [if_pos c60] at H
                          have c60b0 : decide (t20002 ≤ 3) = true := decide_eq_true c60
                          clear c60
                          by_cases c61 : (t20008.length : Int) = 0
                          · rw [if_pos c61] at H
                            have c61b0 : ((t20008.length : Int) == 0) = true := beq_iff_eq.mpr c61
                            have c61b1 : ((t20008.length : Int) != 0) = false := bne_eq_false_iff_eq.mpr c61
                            clear c61
                            obtain rfl := Option.some.inj H
                            obtain ⟨Ao62, co62, eo62⟩ := Kd.R_slice HO_7.out
                            subst eo62
                            go_wp2
                            all_goals (try (exfalso; omega))
                            go_ret
                            exact ⟨by first | rfl | (simp [errW_none, errW_some] <;> rfl) | (simp [*, errW_none, errW_some] <;> rfl), by repeat (first | (with_reducible first | exact HB.out | apply below_alloc | apply pw_below_drewN | apply below_drew1) | exact HB.out)⟩
                          · rw [if_neg c61] at H
                            have c61b0 : ((t20008.length : Int) == 0) = false := beq_eq_false_iff_ne.mpr c61
                            have c61b1 : ((t20008.length : Int) != 0) = true := bne_iff_ne.mpr c61
                            have c61b2 : ¬ (t20008 = []) := fun h_ => c61 (by rw [h_]; rfl)
                            by_cases c63 : 0 < (t20008.length : Int)
                            · rw [if_pos c63] at H
                              have c63b0 : decide (0 < (t20008.length : Int)) = true := decide_eq_true c63
                              have c63b1 : decide (0 < t20008.length) = true := decide_eq_true (by omega)
                              clear c63
                              replace H := Option.bind_eq_some_iff.mp H
                              obtain ⟨t20018, A640, H⟩ := H
                              replace H : (some t20018) = some r := H
                              have A64 := Aside0.mk A640
                              clear A640
                              obtain rfl := Option.some.inj H
                              obtain ⟨Ao65, co65, eo65⟩ := Kd.R_slice HO_7.out
                              subst eo65
                              have p20017 : 0 ≤ (0 : Int) := (by omega)
                              have q20017 : 0 < (t20008.length : Int) := of_decide_eq_true (by first | (with_reducible assumption) | assumption)
                              obtain ⟨ad20017, e20017, hx20017_0⟩ := Kd.at_string (Kd.R_reads' HO_7.out).2.2 0 p20017 q20017
                              cases e20017
                              have qi20017 : (0 < t20008.length) = True := eq_true (by omega)
                              (try rw [show ((0 : Int)).toNat = 0 from rfl] at hx20017_0)
                              (try rw [Addr.add_zero'] at hx20017_0)
                              replace p20017 := eq_true p20017
                              replace q20017 := eq_true q20017
                              go_wp2_with (first | (go_at_call 8; (with_reducible refine (impl_IsFunction.calls (rdOf ByteArray.empty t20008 0) t20018 _ A64.out).mono ?_); rintro e w66 ⟨rfl, hb⟩; have n0_ := Aside0.mk (Kd.R_below (by (with_reducible repeat (first | apply Kd.R_alloc | apply Kd.R_drewN | apply Kd.R_drew)); exact HO_7.out) hb); have n1_ := Aside0.mk (below_step (by repeat (first | (with_reducible first | exact HB.out | apply below_alloc | apply pw_below_drewN | apply below_drew1) | exact HB.out)) hb); clear HO_7; clear HB; have HO_7 := n0_; have HB := n1_; clear n0_ n1_; (try clear hb); (try clear hb2); (try clear hk); (try clear hi)))
                              all_goals (try (exfalso; omega))
                              go_ret
                              exact ⟨by first | rfl | (simp [errW_none, errW_some] <;> rfl) | (simp [*, errW_none, errW_some] <;> rfl), by repeat (first | (with_reducible first | exact HB.out | apply below_alloc | apply pw_below_drewN | apply below_drew1) | exact HB.out)⟩
                            · rw [if_neg c63] at H
                              exact absurd H (by simp)
                        · rw [if_neg c60] at H
                          exact absurd H (by simp)
/-- THE ONE PURE STATEMENT of laws_FnDepth: yours. -/
def laws_FnDepth.Pure : Prop := ∀ (l0 : List Int), l0.length ≤ maxLen → l0.length * 1 ≤ 140737488351232 → (∀ x ∈ l0, (Lit.int .u8 x).wf = true) → ∃ k, laws_FnDepth.f k l0 = some true
theorem laws_FnDepth.walk (P : laws_FnDepth.Pure) (a0 : Option Addr) (len0 cap0 : Nat) (z0 : List Int) (w : World) (w0 : (a0 = none ∧ len0 = 0 ∧ cap0 = 0 ∧ z0 = []) ∨ ∃ x, a0 = some x ∧ len0 ≤ cap0 ∧ cap0 ≤ maxLen ∧ z0.length = cap0 ∧ (∀ i, i < z0.length → w.cell? (x.add i) = some (.int .u8 (z0.getD i 0))) ∧ ∀ n ∈ z0, (Lit.int .u8 n).wf = true) (y0 : len0 * 1 ≤ 140737488351232) :
    Calls Try.prog 3 #[.slice a0 len0 cap0] w fun e w' => e = .returned (.bool true) ∧ Below w.heap.size w w' := by
  obtain ⟨l0, rfl, hr0, hm0, hw0, hc0⟩ := ReadsInt.ofRowC w0
  obtain ⟨k, h⟩ := P l0 hm0 y0 hw0
  refine (laws_FnDepth.calls k _ _ l0 true w (Kd.C_of_reads (d := (0 : Int)) (h1 := fun _ => rfl) hr0) hc0 h).mono ?_
  rintro e w' ⟨rfl, hd⟩
  exact ⟨rfl, hd⟩
end Go.Proofs.Ytpklhagedifglaa.Vd
