-- Written for this claim by a program (wip/hyb/hyb.py).
import Derived.Test.YtnehpbkjmmadkaaMo0
import Derived.Test.YtnehpbkjmmadkaaMo1
import Derived.Test.YtnehpbkjmmadkaaMo2
import Derived.Test.YtnehpbkjmmadkaaMo3
import Derived.Test.YtnehpbkjmmadkaaMo4
import Derived.Test.YtnehpbkjmmadkaaMo5
namespace Go.Proofs.Ytnehpbkjmmadkaa.Mo
open Go.RowKit Go.Proofs.YtnehpbkjmmadkaaW.PrintWords Go.Proofs.YtnehpbkjmmadkaaW.PrintLast Go.Proofs.YtnehpbkjmmadkaaW.PrintMore
attribute [local go_sem] max2_int min2_int max_two min_two max_three min_three max_four min_four   -- for this text's walks alone
set_option linter.unusedVariables false
set_option linter.unusedSimpArgs false

/-! ### laws_FnMost: function 8 -/
mutual
def laws_FnMost.l0 : Nat → List Int → List Int → List Int → List Int → List Int → Int → Int → Option (Bool)
  | 0, _, _, _, _, _, _, _ => none
  | k + 1, x3, x4, x5, x9, x62, x63, x64 => if x64 < x63 then (if 0 ≤ x64 then (if x64 < (x62.length : Int) then (if (rd x62 x64) = 0 then (if x64 < (x5.length : Int) then (laws_FnMost.j1 k x3 x4 x5 x9 x64 (rd x62 x64) ((rd x5 x64) == 0) x62 x63 x64) else (none)) else (laws_FnMost.j1 k x3 x4 x5 x9 x64 (rd x62 x64) false x62 x63 x64)) else (none)) else (none)) else (some ((x5.length : Int) == (x3.length : Int)))
def laws_FnMost.j1 : Nat → List Int → List Int → List Int → List Int → Int → Int → Bool → List Int → Int → Int → Option (Bool)
  | 0, _, _, _, _, _, _, _, _, _, _ => none
  | k + 1, x3, x4, x5, x9, x11, x12, x13, x62, x63, x64 => if 0 ≤ x11 then (if x11 < (x9.length : Int) then (if 0 ≤ (rd x9 x11) then (if (rd x9 x11) ≤ (wrap64 ((rd x9 x11) + x12)) then (if (wrap64 ((rd x9 x11) + x12)) ≤ (x4.length : Int) then ((some ((x4.take ((wrap64 ((rd x9 x11) + x12)) : Int).toNat).drop ((rd x9 x11) : Int).toNat : List Int)).bind fun y20025 => (laws_FnMost.l1 k x3 x4 x5 x9 x11 x13 x62 x63 x64 y20025 (y20025.length : Int) 0)) else (none)) else (none)) else (none)) else (none)) else (none)
def laws_FnMost.l1 : Nat → List Int → List Int → List Int → List Int → Int → Bool → List Int → Int → Int → List Int → Int → Int → Option (Bool)
  | 0, _, _, _, _, _, _, _, _, _, _, _, _ => none
  | k + 1, x3, x4, x5, x9, x11, x13, x62, x63, x64, x89, x90, x91 => if x91 < x90 then (if 0 ≤ x91 then (if x91 < (x89.length : Int) then (if x13 = true then (if 0 ≤ x11 then (if x11 < (x5.length : Int) then (if (rd x89 x91) > (rd x5 x11) then (none) else (laws_FnMost.l1 k x3 x4 x5 x9 x11 true x62 x63 x64 x89 x90 (wrap64 (x91 + 1)))) else (none)) else (none)) else (if 0 ≤ x11 then (if x11 < (x5.length : Int) then (if (rd x89 x91) > (rd x5 x11) then (none) else (laws_FnMost.l1 k x3 x4 x5 x9 x11 ((rd x89 x91) == (rd x5 x11)) x62 x63 x64 x89 x90 (wrap64 (x91 + 1)))) else (none)) else (none))) else (none)) else (none)) else (if x13 = true then (laws_FnMost.l0 k x3 x4 x5 x9 x62 x63 (wrap64 (x64 + 1))) else (none))
end
def laws_FnMost.f (k : Nat) (l0 : List Int) : Option (Bool) := if (l0.length : Int) > 1048576 then (some true) else ((spec_DrawMostSegments.f k l0).bind fun bt20001 => ((impl_MostSegments.f k bt20001.1 bt20001.2).bind fun bt20007 => ((spec_MostSegments.f k bt20001.1 bt20001.2).bind fun bt20011 => ((laws_faSame.f k bt20007.1 bt20011.1).bind fun t20015 => (if t20015 = true then (if (bt20007.2 != bt20011.2) = true then (none) else (if bt20007.2 = true then ((impl_StartsOf.f k bt20001.1).bind fun bt20017 => (laws_FnMost.l0 k bt20001.1 bt20001.2 bt20007.1 bt20017.1 bt20001.1 (bt20001.1.length : Int) 0)) else ((laws_faSame.f k bt20007.1 bt20011.1).bind fun t20016 => (if t20016 = true then (some (bt20007.2 == bt20011.2)) else (none))))) else (none))))))
theorem laws_FnMost.mono_l : ∀ k, (∀ y0 y1 y2 y3 y4 y5 y6, LeO (laws_FnMost.l0 k y0 y1 y2 y3 y4 y5 y6) (laws_FnMost.l0 (k + 1) y0 y1 y2 y3 y4 y5 y6)) ∧ (∀ y0 y1 y2 y3 y4 y5 y6 y7 y8 y9, LeO (laws_FnMost.j1 k y0 y1 y2 y3 y4 y5 y6 y7 y8 y9) (laws_FnMost.j1 (k + 1) y0 y1 y2 y3 y4 y5 y6 y7 y8 y9)) ∧ (∀ y0 y1 y2 y3 y4 y5 y6 y7 y8 y9 y10 y11, LeO (laws_FnMost.l1 k y0 y1 y2 y3 y4 y5 y6 y7 y8 y9 y10 y11) (laws_FnMost.l1 (k + 1) y0 y1 y2 y3 y4 y5 y6 y7 y8 y9 y10 y11))
  | 0 => ⟨fun _ _ _ _ _ _ _ r h => by simp [laws_FnMost.l0] at h, fun _ _ _ _ _ _ _ _ _ _ r h => by simp [laws_FnMost.j1] at h, fun _ _ _ _ _ _ _ _ _ _ _ _ r h => by simp [laws_FnMost.l1] at h⟩
  | k + 1 => by
    obtain ⟨ih0, ih1, ih2⟩ := laws_FnMost.mono_l k
    refine ⟨?_, ?_, ?_⟩
    · intro y0 y1 y2 y3 y4 y5 y6
      unfold laws_FnMost.l0
      repeat' first
      | (with_reducible exact ih0 _ _ _ _ _ _ _)
      | (with_reducible exact ih1 _ _ _ _ _ _ _ _ _ _)
      | (with_reducible exact ih2 _ _ _ _ _ _ _ _ _ _ _ _)
      | (with_reducible exact impl_MostSegments.mono _ _ _)
      | (with_reducible exact impl_StartsOf.mono _ _)
      | (with_reducible exact laws_faSame.mono _ _ _)
      | (with_reducible exact spec_DrawMostSegments.mono _ _)
      | (with_reducible exact spec_MostSegments.mono _ _ _)
      | (with_reducible exact LeO.refl _)
      | (with_reducible exact LeO.none _)
      | (with_reducible refine LeO.ite ?_ ?_)
      | (with_reducible refine LeO.bind ?_ (fun _ => ?_))
      | exact ih0 _ _ _ _ _ _ _
      | exact ih1 _ _ _ _ _ _ _ _ _ _
      | exact ih2 _ _ _ _ _ _ _ _ _ _ _ _
      | exact impl_MostSegments.mono _ _ _
      | exact impl_StartsOf.mono _ _
      | exact laws_faSame.mono _ _ _
      | exact spec_DrawMostSegments.mono _ _
      | exact spec_MostSegments.mono _ _ _
      | exact LeO.none _
      | refine LeO.ite ?_ ?_
      | refine LeO.bind ?_ (fun _ => ?_)
    · intro y0 y1 y2 y3 y4 y5 y6 y7 y8 y9
      unfold laws_FnMost.j1
      repeat' first
      | (with_reducible exact ih0 _ _ _ _ _ _ _)
      | (with_reducible exact ih1 _ _ _ _ _ _ _ _ _ _)
      | (with_reducible exact ih2 _ _ _ _ _ _ _ _ _ _ _ _)
      | (with_reducible exact impl_MostSegments.mono _ _ _)
      | (with_reducible exact impl_StartsOf.mono _ _)
      | (with_reducible exact laws_faSame.mono _ _ _)
      | (with_reducible exact spec_DrawMostSegments.mono _ _)
      | (with_reducible exact spec_MostSegments.mono _ _ _)
      | (with_reducible exact LeO.refl _)
      | (with_reducible exact LeO.none _)
      | (with_reducible refine LeO.ite ?_ ?_)
      | (with_reducible refine LeO.bind ?_ (fun _ => ?_))
      | exact ih0 _ _ _ _ _ _ _
      | exact ih1 _ _ _ _ _ _ _ _ _ _
      | exact ih2 _ _ _ _ _ _ _ _ _ _ _ _
      | exact impl_MostSegments.mono _ _ _
      | exact impl_StartsOf.mono _ _
      | exact laws_faSame.mono _ _ _
      | exact spec_DrawMostSegments.mono _ _
      | exact spec_MostSegments.mono _ _ _
      | exact LeO.none _
      | refine LeO.ite ?_ ?_
      | refine LeO.bind ?_ (fun _ => ?_)
    · intro y0 y1 y2 y3 y4 y5 y6 y7 y8 y9 y10 y11
      unfold laws_FnMost.l1
      repeat' first
      | (with_reducible exact ih0 _ _ _ _ _ _ _)
      | (with_reducible exact ih1 _ _ _ _ _ _ _ _ _ _)
      | (with_reducible exact ih2 _ _ _ _ _ _ _ _ _ _ _ _)
      | (with_reducible exact impl_MostSegments.mono _ _ _)
      | (with_reducible exact impl_StartsOf.mono _ _)
      | (with_reducible exact laws_faSame.mono _ _ _)
      | (with_reducible exact spec_DrawMostSegments.mono _ _)
      | (with_reducible exact spec_MostSegments.mono _ _ _)
      | (with_reducible exact LeO.refl _)
      | (with_reducible exact LeO.none _)
      | (with_reducible refine LeO.ite ?_ ?_)
      | (with_reducible refine LeO.bind ?_ (fun _ => ?_))
      | exact ih0 _ _ _ _ _ _ _
      | exact ih1 _ _ _ _ _ _ _ _ _ _
      | exact ih2 _ _ _ _ _ _ _ _ _ _ _ _
      | exact impl_MostSegments.mono _ _ _
      | exact impl_StartsOf.mono _ _
      | exact laws_faSame.mono _ _ _
      | exact spec_DrawMostSegments.mono _ _
      | exact spec_MostSegments.mono _ _ _
      | exact LeO.none _
      | refine LeO.ite ?_ ?_
      | refine LeO.bind ?_ (fun _ => ?_)
theorem laws_FnMost.mono : ∀ a0 k, LeO (laws_FnMost.f k a0) (laws_FnMost.f (k + 1) a0) := by
  intro a0 k
  obtain ⟨ih0, ih1, ih2⟩ := laws_FnMost.mono_l k
  unfold laws_FnMost.f
  repeat' first
      | (with_reducible exact ih0 _ _ _ _ _ _ _)
      | (with_reducible exact ih1 _ _ _ _ _ _ _ _ _ _)
      | (with_reducible exact ih2 _ _ _ _ _ _ _ _ _ _ _ _)
      | (with_reducible exact impl_MostSegments.mono _ _ _)
      | (with_reducible exact impl_StartsOf.mono _ _)
      | (with_reducible exact laws_faSame.mono _ _ _)
      | (with_reducible exact spec_DrawMostSegments.mono _ _)
      | (with_reducible exact spec_MostSegments.mono _ _ _)
      | (with_reducible exact LeO.refl _)
      | (with_reducible exact LeO.none _)
      | (with_reducible refine LeO.ite ?_ ?_)
      | (with_reducible refine LeO.bind ?_ (fun _ => ?_))
      | exact ih0 _ _ _ _ _ _ _
      | exact ih1 _ _ _ _ _ _ _ _ _ _
      | exact ih2 _ _ _ _ _ _ _ _ _ _ _ _
      | exact impl_MostSegments.mono _ _ _
      | exact impl_StartsOf.mono _ _
      | exact laws_faSame.mono _ _ _
      | exact spec_DrawMostSegments.mono _ _
      | exact spec_MostSegments.mono _ _ _
      | exact LeO.none _
      | refine LeO.ite ?_ ?_
      | refine LeO.bind ?_ (fun _ => ?_)
set_option maxHeartbeats 8000000 in
set_option maxRecDepth 100000 in
theorem laws_FnMost.calls (k : Nat) (A0 : Option Addr) (c0 : Nat) (l0 : List Int) (r : Bool) (w : World) (hr0 : Kd.C (Kd.int .u8) w A0 l0.length l0) (hc0 : l0.length ≤ c0) (h : laws_FnMost.f k l0 = some r) :
    Calls Try.prog 8 #[.slice A0 l0.length c0] w fun e w' => e = .returned (.bool r) ∧ Below w.heap.size w w' := by
  have HR0 := Aside0.mk hr0
  have HC0 := Aside0.mk hc0
  clear hr0 hc0
  have HB := Aside0.mk (Below.refl w.heap.size w)
  have H : (if (l0.length : Int) > 1048576 then (some true) else ((spec_DrawMostSegments.f k l0).bind fun bt20001 => ((impl_MostSegments.f k bt20001.1 bt20001.2).bind fun bt20007 => ((spec_MostSegments.f k bt20001.1 bt20001.2).bind fun bt20011 => ((laws_faSame.f k bt20007.1 bt20011.1).bind fun t20015 => (if t20015 = true then (if (bt20007.2 != bt20011.2) = true then (none) else (if bt20007.2 = true then ((impl_StartsOf.f k bt20001.1).bind fun bt20017 => (laws_FnMost.l0 k bt20001.1 bt20001.2 bt20007.1 bt20017.1 bt20001.1 (bt20001.1.length : Int) 0)) else ((laws_faSame.f k bt20007.1 bt20011.1).bind fun t20016 => (if t20016 = true then (some (bt20007.2 == bt20011.2)) else (none))))) else (none))))))) = some r := h
  clear h
  by_cases c2 : (l0.length : Int) > 1048576
  · rw [if_pos c2] at H
    have c2b0 : decide (1048576 < (l0.length : Int)) = true := decide_eq_true c2
    have c2b1 : decide (1048576 < l0.length) = true := decide_eq_true (by omega)
    clear c2
    obtain rfl := Option.some.inj H
    go_enter Try.func8, Try.ntmps8
    go_wp2
    repeat (go_quiet (fail); try go_wp2)
    go_ret
    exact ⟨by first | rfl | (simp [errW_none, errW_some] <;> rfl) | (simp [*, errW_none, errW_some] <;> rfl), by repeat (first | (with_reducible first | exact HB.out | apply below_alloc | apply pw_below_drewN | apply below_drew1) | exact HB.out)⟩
  · rw [if_neg c2] at H
    have c2b0 : decide (1048576 < (l0.length : Int)) = false := decide_eq_false c2
    have c2b1 : decide (1048576 < l0.length) = false := decide_eq_false (by omega)
    clear c2
    replace H := Option.bind_eq_some_iff.mp H
    obtain ⟨⟨t20001, t20002⟩, A30, H⟩ := H
    replace H : ((impl_MostSegments.f k t20001 t20002).bind fun bt20007 => ((spec_MostSegments.f k t20001 t20002).bind fun bt20011 => ((laws_faSame.f k bt20007.1 bt20011.1).bind fun t20015 => (if t20015 = true then (if (bt20007.2 != bt20011.2) = true then (none) else (if bt20007.2 = true then ((impl_StartsOf.f k t20001).bind fun bt20017 => (laws_FnMost.l0 k t20001 t20002 bt20007.1 bt20017.1 t20001 (t20001.length : Int) 0)) else ((laws_faSame.f k bt20007.1 bt20011.1).bind fun t20016 => (if t20016 = true then (some (bt20007.2 == bt20011.2)) else (none))))) else (none))))) = some r := H
    have A3 := Aside0.mk A30
    clear A30
    replace H := Option.bind_eq_some_iff.mp H
    obtain ⟨⟨t20007, t20008⟩, A40, H⟩ := H
    replace H : ((spec_MostSegments.f k t20001 t20002).bind fun bt20011 => ((laws_faSame.f k t20007 bt20011.1).bind fun t20015 => (if t20015 = true then (if (t20008 != bt20011.2) = true then (none) else (if t20008 = true then ((impl_StartsOf.f k t20001).bind fun bt20017 => (laws_FnMost.l0 k t20001 t20002 t20007 bt20017.1 t20001 (t20001.length : Int) 0)) else ((laws_faSame.f k t20007 bt20011.1).bind fun t20016 => (if t20016 = true then (some (t20008 == bt20011.2)) else (none))))) else (none)))) = some r := H
    have A4 := Aside0.mk A40
    clear A40
    replace H := Option.bind_eq_some_iff.mp H
    obtain ⟨⟨t20011, t20012⟩, A50, H⟩ := H
    replace H : ((laws_faSame.f k t20007 t20011).bind fun t20015 => (if t20015 = true then (if (t20008 != t20012) = true then (none) else (if t20008 = true then ((impl_StartsOf.f k t20001).bind fun bt20017 => (laws_FnMost.l0 k t20001 t20002 t20007 bt20017.1 t20001 (t20001.length : Int) 0)) else ((laws_faSame.f k t20007 t20011).bind fun t20016 => (if t20016 = true then (some (t20008 == t20012)) else (none))))) else (none))) = some r := H
    have A5 := Aside0.mk A50
    clear A50
    replace H := Option.bind_eq_some_iff.mp H
    obtain ⟨t20015, A60, H⟩ := H
    replace H : (if t20015 = true then (if (t20008 != t20012) = true then (none) else (if t20008 = true then ((impl_StartsOf.f k t20001).bind fun bt20017 => (laws_FnMost.l0 k t20001 t20002 t20007 bt20017.1 t20001 (t20001.length : Int) 0)) else ((laws_faSame.f k t20007 t20011).bind fun t20016 => (if t20016 = true then (some (t20008 == t20012)) else (none))))) else (none)) = some r := H
    have A6 := Aside0.mk A60
    clear A60
    by_cases c7 : t20015 = true
    · subst c7
      have H1 : (if (t20008 != t20012) = true then (none) else (if t20008 = true then ((impl_StartsOf.f k t20001).bind fun bt20017 => (laws_FnMost.l0 k t20001 t20002 t20007 bt20017.1 t20001 (t20001.length : Int) 0)) else ((laws_faSame.f k t20007 t20011).bind fun t20016 => (if t20016 = true then (some (t20008 == t20012)) else (none))))) = some r := by rw [if_pos rfl] at H; exact H
      clear H
      have H := H1
      clear H1
      by_cases c8 : (t20008 != t20012) = true
      · rw [if_pos c8] at H
        exact absurd H (by simp)
      · rw [if_neg c8] at H
        have c8b0 : (t20008 != t20012) = false := by simpa using c8
        (try (have c8b1 : decide (t20008 = t20012) = true := by simpa using c8))
        (try (have c8b2 : (t20008 == t20012) = true := by simpa using c8))
        clear c8
        by_cases c9 : t20008 = true
        · subst c9
          have H1 : ((impl_StartsOf.f k t20001).bind fun bt20017 => (laws_FnMost.l0 k t20001 t20002 t20007 bt20017.1 t20001 (t20001.length : Int) 0)) = some r := by rw [if_pos rfl] at H; exact H
          clear H
          have H := H1
          clear H1
          replace H := Option.bind_eq_some_iff.mp H
          obtain ⟨⟨t20017, t20018⟩, A100, H⟩ := H
          replace H : (laws_FnMost.l0 k t20001 t20002 t20007 t20017 t20001 (t20001.length : Int) 0) = some r := H
          have A10 := Aside0.mk A100
          clear A100
          have H' := Aside0.mk H
          clear H
          go_enter Try.func8, Try.ntmps8
          go_wp2_with (first | (go_at_call 35; (with_reducible refine (spec_DrawMostSegments.calls k _ _ l0 t20001 t20002 _ ?side1 ?side2 A3.out).mono ?_); (case side1 => repeat (first | exact HR0.out | (with_reducible refine Kd.C_alloc ?_ _) | (with_reducible refine Kd.C_drewN ?_ _) | (with_reducible refine Kd.C_drew ?_))); (case side2 => exact HC0.out); rintro e w11 ⟨v20003, v20005, rfl, ho0, ho1, hb⟩; have n0_ := Aside0.mk (Kd.R_lower ho0 (below_size (by repeat (first | (with_reducible first | exact HB.out | apply below_alloc | apply pw_below_drewN | apply below_drew1) | exact HB.out)))); have n1_ := Aside0.mk (Kd.R_lower ho1 (below_size (by repeat (first | (with_reducible first | exact HB.out | apply below_alloc | apply pw_below_drewN | apply below_drew1) | exact HB.out)))); have n2_ := Aside0.mk (below_step (by repeat (first | (with_reducible first | exact HB.out | apply below_alloc | apply pw_below_drewN | apply below_drew1) | exact HB.out)) hb); clear HB; have HO20004 := n0_; have HO20006 := n1_; have HB := n2_; clear n0_ n1_ n2_; (try clear hb); (try clear hb2); (try clear hk); (try clear hi); (try clear ho0); (try clear ho1); obtain ⟨Ao12, co12, eo12⟩ := Kd.R_slice HO20004.out; subst eo12; obtain ⟨Ao13, co13, eo13⟩ := Kd.R_slice HO20006.out; subst eo13) | (go_at_call 30; (with_reducible refine (impl_MostSegments.calls k _ _ t20001 _ _ t20002 t20007 true _ ?side1 ?side2 ?side3 ?side4 A4.out).mono ?_); (case side1 => repeat (first | exact (Kd.R_reads' HO20004.out).2.2 | (with_reducible refine Kd.C_alloc ?_ _) | (with_reducible refine Kd.C_drewN ?_ _) | (with_reducible refine Kd.C_drew ?_))); (case side2 => exact (Kd.R_reads' HO20004.out).2.1); (case side3 => repeat (first | exact (Kd.R_reads' HO20006.out).2.2 | (with_reducible refine Kd.C_alloc ?_ _) | (with_reducible refine Kd.C_drewN ?_ _) | (with_reducible refine Kd.C_drew ?_))); (case side4 => exact (Kd.R_reads' HO20006.out).2.1); rintro e w14 ⟨v20009, rfl, ho0, hb⟩; have n0_ := Aside0.mk (Kd.R_elder' (by (with_reducible repeat (first | apply Kd.R_alloc | apply Kd.R_drewN | apply Kd.R_drew)); exact HO20004.out) (Kd.R_base ho0) hb); have n1_ := Aside0.mk (Kd.R_elder' (by (with_reducible repeat (first | apply Kd.R_alloc | apply Kd.R_drewN | apply Kd.R_drew)); exact HO20006.out) (Kd.R_base ho0) hb); have n2_ := Aside0.mk (Kd.R_lower (Kd.R_new' (Kd.R_new' ho0 (Kd.R_lt (by (with_reducible repeat (first | apply Kd.R_alloc | apply Kd.R_drewN | apply Kd.R_drew)); exact HO20004.out))) (Kd.R_lt (by (with_reducible repeat (first | apply Kd.R_alloc | apply Kd.R_drewN | apply Kd.R_drew)); exact HO20006.out))) (below_size (by repeat (first | (with_reducible first | exact HB.out | apply below_alloc | apply pw_below_drewN | apply below_drew1) | exact HB.out)))); have n3_ := Aside0.mk (below_step (by repeat (first | (with_reducible first | exact HB.out | apply below_alloc | apply pw_below_drewN | apply below_drew1) | exact HB.out)) hb); clear HO20004; clear HO20006; clear HB; have HO20004 := n0_; have HO20006 := n1_; have HO20010 := n2_; have HB := n3_; clear n0_ n1_ n2_ n3_; (try clear hb); (try clear hb2); (try clear hk); (try clear hi); (try clear ho0)) | (go_at_call 29; (with_reducible refine (spec_MostSegments.calls k _ _ t20001 _ _ t20002 t20011 t20012 _ ?side1 ?side2 ?side3 ?side4 A5.out).mono ?_); (case side1 => repeat (first | exact (Kd.R_reads' HO20004.out).2.2 | (with_reducible refine Kd.C_alloc ?_ _) | (with_reducible refine Kd.C_drewN ?_ _) | (with_reducible refine Kd.C_drew ?_))); (case side2 => exact (Kd.R_reads' HO20004.out).2.1); (case side3 => repeat (first | exact (Kd.R_reads' HO20006.out).2.2 | (with_reducible refine Kd.C_alloc ?_ _) | (with_reducible refine Kd.C_drewN ?_ _) | (with_reducible refine Kd.C_drew ?_))); (case side4 => exact (Kd.R_reads' HO20006.out).2.1); rintro e w15 ⟨v20013, rfl, ho0, hb⟩; have n0_ := Aside0.mk (Kd.R_elder' (by (with_reducible repeat (first | apply Kd.R_alloc | apply Kd.R_drewN | apply Kd.R_drew)); exact HO20004.out) (Kd.R_base ho0) hb); have n1_ := Aside0.mk (Kd.R_elder' (by (with_reducible repeat (first | apply Kd.R_alloc | apply Kd.R_drewN | apply Kd.R_drew)); exact HO20006.out) (Kd.R_base ho0) hb); have n2_ := Aside0.mk (Kd.R_elder' (by (with_reducible repeat (first | apply Kd.R_alloc | apply Kd.R_drewN | apply Kd.R_drew)); exact HO20010.out) (Kd.R_base ho0) hb); have n3_ := Aside0.mk (Kd.R_lower (Kd.R_new' (Kd.R_new' (Kd.R_new' ho0 (Kd.R_lt (by (with_reducible repeat (first | apply Kd.R_alloc | apply Kd.R_drewN | apply Kd.R_drew)); exact HO20004.out))) (Kd.R_lt (by (with_reducible repeat (first | apply Kd.R_alloc | apply Kd.R_drewN | apply Kd.R_drew)); exact HO20006.out))) (Kd.R_lt (by (with_reducible repeat (first | apply Kd.R_alloc | apply Kd.R_drewN | apply Kd.R_drew)); exact HO20010.out))) (below_size (by repeat (first | (with_reducible first | exact HB.out | apply below_alloc | apply pw_below_drewN | apply below_drew1) | exact HB.out)))); have n4_ := Aside0.mk (below_step (by repeat (first | (with_reducible first | exact HB.out | apply below_alloc | apply pw_below_drewN | apply below_drew1) | exact HB.out)) hb); clear HO20004; clear HO20006; clear HO20010; clear HB; have HO20004 := n0_; have HO20006 := n1_; have HO20010 := n2_; have HO20014 := n3_; have HB := n4_; clear n0_ n1_ n2_ n3_ n4_; (try clear hb); (try clear hb2); (try clear hk); (try clear hi); (try clear ho0); obtain ⟨Ao16, co16, eo16⟩ := Kd.R_slice HO20010.out; subst eo16; obtain ⟨Ao17, co17, eo17⟩ := Kd.R_slice HO20014.out; subst eo17) | (go_at_call 26; (with_reducible refine (laws_faSame.calls k _ _ t20007 _ _ t20011 true _ ?side1 ?side2 ?side3 ?side4 A6.out).mono ?_); (case side1 => repeat (first | exact (Kd.R_reads' HO20010.out).2.2 | (with_reducible refine Kd.C_alloc ?_ _) | (with_reducible refine Kd.C_drewN ?_ _) | (with_reducible refine Kd.C_drew ?_))); (case side2 => exact (Kd.R_reads' HO20010.out).2.1); (case side3 => repeat (first | exact (Kd.R_reads' HO20014.out).2.2 | (with_reducible refine Kd.C_alloc ?_ _) | (with_reducible refine Kd.C_drewN ?_ _) | (with_reducible refine Kd.C_drew ?_))); (case side4 => exact (Kd.R_reads' HO20014.out).2.1); rintro e w18 ⟨rfl, hb⟩; have n0_ := Aside0.mk (Kd.R_below (by (with_reducible repeat (first | apply Kd.R_alloc | apply Kd.R_drewN | apply Kd.R_drew)); exact HO20004.out) hb); have n1_ := Aside0.mk (Kd.R_below (by (with_reducible repeat (first | apply Kd.R_alloc | apply Kd.R_drewN | apply Kd.R_drew)); exact HO20006.out) hb); have n2_ := Aside0.mk (Kd.R_below (by (with_reducible repeat (first | apply Kd.R_alloc | apply Kd.R_drewN | apply Kd.R_drew)); exact HO20010.out) hb); have n3_ := Aside0.mk (Kd.R_below (by (with_reducible repeat (first | apply Kd.R_alloc | apply Kd.R_drewN | apply Kd.R_drew)); exact HO20014.out) hb); have n4_ := Aside0.mk (below_step (by repeat (first | (with_reducible first | exact HB.out | apply below_alloc | apply pw_below_drewN | apply below_drew1) | exact HB.out)) hb); clear HO20004; clear HO20006; clear HO20010; clear HO20014; clear HB; have HO20004 := n0_; have HO20006 := n1_; have HO20010 := n2_; have HO20014 := n3_; have HB := n4_; clear n0_ n1_ n2_ n3_ n4_; (try clear hb); (try clear hb2); (try clear hk); (try clear hi)) | (go_at_call 36; (with_reducible refine (impl_StartsOf.calls k _ _ t20001 t20017 t20018 _ ?side1 ?side2 A10.out).mono ?_); (case side1 => repeat (first | exact (Kd.R_reads' HO20004.out).2.2 | (with_reducible refine Kd.C_alloc ?_ _) | (with_reducible refine Kd.C_drewN ?_ _) | (with_reducible refine Kd.C_drew ?_))); (case side2 => exact (Kd.R_reads' HO20004.out).2.1); rintro e w19 ⟨v20019, rfl, ho0, hb⟩; have n0_ := Aside0.mk (Kd.R_elder' (by (with_reducible repeat (first | apply Kd.R_alloc | apply Kd.R_drewN | apply Kd.R_drew)); exact HO20004.out) (Kd.R_base ho0) hb); have n1_ := Aside0.mk (Kd.R_elder' (by (with_reducible repeat (first | apply Kd.R_alloc | apply Kd.R_drewN | apply Kd.R_drew)); exact HO20006.out) (Kd.R_base ho0) hb); have n2_ := Aside0.mk (Kd.R_elder' (by (with_reducible repeat (first | apply Kd.R_alloc | apply Kd.R_drewN | apply Kd.R_drew)); exact HO20010.out) (Kd.R_base ho0) hb); have n3_ := Aside0.mk (Kd.R_elder' (by (with_reducible repeat (first | apply Kd.R_alloc | apply Kd.R_drewN | apply Kd.R_drew)); exact HO20014.out) (Kd.R_base ho0) hb); have n4_ := Aside0.mk (Kd.R_lower (Kd.R_new' (Kd.R_new' (Kd.R_new' (Kd.R_new' ho0 (Kd.R_lt (by (with_reducible repeat (first | apply Kd.R_alloc | apply Kd.R_drewN | apply Kd.R_drew)); exact HO20004.out))) (Kd.R_lt (by (with_reducible repeat (first | apply Kd.R_alloc | apply Kd.R_drewN | apply Kd.R_drew)); exact HO20006.out))) (Kd.R_lt (by (with_reducible repeat (first | apply Kd.R_alloc | apply Kd.R_drewN | apply Kd.R_drew)); exact HO20010.out))) (Kd.R_lt (by (with_reducible repeat (first | apply Kd.R_alloc | apply Kd.R_drewN | apply Kd.R_drew)); exact HO20014.out))) (below_size (by repeat (first | (with_reducible first | exact HB.out | apply below_alloc | apply pw_below_drewN | apply below_drew1) | exact HB.out)))); have n5_ := Aside0.mk (below_step (by repeat (first | (with_reducible first | exact HB.out | apply below_alloc | apply pw_below_drewN | apply below_drew1) | exact HB.out)) hb); clear HO20004; clear HO20006; clear HO20010; clear HO20014; clear HB; have HO20004 := n0_; have HO20006 := n1_; have HO20010 := n2_; have HO20014 := n3_; have HO20020 := n4_; have HB := n5_; clear n0_ n1_ n2_ n3_ n4_ n5_; (try clear hb); (try clear hb2); (try clear hk); (try clear hi); (try clear ho0)))
          repeat (go_quiet (first | (go_at_call 35; (with_reducible refine (spec_DrawMostSegments.calls k _ _ l0 t20001 t20002 _ ?side1 ?side2 A3.out).mono ?_); (case side1 => repeat (first | exact HR0.out | (with_reducible refine Kd.C_alloc ?_ _) | (with_reducible refine Kd.C_drewN ?_ _) | (with_reducible refine Kd.C_drew ?_))); (case side2 => exact HC0.out); rintro e w11 ⟨v20003, v20005, rfl, ho0, ho1, hb⟩; have n0_ := Aside0.mk (Kd.R_lower ho0 (below_size (by repeat (first | (with_reducible first | exact HB.out | apply below_alloc | apply pw_below_drewN | apply below_drew1) | exact HB.out)))); have n1_ := Aside0.mk (Kd.R_lower ho1 (below_size (by repeat (first | (with_reducible first | exact HB.out | apply below_alloc | apply pw_below_drewN | apply below_drew1) | exact HB.out)))); have n2_ := Aside0.mk (below_step (by repeat (first | (with_reducible first | exact HB.out | apply below_alloc | apply pw_below_drewN | apply below_drew1) | exact HB.out)) hb); clear HB; have HO20004 := n0_; have HO20006 := n1_; have HB := n2_; clear n0_ n1_ n2_; (try clear hb); (try clear hb2); (try clear hk); (try clear hi); (try clear ho0); (try clear ho1); obtain ⟨Ao12, co12, eo12⟩ := Kd.R_slice HO20004.out; subst eo12; obtain ⟨Ao13, co13, eo13⟩ := Kd.R_slice HO20006.out; subst eo13) | (go_at_call 30; (with_reducible refine (impl_MostSegments.calls k _ _ t20001 _ _ t20002 t20007 true _ ?side1 ?side2 ?side3 ?side4 A4.out).mono ?_); (case side1 => repeat (first | exact (Kd.R_reads' HO20004.out).2.2 | (with_reducible refine Kd.C_alloc ?_ _) | (with_reducible refine Kd.C_drewN ?_ _) | (with_reducible refine Kd.C_drew ?_))); (case side2 => exact (Kd.R_reads' HO20004.out).2.1); (case side3 => repeat (first | exact (Kd.R_reads' HO20006.out).2.2 | (with_reducible refine Kd.C_alloc ?_ _) | (with_reducible refine Kd.C_drewN ?_ _) | (with_reducible refine Kd.C_drew ?_))); (case side4 => exact (Kd.R_reads' HO20006.out).2.1); rintro e w14 ⟨v20009, rfl, ho0, hb⟩; have n0_ := Aside0.mk (Kd.R_elder' (by (with_reducible repeat (first | apply Kd.R_alloc | apply Kd.R_drewN | apply Kd.R_drew)); exact HO20004.out) (Kd.R_base ho0) hb); have n1_ := Aside0.mk (Kd.R_elder' (by (with_reducible repeat (first | apply Kd.R_alloc | apply Kd.R_drewN | apply Kd.R_drew)); exact HO20006.out) (Kd.R_base ho0) hb); have n2_ := Aside0.mk (Kd.R_lower (Kd.R_new' (Kd.R_new' ho0 (Kd.R_lt (by (with_reducible repeat (first | apply Kd.R_alloc | apply Kd.R_drewN | apply Kd.R_drew)); exact HO20004.out))) (Kd.R_lt (by (with_reducible repeat (first | apply Kd.R_alloc | apply Kd.R_drewN | apply Kd.R_drew)); exact HO20006.out))) (below_size (by repeat (first | (with_reducible first | exact HB.out | apply below_alloc | apply pw_below_drewN | apply below_drew1) | exact HB.out)))); have n3_ := Aside0.mk (below_step (by repeat (first | (with_reducible first | exact HB.out | apply below_alloc | apply pw_below_drewN | apply below_drew1) | exact HB.out)) hb); clear HO20004; clear HO20006; clear HB; have HO20004 := n0_; have HO20006 := n1_; have HO20010 := n2_; have HB := n3_; clear n0_ n1_ n2_ n3_; (try clear hb); (try clear hb2); (try clear hk); (try clear hi); (try clear ho0)) | (go_at_call 29; (with_reducible refine (spec_MostSegments.calls k _ _ t20001 _ _ t20002 t20011 t20012 _ ?side1 ?side2 ?side3 ?side4 A5.out).mono ?_); (case side1 => repeat (first | exact (Kd.R_reads' HO20004.out).2.2 | (with_reducible refine Kd.C_alloc ?_ _) | (with_reducible refine Kd.C_drewN ?_ _) | (with_reducible refine Kd.C_drew ?_))); (case side2 => exact (Kd.R_reads' HO20004.out).2.1); (case side3 => repeat (first | exact (Kd.R_reads' HO20006.out).2.2 | (with_reducible refine Kd.C_alloc ?_ _) | (with_reducible refine Kd.C_drewN ?_ _) | (with_reducible refine Kd.C_drew ?_))); (case side4 => exact (Kd.R_reads' HO20006.out).2.1); rintro e w15 ⟨v20013, rfl, ho0, hb⟩; have n0_ := Aside0.mk (Kd.R_elder' (by (with_reducible repeat (first | apply Kd.R_alloc | apply Kd.R_drewN | apply Kd.R_drew)); exact HO20004.out) (Kd.R_base ho0) hb); have n1_ := Aside0.mk (Kd.R_elder' (by (with_reducible repeat (first | apply Kd.R_alloc | apply Kd.R_drewN | apply Kd.R_drew)); exact HO20006.out) (Kd.R_base ho0) hb); have n2_ := Aside0.mk (Kd.R_elder' (by (with_reducible repeat (first | apply Kd.R_alloc | apply Kd.R_drewN | apply Kd.R_drew)); exact HO20010.out) (Kd.R_base ho0) hb); have n3_ := Aside0.mk (Kd.R_lower (Kd.R_new' (Kd.R_new' (Kd.R_new' ho0 (Kd.R_lt (by (with_reducible repeat (first | apply Kd.R_alloc | apply Kd.R_drewN | apply Kd.R_drew)); exact HO20004.out))) (Kd.R_lt (by (with_reducible repeat (first | apply Kd.R_alloc | apply Kd.R_drewN | apply Kd.R_drew)); exact HO20006.out))) (Kd.R_lt (by (with_reducible repeat (first | apply Kd.R_alloc | apply Kd.R_drewN | apply Kd.R_drew)); exact HO20010.out))) (below_size (by repeat (first | (with_reducible first | exact HB.out | apply below_alloc | apply pw_below_drewN | apply below_drew1) | exact HB.out)))); have n4_ := Aside0.mk (below_step (by repeat (first | (with_reducible first | exact HB.out | apply below_alloc | apply pw_below_drewN | apply below_drew1) | exact HB.out)) hb); clear HO20004; clear HO20006; clear HO20010; clear HB; have HO20004 := n0_; have HO20006 := n1_; have HO20010 := n2_; have HO20014 := n3_; have HB := n4_; clear n0_ n1_ n2_ n3_ n4_; (try clear hb); (try clear hb2); (try clear hk); (try clear hi); (try clear ho0); obtain ⟨Ao16, co16, eo16⟩ := Kd.R_slice HO20010.out; subst eo16; obtain ⟨Ao17, co17, eo17⟩ := Kd.R_slice HO20014.out; subst eo17) | (go_at_call 26; (with_reducible refine (laws_faSame.calls k _ _ t20007 _ _ t20011 true _ ?side1 ?side2 ?side3 ?side4 A6.out).mono ?_); (case side1 => repeat (first | exact (Kd.R_reads' HO20010.out).2.2 | (with_reducible refine Kd.C_alloc ?_ _) | (with_reducible refine Kd.C_drewN ?_ _) | (with_reducible refine Kd.C_drew ?_))); (case side2 => exact (Kd.R_reads' HO20010.out).2.1); (case side3 => repeat (first | exact (Kd.R_reads' HO20014.out).2.2 | (with_reducible refine Kd.C_alloc ?_ _) | (with_reducible refine Kd.C_drewN ?_ _) | (with_reducible refine Kd.C_drew ?_))); (case side4 => exact (Kd.R_reads' HO20014.out).2.1); rintro e w18 ⟨rfl, hb⟩; have n0_ := Aside0.mk (Kd.R_below (by (with_reducible repeat (first | apply Kd.R_alloc | apply Kd.R_drewN | apply Kd.R_drew)); exact HO20004.out) hb); have n1_ := Aside0.mk (Kd.R_below (by (with_reducible repeat (first | apply Kd.R_alloc | apply Kd.R_drewN | apply Kd.R_drew)); exact HO20006.out) hb); have n2_ := Aside0.mk (Kd.R_below (by (with_reducible repeat (first | apply Kd.R_alloc | apply Kd.R_drewN | apply Kd.R_drew)); exact HO20010.out) hb); have n3_ := Aside0.mk (Kd.R_below (by (with_reducible repeat (first | apply Kd.R_alloc | apply Kd.R_drewN | apply Kd.R_drew)); exact HO20014.out) hb); have n4_ := Aside0.mk (below_step (by repeat (first | (with_reducible first | exact HB.out | apply below_alloc | apply pw_below_drewN | apply below_drew1) | exact HB.out)) hb); clear HO20004; clear HO20006; clear HO20010; clear HO20014; clear HB; have HO20004 := n0_; have HO20006 := n1_; have HO20010 := n2_; have HO20014 := n3_; have HB := n4_; clear n0_ n1_ n2_ n3_ n4_; (try clear hb); (try clear hb2); (try clear hk); (try clear hi)) | (go_at_call 36; (with_reducible refine (impl_StartsOf.calls k _ _ t20001 t20017 t20018 _ ?side1 ?side2 A10.out).mono ?_); (case side1 => repeat (first | exact (Kd.R_reads' HO20004.out).2.2 | (with_reducible refine Kd.C_alloc ?_ _) | (with_reducible refine Kd.C_drewN ?_ _) | (with_reducible refine Kd.C_drew ?_))); (case side2 => exact (Kd.R_reads' HO20004.out).2.1); rintro e w19 ⟨v20019, rfl, ho0, hb⟩; have n0_ := Aside0.mk (Kd.R_elder' (by (with_reducible repeat (first | apply Kd.R_alloc | apply Kd.R_drewN | apply Kd.R_drew)); exact HO20004.out) (Kd.R_base ho0) hb); have n1_ := Aside0.mk (Kd.R_elder' (by (with_reducible repeat (first | apply Kd.R_alloc | apply Kd.R_drewN | apply Kd.R_drew)); exact HO20006.out) (Kd.R_base ho0) hb); have n2_ := Aside0.mk (Kd.R_elder' (by (with_reducible repeat (first | apply Kd.R_alloc | apply Kd.R_drewN | apply Kd.R_drew)); exact HO20010.out) (Kd.R_base ho0) hb); have n3_ := Aside0.mk (Kd.R_elder' (by (with_reducible repeat (first | apply Kd.R_alloc | apply Kd.R_drewN | apply Kd.R_drew)); exact HO20014.out) (Kd.R_base ho0) hb); have n4_ := Aside0.mk (Kd.R_lower (Kd.R_new' (Kd.R_new' (Kd.R_new' (Kd.R_new' ho0 (Kd.R_lt (by (with_reducible repeat (first | apply Kd.R_alloc | apply Kd.R_drewN | apply Kd.R_drew)); exact HO20004.out))) (Kd.R_lt (by (with_reducible repeat (first | apply Kd.R_alloc | apply Kd.R_drewN | apply Kd.R_drew)); exact HO20006.out))) (Kd.R_lt (by (with_reducible repeat (first | apply Kd.R_alloc | apply Kd.R_drewN | apply Kd.R_drew)); exact HO20010.out))) (Kd.R_lt (by (with_reducible repeat (first | apply Kd.R_alloc | apply Kd.R_drewN | apply Kd.R_drew)); exact HO20014.out))) (below_size (by repeat (first | (with_reducible first | exact HB.out | apply below_alloc | apply pw_below_drewN | apply below_drew1) | exact HB.out)))); have n5_ := Aside0.mk (below_step (by repeat (first | (with_reducible first | exact HB.out | apply below_alloc | apply pw_below_drewN | apply below_drew1) | exact HB.out)) hb); clear HO20004; clear HO20006; clear HO20010; clear HO20014; clear HB; have HO20004 := n0_; have HO20006 := n1_; have HO20010 := n2_; have HO20014 := n3_; have HO20020 := n4_; have HB := n5_; clear n0_ n1_ n2_ n3_ n4_ n5_; (try clear hb); (try clear hb2); (try clear hk); (try clear hi); (try clear ho0))); try go_wp2_with (first | (go_at_call 35; (with_reducible refine (spec_DrawMostSegments.calls k _ _ l0 t20001 t20002 _ ?side1 ?side2 A3.out).mono ?_); (case side1 => repeat (first | exact HR0.out | (with_reducible refine Kd.C_alloc ?_ _) | (with_reducible refine Kd.C_drewN ?_ _) | (with_reducible refine Kd.C_drew ?_))); (case side2 => exact HC0.out); rintro e w11 ⟨v20003, v20005, rfl, ho0, ho1, hb⟩; have n0_ := Aside0.mk (Kd.R_lower ho0 (below_size (by repeat (first | (with_reducible first | exact HB.out | apply below_alloc | apply pw_below_drewN | apply below_drew1) | exact HB.out)))); have n1_ := Aside0.mk (Kd.R_lower ho1 (below_size (by repeat (first | (with_reducible first | exact HB.out | apply below_alloc | apply pw_below_drewN | apply below_drew1) | exact HB.out)))); have n2_ := Aside0.mk (below_step (by repeat (first | (with_reducible first | exact HB.out | apply below_alloc | apply pw_below_drewN | apply below_drew1) | exact HB.out)) hb); clear HB; have HO20004 := n0_; have HO20006 := n1_; have HB := n2_; clear n0_ n1_ n2_; (try clear hb); (try clear hb2); (try clear hk); (try clear hi); (try clear ho0); (try clear ho1); obtain ⟨Ao12, co12, eo12⟩ := Kd.R_slice HO20004.out; subst eo12; obtain ⟨Ao13, co13, eo13⟩ := Kd.R_slice HO20006.out; subst eo13) | (go_at_call 30; (with_reducible refine (impl_MostSegments.calls k _ _ t20001 _ _ t20002 t20007 true _ ?side1 ?side2 ?side3 ?side4 A4.out).mono ?_); (case side1 => repeat (first | exact (Kd.R_reads' HO20004.out).2.2 | (with_reducible refine Kd.C_alloc ?_ _) | (with_reducible refine Kd.C_drewN ?_ _) | (with_reducible refine Kd.C_drew ?_))); (case side2 => exact (Kd.R_reads' HO20004.out).2.1); (case side3 => repeat (first | exact (Kd.R_reads' HO20006.out).2.2 | (with_reducible refine Kd.C_alloc ?_ _) | (with_reducible refine Kd.C_drewN ?_ _) | (with_reducible refine Kd.C_drew ?_))); (case side4 => exact (Kd.R_reads' HO20006.out).2.1); rintro e w14 ⟨v20009, rfl, ho0, hb⟩; have n0_ := Aside0.mk (Kd.R_elder' (by (with_reducible repeat (first | apply Kd.R_alloc | apply Kd.R_drewN | apply Kd.R_drew)); exact HO20004.out) (Kd.R_base ho0) hb); have n1_ := Aside0.mk (Kd.R_elder' (by (with_reducible repeat (first | apply Kd.R_alloc | apply Kd.R_drewN | apply Kd.R_drew)); exact HO20006.out) (Kd.R_base ho0) hb); have n2_ := Aside0.mk (Kd.R_lower (Kd.R_new' (Kd.R_new' ho0 (Kd.R_lt (by (with_reducible repeat (first | apply Kd.R_alloc | apply Kd.R_drewN | apply Kd.R_drew)); exact HO20004.out))) (Kd.R_lt (by (with_reducible repeat (first | apply Kd.R_alloc | apply Kd.R_drewN | apply Kd.R_drew)); exact HO20006.out))) (below_size (by repeat (first | (with_reducible first | exact HB.out | apply below_alloc | apply pw_below_drewN | apply below_drew1) | exact HB.out)))); have n3_ := Aside0.mk (below_step (by repeat (first | (with_reducible first | exact HB.out | apply below_alloc | apply pw_below_drewN | apply below_drew1) | exact HB.out)) hb); clear HO20004; clear HO20006; clear HB; have HO20004 := n0_; have HO20006 := n1_; have HO20010 := n2_; have HB := n3_; clear n0_ n1_ n2_ n3_; (try clear hb); (try clear hb2); (try clear hk); (try clear hi); (try clear ho0)) | (go_at_call 29; (with_reducible refine (spec_MostSegments.calls k _ _ t20001 _ _ t20002 t20011 t20012 _ ?side1 ?side2 ?side3 ?side4 A5.out).mono ?_); (case side1 => repeat (first | exact (Kd.R_reads' HO20004.out).2.2 | (with_reducible refine Kd.C_alloc ?_ _) | (with_reducible refine Kd.C_drewN ?_ _) | (with_reducible refine Kd.C_drew ?_))); (case side2 => exact (Kd.R_reads' HO20004.out).2.1); (case side3 => repeat (first | exact (Kd.R_reads' HO20006.out).2.2 | (with_reducible refine Kd.C_alloc ?_ _) | (with_reducible refine Kd.C_drewN ?_ _) | (with_reducible refine Kd.C_drew ?_))); (case side4 => exact (Kd.R_reads' HO20006.out).2.1); rintro e w15 ⟨v20013, rfl, ho0, hb⟩; have n0_ := Aside0.mk (Kd.R_elder' (by (with_reducible repeat (first | apply Kd.R_alloc | apply Kd.R_drewN | apply Kd.R_drew)); exact HO20004.out) (Kd.R_base ho0) hb); have n1_ := Aside0.mk (Kd.R_elder' (by (with_reducible repeat (first | apply Kd.R_alloc | apply Kd.R_drewN | apply Kd.R_drew)); exact HO20006.out) (Kd.R_base ho0) hb); have n2_ := Aside0.mk (Kd.R_elder' (by (with_reducible repeat (first | apply Kd.R_alloc | apply Kd.R_drewN | apply Kd.R_drew)); exact HO20010.out) (Kd.R_base ho0) hb); have n3_ := Aside0.mk (Kd.R_lower (Kd.R_new' (Kd.R_new' (Kd.R_new' ho0 (Kd.R_lt (by (with_reducible repeat (first | apply Kd.R_alloc | apply Kd.R_drewN | apply Kd.R_drew)); exact HO20004.out))) (Kd.R_lt (by (with_reducible repeat (first | apply Kd.R_alloc | apply Kd.R_drewN | apply Kd.R_drew)); exact HO20006.out))) (Kd.R_lt (by (with_reducible repeat (first | apply Kd.R_alloc | apply Kd.R_drewN | apply Kd.R_drew)); exact HO20010.out))) (below_size (by repeat (first | (with_reducible first | exact HB.out | apply below_alloc | apply pw_below_drewN | apply below_drew1) | exact HB.out)))); have n4_ := Aside0.mk (below_step (by repeat (first | (with_reducible first | exact HB.out | apply below_alloc | apply pw_below_drewN | apply below_drew1) | exact HB.out)) hb); clear HO20004; clear HO20006; clear HO20010; clear HB; have HO20004 := n0_; have HO20006 := n1_; have HO20010 := n2_; have HO20014 := n3_; have HB := n4_; clear n0_ n1_ n2_ n3_ n4_; (try clear hb); (try clear hb2); (try clear hk); (try clear hi); (try clear ho0); obtain ⟨Ao16, co16, eo16⟩ := Kd.R_slice HO20010.out; subst eo16; obtain ⟨Ao17, co17, eo17⟩ := Kd.R_slice HO20014.out; subst eo17) | (go_at_call 26; (with_reducible refine (laws_faSame.calls k _ _ t20007 _ _ t20011 true _ ?side1 ?side2 ?side3 ?side4 A6.out).mono ?_); (case side1 => repeat (first | exact (Kd.R_reads' HO20010.out).2.2 | (with_reducible refine Kd.C_alloc ?_ _) | (with_reducible refine Kd.C_drewN ?_ _) | (with_reducible refine Kd.C_drew ?_))); (case side2 => exact (Kd.R_reads' HO20010.out).2.1); (case side3 => repeat (first | exact (Kd.R_reads' HO20014.out).2.2 | (with_reducible refine Kd.C_alloc ?_ _) | (with_reducible refine Kd.C_drewN ?_ _) | (with_reducible refine Kd.C_drew ?_))); (case side4 => exact (Kd.R_reads' HO20014.out).2.1); rintro e w18 ⟨rfl, hb⟩; have n0_ := Aside0.mk (Kd.R_below (by (with_reducible repeat (first | apply Kd.R_alloc | apply Kd.R_drewN | apply Kd.R_drew)); exact HO20004.out) hb); have n1_ := Aside0.mk (Kd.R_below (by (with_reducible repeat (first | apply Kd.R_alloc | apply Kd.R_drewN | apply Kd.R_drew)); exact HO20006.out) hb); have n2_ := Aside0.mk (Kd.R_below (by (with_reducible repeat (first | apply Kd.R_alloc | apply Kd.R_drewN | apply Kd.R_drew)); exact HO20010.out) hb); have n3_ := Aside0.mk (Kd.R_below (by (with_reducible repeat (first | apply Kd.R_alloc | apply Kd.R_drewN | apply Kd.R_drew)); exact HO20014.out) hb); have n4_ := Aside0.mk (below_step (by repeat (first | (with_reducible first | exact HB.out | apply below_alloc | apply pw_below_drewN | apply below_drew1) | exact HB.out)) hb); clear HO20004; clear HO20006; clear HO20010; clear HO20014; clear HB; have HO20004 := n0_; have HO20006 := n1_; have HO20010 := n2_; have HO20014 := n3_; have HB := n4_; clear n0_ n1_ n2_ n3_ n4_; (try clear hb); (try clear hb2); (try clear hk); (try clear hi)) | (go_at_call 36; (with_reducible refine (impl_StartsOf.calls k _ _ t20001 t20017 t20018 _ ?side1 ?side2 A10.out).mono ?_); (case side1 => repeat (first | exact (Kd.R_reads' HO20004.out).2.2 | (with_reducible refine Kd.C_alloc ?_ _) | (with_reducible refine Kd.C_drewN ?_ _) | (with_reducible refine Kd.C_drew ?_))); (case side2 => exact (Kd.R_reads' HO20004.out).2.1); rintro e w19 ⟨v20019, rfl, ho0, hb⟩; have n0_ := Aside0.mk (Kd.R_elder' (by (with_reducible repeat (first | apply Kd.R_alloc | apply Kd.R_drewN | apply Kd.R_drew)); exact HO20004.out) (Kd.R_base ho0) hb); have n1_ := Aside0.mk (Kd.R_elder' (by (with_reducible repeat (first | apply Kd.R_alloc | apply Kd.R_drewN | apply Kd.R_drew)); exact HO20006.out) (Kd.R_base ho0) hb); have n2_ := Aside0.mk (Kd.R_elder' (by (with_reducible repeat (first | apply Kd.R_alloc | apply Kd.R_drewN | apply Kd.R_drew)); exact HO20010.out) (Kd.R_base ho0) hb); have n3_ := Aside0.mk (Kd.R_elder' (by (with_reducible repeat (first | apply Kd.R_alloc | apply Kd.R_drewN | apply Kd.R_drew)); exact HO20014.out) (Kd.R_base ho0) hb); have n4_ := Aside0.mk (Kd.R_lower (Kd.R_new' (Kd.R_new' (Kd.R_new' (Kd.R_new' ho0 (Kd.R_lt (by (with_reducible repeat (first | apply Kd.R_alloc | apply Kd.R_drewN | apply Kd.R_drew)); exact HO20004.out))) (Kd.R_lt (by (with_reducible repeat (first | apply Kd.R_alloc | apply Kd.R_drewN | apply Kd.R_drew)); exact HO20006.out))) (Kd.R_lt (by (with_reducible repeat (first | apply Kd.R_alloc | apply Kd.R_drewN | apply Kd.R_drew)); exact HO20010.out))) (Kd.R_lt (by (with_reducible repeat (first | apply Kd.R_alloc | apply Kd.R_drewN | apply Kd.R_drew)); exact HO20014.out))) (below_size (by repeat (first | (with_reducible first | exact HB.out | apply below_alloc | apply pw_below_drewN | apply below_drew1) | exact HB.out)))); have n5_ := Aside0.mk (below_step (by repeat (first | (with_reducible first | exact HB.out | apply below_alloc | apply pw_below_drewN | apply below_drew1) | exact HB.out)) hb); clear HO20004; clear HO20006; clear HO20010; clear HO20014; clear HB; have HO20004 := n0_; have HO20006 := n1_; have HO20010 := n2_; have HO20014 := n3_; have HO20020 := n4_; have HB := n5_; clear n0_ n1_ n2_ n3_ n4_ n5_; (try clear hb); (try clear hb2); (try clear hk); (try clear hi); (try clear ho0))))
          go_loopg [64] k (fun kq v64 w' => ∃ (x64_1 : Int), v64 = .int .i64 x64_1 ∧ Aside0 (laws_FnMost.l0 kq t20001 t20002 t20007 t20017 t20001 (t20001.length : Int) x64_1 = some r) ∧ Aside0 (kq ≤ k) ∧ Aside0 (Kd.R (Kd.int .i64) 3 w' w.heap.size (fun k_ => some k_ ≠ ((.slice Ao13 t20002.length co13) : Value).ownBlock ∧ some k_ ≠ ((.slice Ao16 t20007.length co16) : Value).ownBlock ∧ some k_ ≠ (v20019 : Value).ownBlock) (.slice Ao12 t20001.length co12) t20001) ∧ Aside0 (Kd.R (Kd.int .i64) 3 w' w.heap.size (fun k_ => some k_ ≠ ((.slice Ao12 t20001.length co12) : Value).ownBlock ∧ some k_ ≠ ((.slice Ao16 t20007.length co16) : Value).ownBlock ∧ some k_ ≠ (v20019 : Value).ownBlock ∧ some k_ ≠ ((.slice Ao12 t20001.length co12) : Value).ownBlock) (.slice Ao13 t20002.length co13) t20002) ∧ Aside0 (Kd.R (Kd.int .i64) 3 w' w.heap.size (fun k_ => some k_ ≠ ((.slice Ao12 t20001.length co12) : Value).ownBlock ∧ some k_ ≠ ((.slice Ao13 t20002.length co13) : Value).ownBlock ∧ some k_ ≠ (v20019 : Value).ownBlock ∧ some k_ ≠ ((.slice Ao12 t20001.length co12) : Value).ownBlock) (.slice Ao16 t20007.length co16) t20007) ∧ Aside0 (Kd.R (Kd.int .i64) 3 w' w.heap.size (fun k_ => some k_ ≠ ((.slice Ao12 t20001.length co12) : Value).ownBlock ∧ some k_ ≠ ((.slice Ao13 t20002.length co13) : Value).ownBlock ∧ some k_ ≠ ((.slice Ao16 t20007.length co16) : Value).ownBlock ∧ some k_ ≠ ((.slice Ao12 t20001.length co12) : Value).ownBlock) v20019 t20017) ∧ Aside0 (Kd.R (Kd.int .i64) 3 w' w.heap.size (fun k_ => some k_ ≠ ((.slice Ao13 t20002.length co13) : Value).ownBlock ∧ some k_ ≠ ((.slice Ao16 t20007.length co16) : Value).ownBlock ∧ some k_ ≠ (v20019 : Value).ownBlock) (.slice Ao12 t20001.length co12) t20001) ∧ Aside0 (Below w.heap.size w w'))
          case atStart => exact ⟨(0), (by first | rfl | (simp; done) | (simp [*]; done)), H', ⟨Nat.le_refl _⟩, ⟨by (with_reducible repeat (first | apply Kd.R_alloc | apply Kd.R_drewN | apply Kd.R_drew)); exact Kd.R_mono HO20004.out (fun _ hk => ⟨hk.1.1.1, ⟨hk.1.1.2, hk.2⟩⟩)⟩, ⟨by (with_reducible repeat (first | apply Kd.R_alloc | apply Kd.R_drewN | apply Kd.R_drew)); exact Kd.R_mono HO20006.out (fun _ hk => ⟨hk.1.1.1, ⟨hk.1.1.2, ⟨hk.2, hk.1.1.1⟩⟩⟩)⟩, ⟨by (with_reducible repeat (first | apply Kd.R_alloc | apply Kd.R_drewN | apply Kd.R_drew)); exact Kd.R_mono HO20010.out (fun _ hk => ⟨hk.1.1.1.2, ⟨hk.1.1.2, ⟨hk.2, hk.1.1.1.2⟩⟩⟩)⟩, ⟨by (with_reducible repeat (first | apply Kd.R_alloc | apply Kd.R_drewN | apply Kd.R_drew)); exact Kd.R_mono HO20020.out (fun _ hk => ⟨hk.1.1.1.2, ⟨hk.1.1.2, ⟨hk.1.2, hk.1.1.1.2⟩⟩⟩)⟩, ⟨by (with_reducible repeat (first | apply Kd.R_alloc | apply Kd.R_drewN | apply Kd.R_drew)); exact Kd.R_mono HO20004.out (fun _ hk => ⟨hk.1.1.1, ⟨hk.1.1.2, hk.2⟩⟩)⟩, ⟨by repeat (first | (with_reducible first | exact HB.out | apply below_alloc | apply pw_below_drewN | apply below_drew1) | exact HB.out)⟩⟩
          case round =>
            clear H'
            try clear c2
            try clear c2b0
            try clear c2b1
            try clear p2
            try clear c7
            try clear c8
            try clear c8b0
            try clear c8b1
            try clear c8b2
            try clear c9
            obtain ⟨x64_1, rfl, HA, HK1, HO_3, HO_4, HO_5, HO_9, HO_62, HB⟩ := hrel
            cases gk with
            | zero => exact absurd HA.out (by simp [laws_FnMost.l0])
            | succ k1 =>
              have H := HA.out
              clear HA
              simp only [laws_FnMost.l0] at H
              by_cases c20 : x64_1 < (t20001.length : Int)
              · rw [if_pos c20] at H
                have c20b0 : decide (x64_1 < (t20001.length : Int)) = true := decide_eq_true c20
                clear c20
                by_cases c21 : 0 ≤ x64_1
                · rw [if_pos c21] at H
                  have c21b0 : decide (0 ≤ x64_1) = true := decide_eq_true c21
                  clear c21
                  by_cases c22 : x64_1 < (t20001.length : Int)
                  · rw [if_pos c22] at H
                    have c22b0 : decide (x64_1 < (t20001.length : Int)) = true := decide_eq_true c22
                    clear c22
                    have HC23 := Aside0.mk H
                    clear H
                    have p20021 : 0 ≤ (x64_1 : Int) := of_decide_eq_true (by first | (with_reducible assumption) | assumption)
                    have q20021 : x64_1 < (t20001.length : Int) := of_decide_eq_true (by first | (with_reducible assumption) | assumption)
                    obtain ⟨ad20021, e20021, hx20021_0⟩ := Kd.at_int (Kd.R_reads' HO_62.out).2.2 x64_1 p20021 q20021
                    cases e20021
                    replace p20021 := eq_true p20021
                    replace q20021 := eq_true q20021
                    go_upto_region 12 with (fail)
                    repeat (go_quiet (fail); go_upto_region 12 with (fail))
                    go_cut [13] (fun v13 wc => ∃ (kq : Nat) (x13_22 : Bool), v13 = .bool x13_22 ∧ Aside0 (laws_FnMost.j1 kq t20001 t20002 t20007 t20017 x64_1 (rd t20001 x64_1) x13_22 t20001 (t20001.length : Int) x64_1 = some r) ∧ Aside0 (kq ≤ k1) ∧ Aside0 (Kd.R (Kd.int .i64) 3 wc w.heap.size (fun k_ => some k_ ≠ ((.slice Ao13 t20002.length co13) : Value).ownBlock ∧ some k_ ≠ ((.slice Ao16 t20007.length co16) : Value).ownBlock ∧ some k_ ≠ (v20019 : Value).ownBlock) (.slice (some ad20021) t20001.length co12) t20001) ∧ Aside0 (Kd.R (Kd.int .i64) 3 wc w.heap.size (fun k_ => some k_ ≠ ((.slice (some ad20021) t20001.length co12) : Value).ownBlock ∧ some k_ ≠ ((.slice Ao16 t20007.length co16) : Value).ownBlock ∧ some k_ ≠ (v20019 : Value).ownBlock ∧ some k_ ≠ ((.slice (some ad20021) t20001.length co12) : Value).ownBlock) (.slice Ao13 t20002.length co13) t20002) ∧ Aside0 (Kd.R (Kd.int .i64) 3 wc w.heap.size (fun k_ => some k_ ≠ ((.slice (some ad20021) t20001.length co12) : Value).ownBlock ∧ some k_ ≠ ((.slice Ao13 t20002.length co13) : Value).ownBlock ∧ some k_ ≠ (v20019 : Value).ownBlock ∧ some k_ ≠ ((.slice (some ad20021) t20001.length co12) : Value).ownBlock) (.slice Ao16 t20007.length co16) t20007) ∧ Aside0 (Kd.R (Kd.int .i64) 3 wc w.heap.size (fun k_ => some k_ ≠ ((.slice (some ad20021) t20001.length co12) : Value).ownBlock ∧ some k_ ≠ ((.slice Ao13 t20002.length co13) : Value).ownBlock ∧ some k_ ≠ ((.slice Ao16 t20007.length co16) : Value).ownBlock ∧ some k_ ≠ ((.slice (some ad20021) t20001.length co12) : Value).ownBlock) v20019 t20017) ∧ Aside0 (Kd.R (Kd.int .i64) 3 wc w.heap.size (fun k_ => some k_ ≠ ((.slice Ao13 t20002.length co13) : Value).ownBlock ∧ some k_ ≠ ((.slice Ao16 t20007.length co16) : Value).ownBlock ∧ some k_ ≠ (v20019 : Value).ownBlock) (.slice (some ad20021) t20001.length co12) t20001) ∧ Aside0 (Below w.heap.size w wc))
                    case first =>
                      have H := HC23.out
                      clear HC23
                      by_cases c24 : (rd t20001 x64_1) = 0
                      · rw [if_pos c24] at H
                        have c24b0 : ((rd t20001 x64_1) == 0) = true := beq_iff_eq.mpr c24
                        have c24b1 : ((rd t20001 x64_1) != 0) = false := bne_eq_false_iff_eq.mpr c24
                        clear c24
                        (first | rw [c24b0] | (simp only [i64_w, i32_w]; rw [c24b0]) | skip)
                        by_cases c25 : x64_1 < (t20007.length : Int)
                        · rw [if_pos c25] at H
                          have c25b0 : decide (x64_1 < (t20007.length : Int)) = true := decide_eq_true c25
                          clear c25
                          have H' := Aside0.mk H
                          clear H
                          have p20022 : 0 ≤ (x64_1 : Int) := of_decide_eq_true (by first | (with_reducible assumption) | assumption)
                          have q20022 : x64_1 < (t20007.length : Int) := of_decide_eq_true (by first | (with_reducible assumption) | assumption)
                          obtain ⟨ad20022, e20022, hx20022_0⟩ := Kd.at_int (Kd.R_reads' HO_5.out).2.2 x64_1 p20022 q20022
                          cases e20022
                          replace p20022 := eq_true p20022
                          replace q20022 := eq_true q20022
                          go_wp2
                          repeat (go_quiet (fail); try go_wp2)
                          go_meet
                          case rel => exact ⟨_, (((rd t20007 x64_1) == 0)), (by first | rfl | (simp; done) | (simp [*]; done)), H', ⟨by have := HK1.out; first | omega | exact Nat.le_refl _⟩, ⟨by (with_reducible repeat (first | apply Kd.R_alloc | apply Kd.R_drewN | apply Kd.R_drew)); exact HO_3.out⟩, ⟨by (with_reducible repeat (first | apply Kd.R_alloc | apply Kd.R_drewN | apply Kd.R_drew)); exact HO_4.out⟩, ⟨by (with_reducible repeat (first | apply Kd.R_alloc | apply Kd.R_drewN | apply Kd.R_drew)); exact HO_5.out⟩, ⟨by (with_reducible repeat (first | apply Kd.R_alloc | apply Kd.R_drewN | apply Kd.R_drew)); exact HO_9.out⟩, ⟨by (with_reducible repeat (first | apply Kd.R_alloc | apply Kd.R_drewN | apply Kd.R_drew)); exact HO_62.out⟩, ⟨by repeat (first | (with_reducible first | exact HB.out | apply below_alloc | apply pw_below_drewN | apply below_drew1) | exact HB.out)⟩⟩
                        · rw [if_neg c25] at H
                          exact absurd H (by simp)
                      · rw [if_neg c24] at H
                        have c24b0 : ((rd t20001 x64_1) == 0) = false := beq_eq_false_iff_ne.mpr c24
                        have c24b1 : ((rd t20001 x64_1) != 0) = true := bne_iff_ne.mpr c24
                        (first | rw [c24b0] | (simp only [i64_w, i32_w]; rw [c24b0]) | skip)
                        have H' := Aside0.mk H
                        clear H
                        go_wp2
                        repeat (go_quiet (fail); try go_wp2)
                        go_meet
                        case rel => exact ⟨_, (false), (by first | rfl | (simp; done) | (simp [*]; done)), H', ⟨by have := HK1.out; first | omega | exact Nat.le_refl _⟩, ⟨by (with_reducible repeat (first | apply Kd.R_alloc | apply Kd.R_drewN | apply Kd.R_drew)); exact HO_3.out⟩, ⟨by (with_reducible repeat (first | apply Kd.R_alloc | apply Kd.R_drewN | apply Kd.R_drew)); exact HO_4.out⟩, ⟨by (with_reducible repeat (first | apply Kd.R_alloc | apply Kd.R_drewN | apply Kd.R_drew)); exact HO_5.out⟩, ⟨by (with_reducible repeat (first | apply Kd.R_alloc | apply Kd.R_drewN | apply Kd.R_drew)); exact HO_9.out⟩, ⟨by (with_reducible repeat (first | apply Kd.R_alloc | apply Kd.R_drewN | apply Kd.R_drew)); exact HO_62.out⟩, ⟨by repeat (first | (with_reducible first | exact HB.out | apply below_alloc | apply pw_below_drewN | apply below_drew1) | exact HB.out)⟩⟩
                    case rest =>
                      clear HC23
                      try clear c2
                      try clear c2b0
                      try clear c2b1
                      try clear p2
                      try clear q2
                      try clear hx2
                      try clear c7
                      try clear c8
                      try clear c8b0
                      try clear c8b1
                      try clear c8b2
                      try clear c9
                      try clear c20
                      try clear c20b0
                      try clear p20
                      try clear q20
                      try clear hx20
                      try clear c21
                      try clear c21b0
                      try clear c22
                      try clear c22b0
                      try clear c24
                      try clear c24b0
                      try clear c24b1
                      try clear c25
                      try clear c25b0
                      try clear hx20021_0
                      try clear hx20022_0
                      try clear p2
                      try clear p20021
                      try clear p20022
                      try clear q20021
                      try clear q20022
                      obtain ⟨kq, x13_22, rfl, HA, HJ22, HO_3, HO_4, HO_5, HO_9, HO_62, HB⟩ := hcut
                      cases kq with
                      | zero => exact absurd HA.out (by simp [laws_FnMost.j1])
                      | succ kj22 =>
                        have H := HA.out
                        clear HA
                        simp only [laws_FnMost.j1] at H
                        by_cases c26 : 0 ≤ x64_1
                        · rw [if_pos c26] at H
                          have c26b0 : decide (0 ≤ x64_1) = true := decide_eq_true c26
                          clear c26
                          by_cases c27 : x64_1 < (t20017.length : Int)
                          · rw [if_pos c27] at H
                            have c27b0 : decide (x64_1 < (t20017.length : Int)) = true := decide_eq_true c27
                            clear c27
                            by_cases c28 : 0 ≤ (rd t20017 x64_1)
                            · rw [if_pos c28] at H
                              have c28b0 := eq_true c28
                              have c28b1 : decide (0 ≤ (rd t20017 x64_1)) = true := decide_eq_true c28
                              clear c28
                              by_cases c29 : (rd t20017 x64_1) ≤ (wrap64 ((rd t20017 x64_1) + (rd t20001 x64_1)))
                              · rw [if_pos c29] at H
                                have c29b0 := eq_true c29
                                have c29b1 : decide ((rd t20017 x64_1) ≤ (wrap64 ((rd t20017 x64_1) + (rd t20001 x64_1)))) = true := decide_eq_true c29
                                by_cases c30 : (wrap64 ((rd t20017 x64_1) + (rd t20001 x64_1))) ≤ (t20002.length : Int)
                                · rw [if_pos c30] at H
                                  have c30b0 := eq_true c30
                                  have c30b1 : decide ((wrap64 ((rd t20017 x64_1) + (rd t20001 x64_1))) ≤ (t20002.length : Int)) = true := decide_eq_true c30
                                  obtain ⟨y20025, hy20025⟩ : ∃ y_ : List Int, y_ = ((t20002.take ((wrap64 ((rd t20017 x64_1) + (rd t20001 x64_1))) : Int).toNat).drop ((rd t20017 x64_1) : Int).toNat) := ⟨_, rfl⟩
                                  replace H : (laws_FnMost.l1 kj22 t20001 t20002 t20007 t20017 x64_1 x13_22 t20001 (t20001.length : Int) x64_1 y20025 (y20025.length : Int) 0) = some r := by first | (rw [hy20025]; with_reducible exact H) | (have H2_ := (Option.bind_some _ _).symm.trans H; rw [hy20025]; with_reducible exact H2_) | (have H2_ := (Option.bind_some _ _).symm.trans H; with_reducible exact H2_) | with_reducible exact H | (rw [hy20025]; exact H) | exact H
                                  have Ny20025 := Aside0.mk hy20025
                                  clear hy20025
                                  have H' := Aside0.mk H
                                  clear H
                                  obtain ⟨Ao31, co31, eo31⟩ := Kd.R_slice HO_9.out
                                  subst eo31
                                  have p20023 : 0 ≤ (x64_1 : Int) := of_decide_eq_true (by first | (with_reducible assumption) | assumption)
                                  have q20023 : x64_1 < (t20017.length : Int) := of_decide_eq_true (by first | (with_reducible assumption) | assumption)
                                  obtain ⟨ad20023, e20023, hx20023_0⟩ := Kd.at_int (Kd.R_reads' HO_9.out).2.2 x64_1 p20023 q20023
                                  cases e20023
                                  replace p20023 := eq_true p20023
                                  replace q20023 := eq_true q20023
                                  have p20024 : 0 ≤ (x64_1 : Int) := of_decide_eq_true (by first | (with_reducible assumption) | assumption)
                                  have q20024 : x64_1 < (t20017.length : Int) := of_decide_eq_true (by first | (with_reducible assumption) | assumption)
                                  obtain ⟨ad20024, e20024, hx20024_0⟩ := Kd.at_int (Kd.R_reads' HO_9.out).2.2 x64_1 p20024 q20024
                                  obtain rfl : ad20023 = ad20024 := (by injection e20024)
                                  replace p20024 := eq_true p20024
                                  replace q20024 := eq_true q20024
                                  have q32 : ((wrap64 ((rd t20017 x64_1) + (rd t20001 x64_1))) : Int) ≤ ((t20002.length : Int) : Int) := of_decide_eq_true (by first | (with_reducible assumption) | assumption)
                                  obtain ⟨i032, hi032, _, hsz32, _⟩ := info_parts info3
                                  have hroom32 : t20002.length ≤ co13 := (Kd.R_reads' HO_4.out).2.1
                                  have hC32 : Kd.C (Kd.int .i64) _ Ao13 t20002.length t20002 := (Kd.R_reads' HO_4.out).2.2
                                  have ql32 : ((rd t20017 x64_1) : Int) ≤ ((wrap64 ((rd t20017 x64_1) + (rd t20001 x64_1))) : Int) := of_decide_eq_true (by first | (with_reducible assumption) | assumption)
                                  have q032 : (0 : Int) ≤ ((rd t20017 x64_1) : Int) := of_decide_eq_true (by first | (with_reducible assumption) | assumption)
                                  have hcut32 := cut_mid (P := Try.prog) 22 3 .i64 .i64 Try.underlying22 hi032 1 hsz32 Ao13 t20002.length co13 (rd t20017 x64_1) (wrap64 ((rd t20017 x64_1) + (rd t20001 x64_1))) q032 ql32 q32 hroom32
                                  have hr32 := Kd.C_mid (lo := ((rd t20017 x64_1) : Int).toNat) (hi := ((wrap64 ((rd t20017 x64_1) + (rd t20001 x64_1))) : Int).toNat) (c := co13) hC32 (by omega) (by omega) hroom32
                                  obtain ⟨A32, hA32⟩ : ∃ A1_, A1_ = (if co13 = ((rd t20017 x64_1) : Int).toNat then Ao13 else (Ao13 : Option Addr).map (·.add (((rd t20017 x64_1) : Int).toNat * 1))) := ⟨_, rfl⟩
                                  obtain ⟨c32, hc32⟩ : ∃ c1_, c1_ = co13 - ((rd t20017 x64_1) : Int).toNat := ⟨_, rfl⟩
                                  have hy32 : y20025.length = ((wrap64 ((rd t20017 x64_1) + (rd t20001 x64_1))) : Int).toNat - ((rd t20017 x64_1) : Int).toNat := (by rw [Ny20025.out, List.length_drop, List.length_take] <;> omega)
                                  rw [show ((t20002).take ((wrap64 ((rd t20017 x64_1) + (rd t20001 x64_1))) : Int).toNat).drop ((rd t20017 x64_1) : Int).toNat = y20025 from Ny20025.out.symm] at hr32
                                  replace hr32 : Kd.C (Kd.int .i64) _ A32 y20025.length y20025 := (by rw [hA32]; exact hr32)
                                  rw [← hy32, ← hA32, ← hc32] at hcut32
                                  have HR20028 := Aside0.mk hr32
                                  have HC20028 := Aside0.mk (show y20025.length ≤ c32 from by rw [hy32, hc32]; exact Nat.sub_le_sub_right (Nat.le_trans (by omega) hroom32) _)
                                  clear hr32 hC32 hroom32 hi032 hsz32 hc32
                                  have KY32 := Aside0.mk hy32
                                  have KA32 := Aside0.mk hA32
                                  clear hy32 hA32
                                  have KL32 := Aside0.mk (show ((wrap64 ((rd t20017 x64_1) + (rd t20001 x64_1))) : Int).toNat ≤ t20002.length from by omega)
                                  have KM32 := Aside0.mk (show ((rd t20017 x64_1) : Int).toNat ≤ ((wrap64 ((rd t20017 x64_1) + (rd t20001 x64_1))) : Int).toNat from by omega)
                                  replace q32 := eq_true q32
                                  go_wp2
                                  repeat (go_quiet (fail); try go_wp2)
                                  go_loopg [13, 91] kj22 (fun kq v13 v91 w' => ∃ (x13_3 : Bool) (x91_3 : Int), v13 = .bool x13_3 ∧ v91 = .int .i64 x91_3 ∧ Aside0 (laws_FnMost.l1 kq t20001 t20002 t20007 t20017 x64_1 x13_3 t20001 (t20001.length : Int) x64_1 y20025 (y20025.length : Int) x91_3 = some r) ∧ Aside0 (kq ≤ kj22) ∧ Aside0 (Kd.R (Kd.int .i64) 3 w' w.heap.size (fun k_ => some k_ ≠ ((.slice Ao13 t20002.length co13) : Value).ownBlock ∧ some k_ ≠ ((.slice Ao16 t20007.length co16) : Value).ownBlock ∧ some k_ ≠ ((.slice (some ad20023) t20017.length co31) : Value).ownBlock) (.slice (some ad20021) t20001.length co12) t20001) ∧ Aside0 (Kd.R (Kd.int .i64) 3 w' w.heap.size (fun k_ => some k_ ≠ ((.slice (some ad20021) t20001.length co12) : Value).ownBlock ∧ some k_ ≠ ((.slice Ao16 t20007.length co16) : Value).ownBlock ∧ some k_ ≠ ((.slice (some ad20023) t20017.length co31) : Value).ownBlock ∧ some k_ ≠ ((.slice (some ad20021) t20001.length co12) : Value).ownBlock) (.slice Ao13 t20002.length co13) t20002) ∧ Aside0 (Kd.R (Kd.int .i64) 3 w' w.heap.size (fun k_ => some k_ ≠ ((.slice (some ad20021) t20001.length co12) : Value).ownBlock ∧ some k_ ≠ ((.slice Ao13 t20002.length co13) : Value).ownBlock ∧ some k_ ≠ ((.slice (some ad20023) t20017.length co31) : Value).ownBlock ∧ some k_ ≠ ((.slice (some ad20021) t20001.length co12) : Value).ownBlock) (.slice Ao16 t20007.length co16) t20007) ∧ Aside0 (Kd.R (Kd.int .i64) 3 w' w.heap.size (fun k_ => some k_ ≠ ((.slice (some ad20021) t20001.length co12) : Value).ownBlock ∧ some k_ ≠ ((.slice Ao13 t20002.length co13) : Value).ownBlock ∧ some k_ ≠ ((.slice Ao16 t20007.length co16) : Value).ownBlock ∧ some k_ ≠ ((.slice (some ad20021) t20001.length co12) : Value).ownBlock) (.slice (some ad20023) t20017.length co31) t20017) ∧ Aside0 (Kd.R (Kd.int .i64) 3 w' w.heap.size (fun k_ => some k_ ≠ ((.slice Ao13 t20002.length co13) : Value).ownBlock ∧ some k_ ≠ ((.slice Ao16 t20007.length co16) : Value).ownBlock ∧ some k_ ≠ ((.slice (some ad20023) t20017.length co31) : Value).ownBlock) (.slice (some ad20021) t20001.length co12) t20001) ∧ Aside0 (Kd.C (Kd.int .i64) w' A32 y20025.length y20025) ∧ Aside0 (Below w.heap.size w w'))
                                  case atStart => exact ⟨(x13_22), (0), (by first | rfl | (simp; done) | (simp [*]; done)), (by first | rfl | (simp; done) | (simp [*]; done)), H', ⟨Nat.le_refl _⟩, ⟨by (with_reducible repeat (first | apply Kd.R_alloc | apply Kd.R_drewN | apply Kd.R_drew)); exact HO_3.out⟩, ⟨by (with_reducible repeat (first | apply Kd.R_alloc | apply Kd.R_drewN | apply Kd.R_drew)); exact HO_4.out⟩, ⟨by (with_reducible repeat (first | apply Kd.R_alloc | apply Kd.R_drewN | apply Kd.R_drew)); exact HO_5.out⟩, ⟨by (with_reducible repeat (first | apply Kd.R_alloc | apply Kd.R_drewN | apply Kd.R_drew)); exact HO_9.out⟩, ⟨by (with_reducible repeat (first | apply Kd.R_alloc | apply Kd.R_drewN | apply Kd.R_drew)); exact HO_62.out⟩, ⟨by repeat (first | (with_reducible exact HR20028.out) | (with_reducible refine Kd.C_alloc ?_ _) | (with_reducible refine Kd.C_drewN ?_ _) | (with_reducible refine Kd.C_drew ?_) | exact HR20028.out)⟩, ⟨by repeat (first | (with_reducible first | exact HB.out | apply below_alloc | apply pw_below_drewN | apply below_drew1) | exact HB.out)⟩⟩
                                  case round =>
                                    clear H'
                                    try clear c1
                                    try clear c2
                                    try clear c2b0
                                    try clear c2b1
                                    try clear p2
                                    try clear q2
                                    try clear hx2
                                    try clear c3
                                    try clear q3
                                    try clear p6
                                    try clear c7
                                    try clear c8
                                    try clear c8b0
                                    try clear c8b1
                                    try clear c8b2
                                    try clear c9
                                    try clear c20
                                    try clear c20b0
                                    try clear p20
                                    try clear q20
                                    try clear hx20
                                    try clear c21
                                    try clear c21b0
                                    try clear c22
                                    try clear c22b0
                                    try clear c24
                                    try clear c24b0
                                    try clear c24b1
                                    try clear c25
                                    try clear c25b0
                                    try clear c26
                                    try clear c26b0
                                    try clear c27
                                    try clear c27b0
                                    try clear c28
                                    try clear c28b0
                                    try clear c28b1
                                    try clear c29
                                    try clear c29b0
                                    try clear c29b1
                                    try clear c30
                                    try clear c30b0
                                    try clear c30b1
                                    try clear c32
                                    try clear q32
                                    try clear hx20021_0
                                    try clear hx20022_0
                                    try clear hx20023_0
                                    try clear hx20024_0
                                    try clear p2
                                    try clear p20
                                    try clear p20021
                                    try clear p20022
                                    try clear p20023
                                    try clear p20024
                                    try clear q032
                                    try clear q2
                                    try clear q20
                                    try clear q20021
                                    try clear q20022
                                    try clear q20023
                                    try clear q20024
                                    try clear q32
                                    obtain ⟨x13_3, x91_3, rfl, rfl, HA, HK3, HO_3, HO_4, HO_5, HO_9, HO_62, HR20028, HB⟩ := hrel
                                    cases gk with
                                    | zero => exact absurd HA.out (by simp [laws_FnMost.l1])
                                    | succ k3 =>
                                      have H := HA.out
                                      clear HA
                                      simp only [laws_FnMost.l1] at H
                                      by_cases c33 : x91_3 < (y20025.length : Int)
                                      · rw [if_pos c33] at H
                                        have c33b0 : decide (x91_3 < (y20025.length : Int)) = true := decide_eq_true c33
                                        clear c33
                                        by_cases c34 : 0 ≤ x91_3
                                        · rw [if_pos c34] at H
                                          have c34b0 : decide (0 ≤ x91_3) = true := decide_eq_true c34
                                          clear c34
                                          by_cases c35 : x91_3 < (y20025.length : Int)
                                          · rw [if_pos c35] at H
                                            have c35b0 : decide (x91_3 < (y20025.length : Int)) = true := decide_eq_true c35
                                            clear c35
                                            by_cases c36 : x13_3 = true
                                            · subst c36
                                              have H1 : (if 0 ≤ x64_1 then (if x64_1 < (t20007.length : Int) then (if (rd y20025 x91_3) > (rd t20007 x64_1) then (none) else (laws_FnMost.l1 k3 t20001 t20002 t20007 t20017 x64_1 true t20001 (t20001.length : Int) x64_1 y20025 (y20025.length : Int) (wrap64 (x91_3 + 1)))) else (none)) else (none)) = some r := by rw [if_pos rfl] at H; exact H
                                              clear H
                                              have H := H1
                                              clear H1
                                              by_cases c37 : 0 ≤ x64_1
                                              · rw [if_pos c37] at H
                                                have c37b0 : decide (0 ≤ x64_1) = true := decide_eq_true c37
                                                clear c37
                                                by_cases c38 : x64_1 < (t20007.length : Int)
                                                · rw [if_pos c38] at H
                                                  have c38b0 : decide (x64_1 < (t20007.length : Int)) = true := decide_eq_true c38
                                                  clear c38
                                                  by_cases c39 : (rd y20025 x91_3) > (rd t20007 x64_1)
                                                  · rw [if_pos c39] at H
                                                    exact absurd H (by simp)
                                                  · rw [if_neg c39] at H
                                                    have c39b0 : decide ((rd t20007 x64_1) < (rd y20025 x91_3)) = false := decide_eq_false c39
                                                    clear c39
                                                    have H' := Aside0.mk H
                                                    clear H
                                                    have p20029 : 0 ≤ (x91_3 : Int) := of_decide_eq_true (by first | (with_reducible assumption) | assumption)
                                                    have q20029 : x91_3 < (y20025.length : Int) := of_decide_eq_true (by first | (with_reducible assumption) | assumption)
                                                    obtain ⟨ad20029, e20029, hx20029_0⟩ := Kd.at_int HR20028.out x91_3 p20029 q20029
                                                    cases e20029
                                                    (try replace hx20029_0 := (HB.out.cell (World.block_lt_of_cell? w _ hx20029_0)).trans hx20029_0)
                                                    replace p20029 := eq_true p20029
                                                    replace q20029 := eq_true q20029
                                                    have p20030 : 0 ≤ (x64_1 : Int) := of_decide_eq_true (by first | (with_reducible assumption) | assumption)
                                                    have q20030 : x64_1 < (t20007.length : Int) := of_decide_eq_true (by first | (with_reducible assumption) | assumption)
                                                    obtain ⟨ad20030, e20030, hx20030_0⟩ := Kd.at_int (Kd.R_reads' HO_5.out).2.2 x64_1 p20030 q20030
                                                    cases e20030
                                                    replace p20030 := eq_true p20030
                                                    replace q20030 := eq_true q20030
                                                    go_wp2
                                                    repeat (go_quiet (fail); try go_wp2)
                                                    go_roundg k3
                                                    case measure => have := HK1.out; have := HJ22.out; have := HK3.out; omega
                                                    case rel => exact ⟨(true), (wrap64 (x91_3 + 1)), (by first | rfl | (simp; done) | (simp [*]; done)), (by first | rfl | (simp; done) | (simp [*]; done)), H', ⟨by have := HK1.out; have := HJ22.out; have := HK3.out; omega⟩, ⟨by (with_reducible repeat (first | apply Kd.R_alloc | apply Kd.R_drewN | apply Kd.R_drew)); exact HO_3.out⟩, ⟨by (with_reducible repeat (first | apply Kd.R_alloc | apply Kd.R_drewN | apply Kd.R_drew)); exact HO_4.out⟩, ⟨by (with_reducible repeat (first | apply Kd.R_alloc | apply Kd.R_drewN | apply Kd.R_drew)); exact HO_5.out⟩, ⟨by (with_reducible repeat (first | apply Kd.R_alloc | apply Kd.R_drewN | apply Kd.R_drew)); exact HO_9.out⟩, ⟨by (with_reducible repeat (first | apply Kd.R_alloc | apply Kd.R_drewN | apply Kd.R_drew)); exact HO_62.out⟩, ⟨by repeat (first | (with_reducible exact HR20028.out) | (with_reducible refine Kd.C_alloc ?_ _) | (with_reducible refine Kd.C_drewN ?_ _) | (with_reducible refine Kd.C_drew ?_) | exact HR20028.out)⟩, ⟨by repeat (first | (with_reducible first | exact HB.out | apply below_alloc | apply pw_below_drewN | apply below_drew1) | exact HB.out)⟩⟩
                                                · rw [if_neg c38] at H
                                                  exact absurd H (by simp)
                                              · rw [if_neg c37] at H
                                                exact absurd H (by simp)
                                            · replace c36 := Bool.eq_false_iff.mpr c36
                                              subst c36
                                              have H1 : (if 0 ≤ x64_1 then (if x64_1 < (t20007.length : Int) then (if (rd y20025 x91_3) > (rd t20007 x64_1) then (none) else (laws_FnMost.l1 k3 t20001 t20002 t20007 t20017 x64_1 ((rd y20025 x91_3) == (rd t20007 x64_1)) t20001 (t20001.length : Int) x64_1 y20025 (y20025.length : Int) (wrap64 (x91_3 + 1)))) else (none)) else (none)) = some r := by rw [if_neg (show ¬ (false = true) by decide)] at H; exact H
                                              clear H
                                              have H := H1
                                              clear H1
                                              by_cases c40 : 0 ≤ x64_1
                                              · rw [if_pos c40] at H
                                                have c40b0 : decide (0 ≤ x64_1) = true := decide_eq_true c40
                                                clear c40
                                                by_cases c41 : x64_1 < (t20007.length : Int)
                                                · rw [if_pos c41] at H
                                                  have c41b0 : decide (x64_1 < (t20007.length : Int)) = true := decide_eq_true c41
                                                  clear c41
                                                  by_cases c42 : (rd y20025 x91_3) > (rd t20007 x64_1)
                                                  · rw [if_pos c42] at H
                                                    exact absurd H (by simp)
                                                  · rw [if_neg c42] at H
                                                    have c42b0 : decide ((rd t20007 x64_1) < (rd y20025 x91_3)) = false := decide_eq_false c42
                                                    clear c42
                                                    have H' := Aside0.mk H
                                                    clear H
                                                    have p20029 : 0 ≤ (x91_3 : Int) := of_decide_eq_true (by first | (with_reducible assumption) | assumption)
                                                    have q20029 : x91_3 < (y20025.length : Int) := of_decide_eq_true (by first | (with_reducible assumption) | assumption)
                                                    obtain ⟨ad20029, e20029, hx20029_0⟩ := Kd.at_int HR20028.out x91_3 p20029 q20029
                                                    cases e20029
                                                    (try replace hx20029_0 := (HB.out.cell (World.block_lt_of_cell? w _ hx20029_0)).trans hx20029_0)
                                                    replace p20029 := eq_true p20029
                                                    replace q20029 := eq_true q20029
                                                    have p20031 : 0 ≤ (x64_1 : Int) := of_decide_eq_true (by first | (with_reducible assumption) | assumption)
                                                    have q20031 : x64_1 < (t20007.length : Int) := of_decide_eq_true (by first | (with_reducible assumption) | assumption)
                                                    obtain ⟨ad20031, e20031, hx20031_0⟩ := Kd.at_int (Kd.R_reads' HO_5.out).2.2 x64_1 p20031 q20031
                                                    cases e20031
                                                    replace p20031 := eq_true p20031
                                                    replace q20031 := eq_true q20031
                                                    have p20032 : 0 ≤ (x64_1 : Int) := of_decide_eq_true (by first | (with_reducible assumption) | assumption)
                                                    have q20032 : x64_1 < (t20007.length : Int) := of_decide_eq_true (by first | (with_reducible assumption) | assumption)
                                                    obtain ⟨ad20032, e20032, hx20032_0⟩ := Kd.at_int (Kd.R_reads' HO_5.out).2.2 x64_1 p20032 q20032
                                                    obtain rfl : ad20031 = ad20032 := (by injection e20032)
                                                    replace p20032 := eq_true p20032
                                                    replace q20032 := eq_true q20032
                                                    go_wp2
                                                    repeat (go_quiet (fail); try go_wp2)
                                                    go_roundg k3
                                                    case measure => have := HK1.out; have := HJ22.out; have := HK3.out; omega
                                                    case rel => exact ⟨(((rd y20025 x91_3) == (rd t20007 x64_1))), (wrap64 (x91_3 + 1)), (by first | rfl | (simp; done) | (simp [*]; done)), (by first | rfl | (simp; done) | (simp [*]; done)), H', ⟨by have := HK1.out; have := HJ22.out; have := HK3.out; omega⟩, ⟨by (with_reducible repeat (first | apply Kd.R_alloc | apply Kd.R_drewN | apply Kd.R_drew)); exact HO_3.out⟩, ⟨by (with_reducible repeat (first | apply Kd.R_alloc | apply Kd.R_drewN | apply Kd.R_drew)); exact HO_4.out⟩, ⟨by (with_reducible repeat (first | apply Kd.R_alloc | apply Kd.R_drewN | apply Kd.R_drew)); exact HO_5.out⟩, ⟨by (with_reducible repeat (first | apply Kd.R_alloc | apply Kd.R_drewN | apply Kd.R_drew)); exact HO_9.out⟩, ⟨by (with_reducible repeat (first | apply Kd.R_alloc | apply Kd.R_drewN | apply Kd.R_drew)); exact HO_62.out⟩, ⟨by repeat (first | (with_reducible exact HR20028.out) | (with_reducible refine Kd.C_alloc ?_ _) | (with_reducible refine Kd.C_drewN ?_ _) | (with_reducible refine Kd.C_drew ?_) | exact HR20028.out)⟩, ⟨by repeat (first | (with_reducible first | exact HB.out | apply below_alloc | apply pw_below_drewN | apply below_drew1) | exact HB.out)⟩⟩
                                                · rw [if_neg c41] at H
                                                  exact absurd H (by simp)
                                              · rw [if_neg c40] at H
                                                exact absurd H (by simp)
                                          · rw [if_neg c35] at H
                                            exact absurd H (by simp)
                                        · rw [if_neg c34] at H
                                          exact absurd H (by simp)
                                      · rw [if_neg c33] at H
                                        have c33b0 : decide (x91_3 < (y20025.length : Int)) = false := decide_eq_false c33
                                        clear c33
                                        by_cases c43 : x13_3 = true
                                        · subst c43
                                          have H1 : (laws_FnMost.l0 k3 t20001 t20002 t20007 t20017 t20001 (t20001.length : Int) (wrap64 (x64_1 + 1))) = some r := by rw [if_pos rfl] at H; exact H
                                          clear H
                                          have H := H1
                                          clear H1
                                          have H' := Aside0.mk H
                                          clear H
                                          go_wp2
                                          repeat (go_quiet (fail); try go_wp2)
                                          go_roundg k3
                                          case measure => have := HK1.out; have := HJ22.out; have := HK3.out; omega
                                          case rel => exact ⟨(wrap64 (x64_1 + 1)), (by first | rfl | (simp; done) | (simp [*]; done)), H', ⟨by have := HK1.out; have := HJ22.out; have := HK3.out; omega⟩, ⟨by (with_reducible repeat (first | apply Kd.R_alloc | apply Kd.R_drewN | apply Kd.R_drew)); exact HO_3.out⟩, ⟨by (with_reducible repeat (first | apply Kd.R_alloc | apply Kd.R_drewN | apply Kd.R_drew)); exact HO_4.out⟩, ⟨by (with_reducible repeat (first | apply Kd.R_alloc | apply Kd.R_drewN | apply Kd.R_drew)); exact HO_5.out⟩, ⟨by (with_reducible repeat (first | apply Kd.R_alloc | apply Kd.R_drewN | apply Kd.R_drew)); exact HO_9.out⟩, ⟨by (with_reducible repeat (first | apply Kd.R_alloc | apply Kd.R_drewN | apply Kd.R_drew)); exact HO_62.out⟩, ⟨by repeat (first | (with_reducible first | exact HB.out | apply below_alloc | apply pw_below_drewN | apply below_drew1) | exact HB.out)⟩⟩
                                        · replace c43 := Bool.eq_false_iff.mpr c43
                                          subst c43
                                          have H1 : (none) = some r := by rw [if_neg (show ¬ (false = true) by decide)] at H; exact H
                                          clear H
                                          have H := H1
                                          clear H1
                                          exact absurd H (by simp)
                                · rw [if_neg c30] at H
                                  exact absurd H (by simp)
                              · rw [if_neg c29] at H
                                exact absurd H (by simp)
                            · rw [if_neg c28] at H
                              exact absurd H (by simp)
                          · rw [if_neg c27] at H
                            exact absurd H (by simp)
                        · rw [if_neg c26] at H
                          exact absurd H (by simp)
                  · rw [if_neg c22] at H
                    exact absurd H (by simp)
                · rw [if_neg c21] at H
                  exact absurd H (by simp)
              · rw [if_neg c20] at H
                have c20b0 : decide (x64_1 < (t20001.length : Int)) = false := decide_eq_false c20
                clear c20
                obtain rfl := Option.some.inj H
                go_wp2
                repeat (go_quiet (fail); try go_wp2)
                go_ret
                exact ⟨by first | rfl | (simp [errW_none, errW_some] <;> rfl) | (simp [*, errW_none, errW_some] <;> rfl), by repeat (first | (with_reducible first | exact HB.out | apply below_alloc | apply pw_below_drewN | apply below_drew1) | exact HB.out)⟩
        · replace c9 := Bool.eq_false_iff.mpr c9
          subst c9
          have H1 : ((laws_faSame.f k t20007 t20011).bind fun t20016 => (if t20016 = true then (some (false == t20012)) else (none))) = some r := by rw [if_neg (show ¬ (false = true) by decide)] at H; exact H
          clear H
          have H := H1
          clear H1
          replace H := Option.bind_eq_some_iff.mp H
          obtain ⟨t20016, A440, H⟩ := H
          replace H : (if t20016 = true then (some (false == t20012)) else (none)) = some r := H
          have A44 := Aside0.mk A440
          clear A440
          by_cases c45 : t20016 = true
          · subst c45
            have H1 : (some (false == t20012)) = some r := by rw [if_pos rfl] at H; exact H
            clear H
            have H := H1
            clear H1
            (try (have hd_ := Option.some.inj (A6.out.symm.trans A44.out); subst hd_))
            (try (have hd_ := Option.some.inj (A6.out.symm.trans A44.out); subst hd_))
            (try (have hd_ := Option.some.inj (A6.out.symm.trans A44.out); subst hd_))
            obtain rfl := Option.some.inj H
            go_enter Try.func8, Try.ntmps8
            go_wp2_with (first | (go_at_call 35; (with_reducible refine (spec_DrawMostSegments.calls k _ _ l0 t20001 t20002 _ ?side1 ?side2 A3.out).mono ?_); (case side1 => repeat (first | exact HR0.out | (with_reducible refine Kd.C_alloc ?_ _) | (with_reducible refine Kd.C_drewN ?_ _) | (with_reducible refine Kd.C_drew ?_))); (case side2 => exact HC0.out); rintro e w46 ⟨v20003, v20005, rfl, ho0, ho1, hb⟩; have n0_ := Aside0.mk (Kd.R_lower ho0 (below_size (by repeat (first | (with_reducible first | exact HB.out | apply below_alloc | apply pw_below_drewN | apply below_drew1) | exact HB.out)))); have n1_ := Aside0.mk (Kd.R_lower ho1 (below_size (by repeat (first | (with_reducible first | exact HB.out | apply below_alloc | apply pw_below_drewN | apply below_drew1) | exact HB.out)))); have n2_ := Aside0.mk (below_step (by repeat (first | (with_reducible first | exact HB.out | apply below_alloc | apply pw_below_drewN | apply below_drew1) | exact HB.out)) hb); clear HB; have HO20004 := n0_; have HO20006 := n1_; have HB := n2_; clear n0_ n1_ n2_; (try clear hb); (try clear hb2); (try clear hk); (try clear hi); (try clear ho0); (try clear ho1); obtain ⟨Ao47, co47, eo47⟩ := Kd.R_slice HO20004.out; subst eo47; obtain ⟨Ao48, co48, eo48⟩ := Kd.R_slice HO20006.out; subst eo48) | (go_at_call 30; (with_reducible refine (impl_MostSegments.calls k _ _ t20001 _ _ t20002 t20007 false _ ?side1 ?side2 ?side3 ?side4 A4.out).mono ?_); (case side1 => repeat (first | exact (Kd.R_reads' HO20004.out).2.2 | (with_reducible refine Kd.C_alloc ?_ _) | (with_reducible refine Kd.C_drewN ?_ _) | (with_reducible refine Kd.C_drew ?_))); (case side2 => exact (Kd.R_reads' HO20004.out).2.1); (case side3 => repeat (first | exact (Kd.R_reads' HO20006.out).2.2 | (with_reducible refine Kd.C_alloc ?_ _) | (with_reducible refine Kd.C_drewN ?_ _) | (with_reducible refine Kd.C_drew ?_))); (case side4 => exact (Kd.R_reads' HO20006.out).2.1); rintro e w49 ⟨v20009, rfl, ho0, hb⟩; have n0_ := Aside0.mk (Kd.R_elder' (by (with_reducible repeat (first | apply Kd.R_alloc | apply Kd.R_drewN | apply Kd.R_drew)); exact HO20004.out) (Kd.R_base ho0) hb); have n1_ := Aside0.mk (Kd.R_elder' (by (with_reducible repeat (first | apply Kd.R_alloc | apply Kd.R_drewN | apply Kd.R_drew)); exact HO20006.out) (Kd.R_base ho0) hb); have n2_ := Aside0.mk (Kd.R_lower (Kd.R_new' (Kd.R_new' ho0 (Kd.R_lt (by (with_reducible repeat (first | apply Kd.R_alloc | apply Kd.R_drewN | apply Kd.R_drew)); exact HO20004.out))) (Kd.R_lt (by (with_reducible repeat (first | apply Kd.R_alloc | apply Kd.R_drewN | apply Kd.R_drew)); exact HO20006.out))) (below_size (by repeat (first | (with_reducible first | exact HB.out | apply below_alloc | apply pw_below_drewN | apply below_drew1) | exact HB.out)))); have n3_ := Aside0.mk (below_step (by repeat (first | (with_reducible first | exact HB.out | apply below_alloc | apply pw_below_drewN | apply below_drew1) | exact HB.out)) hb); clear HO20004; clear HO20006; clear HB; have HO20004 := n0_; have HO20006 := n1_; have HO20010 := n2_; have HB := n3_; clear n0_ n1_ n2_ n3_; (try clear hb); (try clear hb2); (try clear hk); (try clear hi); (try clear ho0)) | (go_at_call 29; (with_reducible refine (spec_MostSegments.calls k _ _ t20001 _ _ t20002 t20011 t20012 _ ?side1 ?side2 ?side3 ?side4 A5.out).mono ?_); (case side1 => repeat (first | exact (Kd.R_reads' HO20004.out).2.2 | (with_reducible refine Kd.C_alloc ?_ _) | (with_reducible refine Kd.C_drewN ?_ _) | (with_reducible refine Kd.C_drew ?_))); (case side2 => exact (Kd.R_reads' HO20004.out).2.1); (case side3 => repeat (first | exact (Kd.R_reads' HO20006.out).2.2 | (with_reducible refine Kd.C_alloc ?_ _) | (with_reducible refine Kd.C_drewN ?_ _) | (with_reducible refine Kd.C_drew ?_))); (case side4 => exact (Kd.R_reads' HO20006.out).2.1); rintro e w50 ⟨v20013, rfl, ho0, hb⟩; have n0_ := Aside0.mk (Kd.R_elder' (by (with_reducible repeat (first | apply Kd.R_alloc | apply Kd.R_drewN | apply Kd.R_drew)); exact HO20004.out) (Kd.R_base ho0) hb); have n1_ := Aside0.mk (Kd.R_elder' (by (with_reducible repeat (first | apply Kd.R_alloc | apply Kd.R_drewN | apply Kd.R_drew)); exact HO20006.out) (Kd.R_base ho0) hb); have n2_ := Aside0.mk (Kd.R_elder' (by (with_reducible repeat (first | apply Kd.R_alloc | apply Kd.R_drewN | apply Kd.R_drew)); exact HO20010.out) (Kd.R_base ho0) hb); have n3_ := Aside0.mk (Kd.R_lower (Kd.R_new' (Kd.R_new' (Kd.R_new' ho0 (Kd.R_lt (by (with_reducible repeat (first | apply Kd.R_alloc | apply Kd.R_drewN | apply Kd.R_drew)); exact HO20004.out))) (Kd.R_lt (by (with_reducible repeat (first | apply Kd.R_alloc | apply Kd.R_drewN | apply Kd.R_drew)); exact HO20006.out))) (Kd.R_lt (by (with_reducible repeat (first | apply Kd.R_alloc | apply Kd.R_drewN | apply Kd.R_drew)); exact HO20010.out))) (below_size (by repeat (first | (with_reducible first | exact HB.out | apply below_alloc | apply pw_below_drewN | apply below_drew1) | exact HB.out)))); have n4_ := Aside0.mk (below_step (by repeat (first | (with_reducible first | exact HB.out | apply below_alloc | apply pw_below_drewN | apply below_drew1) | exact HB.out)) hb); clear HO20004; clear HO20006; clear HO20010; clear HB; have HO20004 := n0_; have HO20006 := n1_; have HO20010 := n2_; have HO20014 := n3_; have HB := n4_; clear n0_ n1_ n2_ n3_ n4_; (try clear hb); (try clear hb2); (try clear hk); (try clear hi); (try clear ho0); obtain ⟨Ao51, co51, eo51⟩ := Kd.R_slice HO20010.out; subst eo51; obtain ⟨Ao52, co52, eo52⟩ := Kd.R_slice HO20014.out; subst eo52) | (go_at_call 26; (with_reducible refine (laws_faSame.calls k _ _ t20007 _ _ t20011 true _ ?side1 ?side2 ?side3 ?side4 A6.out).mono ?_); (case side1 => repeat (first | exact (Kd.R_reads' HO20010.out).2.2 | (with_reducible refine Kd.C_alloc ?_ _) | (with_reducible refine Kd.C_drewN ?_ _) | (with_reducible refine Kd.C_drew ?_))); (case side2 => exact (Kd.R_reads' HO20010.out).2.1); (case side3 => repeat (first | exact (Kd.R_reads' HO20014.out).2.2 | (with_reducible refine Kd.C_alloc ?_ _) | (with_reducible refine Kd.C_drewN ?_ _) | (with_reducible refine Kd.C_drew ?_))); (case side4 => exact (Kd.R_reads' HO20014.out).2.1); rintro e w53 ⟨rfl, hb⟩; have n0_ := Aside0.mk (Kd.R_below (by (with_reducible repeat (first | apply Kd.R_alloc | apply Kd.R_drewN | apply Kd.R_drew)); exact HO20004.out) hb); have n1_ := Aside0.mk (Kd.R_below (by (with_reducible repeat (first | apply Kd.R_alloc | apply Kd.R_drewN | apply Kd.R_drew)); exact HO20006.out) hb); have n2_ := Aside0.mk (Kd.R_below (by (with_reducible repeat (first | apply Kd.R_alloc | apply Kd.R_drewN | apply Kd.R_drew)); exact HO20010.out) hb); have n3_ := Aside0.mk (Kd.R_below (by (with_reducible repeat (first | apply Kd.R_alloc | apply Kd.R_drewN | apply Kd.R_drew)); exact HO20014.out) hb); have n4_ := Aside0.mk (below_step (by repeat (first | (with_reducible first | exact HB.out | apply below_alloc | apply pw_below_drewN | apply below_drew1) | exact HB.out)) hb); clear HO20004; clear HO20006; clear HO20010; clear HO20014; clear HB; have HO20004 := n0_; have HO20006 := n1_; have HO20010 := n2_; have HO20014 := n3_; have HB := n4_; clear n0_ n1_ n2_ n3_ n4_; (try clear hb); (try clear hb2); (try clear hk); (try clear hi)) | (go_at_call 26; (with_reducible refine (laws_faSame.calls k _ _ t20007 _ _ t20011 true _ ?side1 ?side2 ?side3 ?side4 A44.out).mono ?_); (case side1 => repeat (first | exact (Kd.R_reads' HO20010.out).2.2 | (with_reducible refine Kd.C_alloc ?_ _) | (with_reducible refine Kd.C_drewN ?_ _) | (with_reducible refine Kd.C_drew ?_))); (case side2 => exact (Kd.R_reads' HO20010.out).2.1); (case side3 => repeat (first | exact (Kd.R_reads' HO20014.out).2.2 | (with_reducible refine Kd.C_alloc ?_ _) | (with_reducible refine Kd.C_drewN ?_ _) | (with_reducible refine Kd.C_drew ?_))); (case side4 => exact (Kd.R_reads' HO20014.out).2.1); rintro e w54 ⟨rfl, hb⟩; have n0_ := Aside0.mk (Kd.R_below (by (with_reducible repeat (first | apply Kd.R_alloc | apply Kd.R_drewN | apply Kd.R_drew)); exact HO20004.out) hb); have n1_ := Aside0.mk (Kd.R_below (by (with_reducible repeat (first | apply Kd.R_alloc | apply Kd.R_drewN | apply Kd.R_drew)); exact HO20006.out) hb); have n2_ := Aside0.mk (Kd.R_below (by (with_reducible repeat (first | apply Kd.R_alloc | apply Kd.R_drewN | apply Kd.R_drew)); exact HO20010.out) hb); have n3_ := Aside0.mk (Kd.R_below (by (with_reducible repeat (first | apply Kd.R_alloc | apply Kd.R_drewN | apply Kd.R_drew)); exact HO20014.out) hb); have n4_ := Aside0.mk (below_step (by repeat (first | (with_reducible first | exact HB.out | apply below_alloc | apply pw_below_drewN | apply below_drew1) | exact HB.out)) hb); clear HO20004; clear HO20006; clear HO20010; clear HO20014; clear HB; have HO20004 := n0_; have HO20006 := n1_; have HO20010 := n2_; have HO20014 := n3_; have HB := n4_; clear n0_ n1_ n2_ n3_ n4_; (try clear hb); (try clear hb2); (try clear hk); (try clear hi)))
            repeat (go_quiet (first | (go_at_call 35; (with_reducible refine (spec_DrawMostSegments.calls k _ _ l0 t20001 t20002 _ ?side1 ?side2 A3.out).mono ?_); (case side1 => repeat (first | exact HR0.out | (with_reducible refine Kd.C_alloc ?_ _) | (with_reducible refine Kd.C_drewN ?_ _) | (with_reducible refine Kd.C_drew ?_))); (case side2 => exact HC0.out); rintro e w46 ⟨v20003, v20005, rfl, ho0, ho1, hb⟩; have n0_ := Aside0.mk (Kd.R_lower ho0 (below_size (by repeat (first | (with_reducible first | exact HB.out | apply below_alloc | apply pw_below_drewN | apply below_drew1) | exact HB.out)))); have n1_ := Aside0.mk (Kd.R_lower ho1 (below_size (by repeat (first | (with_reducible first | exact HB.out | apply below_alloc | apply pw_below_drewN | apply below_drew1) | exact HB.out)))); have n2_ := Aside0.mk (below_step (by repeat (first | (with_reducible first | exact HB.out | apply below_alloc | apply pw_below_drewN | apply below_drew1) | exact HB.out)) hb); clear HB; have HO20004 := n0_; have HO20006 := n1_; have HB := n2_; clear n0_ n1_ n2_; (try clear hb); (try clear hb2); (try clear hk); (try clear hi); (try clear ho0); (try clear ho1); obtain ⟨Ao47, co47, eo47⟩ := Kd.R_slice HO20004.out; subst eo47; obtain ⟨Ao48, co48, eo48⟩ := Kd.R_slice HO20006.out; subst eo48) | (go_at_call 30; (with_reducible refine (impl_MostSegments.calls k _ _ t20001 _ _ t20002 t20007 false _ ?side1 ?side2 ?side3 ?side4 A4.out).mono ?_); (case side1 => repeat (first | exact (Kd.R_reads' HO20004.out).2.2 | (with_reducible refine Kd.C_alloc ?_ _) | (with_reducible refine Kd.C_drewN ?_ _) | (with_reducible refine Kd.C_drew ?_))); (case side2 => exact (Kd.R_reads' HO20004.out).2.1); (case side3 => repeat (first | exact (Kd.R_reads' HO20006.out).2.2 | (with_reducible refine Kd.C_alloc ?_ _) | (with_reducible refine Kd.C_drewN ?_ _) | (with_reducible refine Kd.C_drew ?_))); (case side4 => exact (Kd.R_reads' HO20006.out).2.1); rintro e w49 ⟨v20009, rfl, ho0, hb⟩; have n0_ := Aside0.mk (Kd.R_elder' (by (with_reducible repeat (first | apply Kd.R_alloc | apply Kd.R_drewN | apply Kd.R_drew)); exact HO20004.out) (Kd.R_base ho0) hb); have n1_ := Aside0.mk (Kd.R_elder' (by (with_reducible repeat (first | apply Kd.R_alloc | apply Kd.R_drewN | apply Kd.R_drew)); exact HO20006.out) (Kd.R_base ho0) hb); have n2_ := Aside0.mk (Kd.R_lower (Kd.R_new' (Kd.R_new' ho0 (Kd.R_lt (by (with_reducible repeat (first | apply Kd.R_alloc | apply Kd.R_drewN | apply Kd.R_drew)); exact HO20004.out))) (Kd.R_lt (by (with_reducible repeat (first | apply Kd.R_alloc | apply Kd.R_drewN | apply Kd.R_drew)); exact HO20006.out))) (below_size (by repeat (first | (with_reducible first | exact HB.out | apply below_alloc | apply pw_below_drewN | apply below_drew1) | exact HB.out)))); have n3_ := Aside0.mk (below_step (by repeat (first | (with_reducible first | exact HB.out | apply below_alloc | apply pw_below_drewN | apply below_drew1) | exact HB.out)) hb); clear HO20004; clear HO20006; clear HB; have HO20004 := n0_; have HO20006 := n1_; have HO20010 := n2_; have HB := n3_; clear n0_ n1_ n2_ n3_; (try clear hb); (try clear hb2); (try clear hk); (try clear hi); (try clear ho0)) | (go_at_call 29; (with_reducible refine (spec_MostSegments.calls k _ _ t20001 _ _ t20002 t20011 t20012 _ ?side1 ?side2 ?side3 ?side4 A5.out).mono ?_); (case side1 => repeat (first | exact (Kd.R_reads' HO20004.out).2.2 | (with_reducible refine Kd.C_alloc ?_ _) | (with_reducible refine Kd.C_drewN ?_ _) | (with_reducible refine Kd.C_drew ?_))); (case side2 => exact (Kd.R_reads' HO20004.out).2.1); (case side3 => repeat (first | exact (Kd.R_reads' HO20006.out).2.2 | (with_reducible refine Kd.C_alloc ?_ _) | (with_reducible refine Kd.C_drewN ?_ _) | (with_reducible refine Kd.C_drew ?_))); (case side4 => exact (Kd.R_reads' HO20006.out).2.1); rintro e w50 ⟨v20013, rfl, ho0, hb⟩; have n0_ := Aside0.mk (Kd.R_elder' (by (with_reducible repeat (first | apply Kd.R_alloc | apply Kd.R_drewN | apply Kd.R_drew)); exact HO20004.out) (Kd.R_base ho0) hb); have n1_ := Aside0.mk (Kd.R_elder' (by (with_reducible repeat (first | apply Kd.R_alloc | apply Kd.R_drewN | apply Kd.R_drew)); exact HO20006.out) (Kd.R_base ho0) hb); have n2_ := Aside0.mk (Kd.R_elder' (by (with_reducible repeat (first | apply Kd.R_alloc | apply Kd.R_drewN | apply Kd.R_drew)); exact HO20010.out) (Kd.R_base ho0) hb); have n3_ := Aside0.mk (Kd.R_lower (Kd.R_new' (Kd.R_new' (Kd.R_new' ho0 (Kd.R_lt (by (with_reducible repeat (first | apply Kd.R_alloc | apply Kd.R_drewN | apply Kd.R_drew)); exact HO20004.out))) (Kd.R_lt (by (with_reducible repeat (first | apply Kd.R_alloc | apply Kd.R_drewN | apply Kd.R_drew)); exact HO20006.out))) (Kd.R_lt (by (with_reducible repeat (first | apply Kd.R_alloc | apply Kd.R_drewN | apply Kd.R_drew)); exact HO20010.out))) (below_size (by repeat (first | (with_reducible first | exact HB.out | apply below_alloc | apply pw_below_drewN | apply below_drew1) | exact HB.out)))); have n4_ := Aside0.mk (below_step (by repeat (first | (with_reducible first | exact HB.out | apply below_alloc | apply pw_below_drewN | apply below_drew1) | exact HB.out)) hb); clear HO20004; clear HO20006; clear HO20010; clear HB; have HO20004 := n0_; have HO20006 := n1_; have HO20010 := n2_; have HO20014 := n3_; have HB := n4_; clear n0_ n1_ n2_ n3_ n4_; (try clear hb); (try clear hb2); (try clear hk); (try clear hi); (try clear ho0); obtain ⟨Ao51, co51, eo51⟩ := Kd.R_slice HO20010.out; subst eo51; obtain ⟨Ao52, co52, eo52⟩ := Kd.R_slice HO20014.out; subst eo52) | (go_at_call 26; (with_reducible refine (laws_faSame.calls k _ _ t20007 _ _ t20011 true _ ?side1 ?side2 ?side3 ?side4 A6.out).mono ?_); (case side1 => repeat (first | exact (Kd.R_reads' HO20010.out).2.2 | (with_reducible refine Kd.C_alloc ?_ _) | (with_reducible refine Kd.C_drewN ?_ _) | (with_reducible refine Kd.C_drew ?_))); (case side2 => exact (Kd.R_reads' HO20010.out).2.1); (case side3 => repeat (first | exact (Kd.R_reads' HO20014.out).2.2 | (with_reducible refine Kd.C_alloc ?_ _) | (with_reducible refine Kd.C_drewN ?_ _) | (with_reducible refine Kd.C_drew ?_))); (case side4 => exact (Kd.R_reads' HO20014.out).2.1); rintro e w53 ⟨rfl, hb⟩; have n0_ := Aside0.mk (Kd.R_below (by (with_reducible repeat (first | apply Kd.R_alloc | apply Kd.R_drewN | apply Kd.R_drew)); exact HO20004.out) hb); have n1_ := Aside0.mk (Kd.R_below (by (with_reducible repeat (first | apply Kd.R_alloc | apply Kd.R_drewN | apply Kd.R_drew)); exact HO20006.out) hb); have n2_ := Aside0.mk (Kd.R_below (by (with_reducible repeat (first | apply Kd.R_alloc | apply Kd.R_drewN | apply Kd.R_drew)); exact HO20010.out) hb); have n3_ := Aside0.mk (Kd.R_below (by (with_reducible repeat (first | apply Kd.R_alloc | apply Kd.R_drewN | apply Kd.R_drew)); exact HO20014.out) hb); have n4_ := Aside0.mk (below_step (by repeat (first | (with_reducible first | exact HB.out | apply below_alloc | apply pw_below_drewN | apply below_drew1) | exact HB.out)) hb); clear HO20004; clear HO20006; clear HO20010; clear HO20014; clear HB; have HO20004 := n0_; have HO20006 := n1_; have HO20010 := n2_; have HO20014 := n3_; have HB := n4_; clear n0_ n1_ n2_ n3_ n4_; (try clear hb); (try clear hb2); (try clear hk); (try clear hi)) | (go_at_call 26; (with_reducible refine (laws_faSame.calls k _ _ t20007 _ _ t20011 true _ ?side1 ?side2 ?side3 ?side4 A44.out).mono ?_); (case side1 => repeat (first | exact (Kd.R_reads' HO20010.out).2.2 | (with_reducible refine Kd.C_alloc ?_ _) | (with_reducible refine Kd.C_drewN ?_ _) | (with_reducible refine Kd.C_drew ?_))); (case side2 => exact (Kd.R_reads' HO20010.out).2.1); (case side3 => repeat (first | exact (Kd.R_reads' HO20014.out).2.2 | (with_reducible refine Kd.C_alloc ?_ _) | (with_reducible refine Kd.C_drewN ?_ _) | (with_reducible refine Kd.C_drew ?_))); (case side4 => exact (Kd.R_reads' HO20014.out).2.1); rintro e w54 ⟨rfl, hb⟩; have n0_ := Aside0.mk (Kd.R_below (by (with_reducible repeat (first | apply Kd.R_alloc | apply Kd.R_drewN | apply Kd.R_drew)); exact HO20004.out) hb); have n1_ := Aside0.mk (Kd.R_below (by (with_reducible repeat (first | apply Kd.R_alloc | apply Kd.R_drewN | apply Kd.R_drew)); exact HO20006.out) hb); have n2_ := Aside0.mk (Kd.R_below (by (with_reducible repeat (first | apply Kd.R_alloc | apply Kd.R_drewN | apply Kd.R_drew)); exact HO20010.out) hb); have n3_ := Aside0.mk (Kd.R_below (by (with_reducible repeat (first | apply Kd.R_alloc | apply Kd.R_drewN | apply Kd.R_drew)); exact HO20014.out) hb); have n4_ := Aside0.mk (below_step (by repeat (first | (with_reducible first | exact HB.out | apply below_alloc | apply pw_below_drewN | apply below_drew1) | exact HB.out)) hb); clear HO20004; clear HO20006; clear HO20010; clear HO20014; clear HB; have HO20004 := n0_; have HO20006 := n1_; have HO20010 := n2_; have HO20014 := n3_; have HB := n4_; clear n0_ n1_ n2_ n3_ n4_; (try clear hb); (try clear hb2); (try clear hk); (try clear hi))); try go_wp2_with (first | (go_at_call 35; (with_reducible refine (spec_DrawMostSegments.calls k _ _ l0 t20001 t20002 _ ?side1 ?side2 A3.out).mono ?_); (case side1 => repeat (first | exact HR0.out | (with_reducible refine Kd.C_alloc ?_ _) | (with_reducible refine Kd.C_drewN ?_ _) | (with_reducible refine Kd.C_drew ?_))); (case side2 => exact HC0.out); rintro e w46 ⟨v20003, v20005, rfl, ho0, ho1, hb⟩; have n0_ := Aside0.mk (Kd.R_lower ho0 (below_size (by repeat (first | (with_reducible first | exact HB.out | apply below_alloc | apply pw_below_drewN | apply below_drew1) | exact HB.out)))); have n1_ := Aside0.mk (Kd.R_lower ho1 (below_size (by repeat (first | (with_reducible first | exact HB.out | apply below_alloc | apply pw_below_drewN | apply below_drew1) | exact HB.out)))); have n2_ := Aside0.mk (below_step (by repeat (first | (with_reducible first | exact HB.out | apply below_alloc | apply pw_below_drewN | apply below_drew1) | exact HB.out)) hb); clear HB; have HO20004 := n0_; have HO20006 := n1_; have HB := n2_; clear n0_ n1_ n2_; (try clear hb); (try clear hb2); (try clear hk); (try clear hi); (try clear ho0); (try clear ho1); obtain ⟨Ao47, co47, eo47⟩ := Kd.R_slice HO20004.out; subst eo47; obtain ⟨Ao48, co48, eo48⟩ := Kd.R_slice HO20006.out; subst eo48) | (go_at_call 30; (with_reducible refine (impl_MostSegments.calls k _ _ t20001 _ _ t20002 t20007 false _ ?side1 ?side2 ?side3 ?side4 A4.out).mono ?_); (case side1 => repeat (first | exact (Kd.R_reads' HO20004.out).2.2 | (with_reducible refine Kd.C_alloc ?_ _) | (with_reducible refine Kd.C_drewN ?_ _) | (with_reducible refine Kd.C_drew ?_))); (case side2 => exact (Kd.R_reads' HO20004.out).2.1); (case side3 => repeat (first | exact (Kd.R_reads' HO20006.out).2.2 | (with_reducible refine Kd.C_alloc ?_ _) | (with_reducible refine Kd.C_drewN ?_ _) | (with_reducible refine Kd.C_drew ?_))); (case side4 => exact (Kd.R_reads' HO20006.out).2.1); rintro e w49 ⟨v20009, rfl, ho0, hb⟩; have n0_ := Aside0.mk (Kd.R_elder' (by (with_reducible repeat (first | apply Kd.R_alloc | apply Kd.R_drewN | apply Kd.R_drew)); exact HO20004.out) (Kd.R_base ho0) hb); have n1_ := Aside0.mk (Kd.R_elder' (by (with_reducible repeat (first | apply Kd.R_alloc | apply Kd.R_drewN | apply Kd.R_drew)); exact HO20006.out) (Kd.R_base ho0) hb); have n2_ := Aside0.mk (Kd.R_lower (Kd.R_new' (Kd.R_new' ho0 (Kd.R_lt (by (with_reducible repeat (first | apply Kd.R_alloc | apply Kd.R_drewN | apply Kd.R_drew)); exact HO20004.out))) (Kd.R_lt (by (with_reducible repeat (first | apply Kd.R_alloc | apply Kd.R_drewN | apply Kd.R_drew)); exact HO20006.out))) (below_size (by repeat (first | (with_reducible first | exact HB.out | apply below_alloc | apply pw_below_drewN | apply below_drew1) | exact HB.out)))); have n3_ := Aside0.mk (below_step (by repeat (first | (with_reducible first | exact HB.out | apply below_alloc | apply pw_below_drewN | apply below_drew1) | exact HB.out)) hb); clear HO20004; clear HO20006; clear HB; have HO20004 := n0_; have HO20006 := n1_; have HO20010 := n2_; have HB := n3_; clear n0_ n1_ n2_ n3_; (try clear hb); (try clear hb2); (try clear hk); (try clear hi); (try clear ho0)) | (go_at_call 29; (with_reducible refine (spec_MostSegments.calls k _ _ t20001 _ _ t20002 t20011 t20012 _ ?side1 ?side2 ?side3 ?side4 A5.out).mono ?_); (case side1 => repeat (first | exact (Kd.R_reads' HO20004.out).2.2 | (with_reducible refine Kd.C_alloc ?_ _) | (with_reducible refine Kd.C_drewN ?_ _) | (with_reducible refine Kd.C_drew ?_))); (case side2 => exact (Kd.R_reads' HO20004.out).2.1); (case side3 => repeat (first | exact (Kd.R_reads' HO20006.out).2.2 | (with_reducible refine Kd.C_alloc ?_ _) | (with_reducible refine Kd.C_drewN ?_ _) | (with_reducible refine Kd.C_drew ?_))); (case side4 => exact (Kd.R_reads' HO20006.out).2.1); rintro e w50 ⟨v20013, rfl, ho0, hb⟩; have n0_ := Aside0.mk (Kd.R_elder' (by (with_reducible repeat (first | apply Kd.R_alloc | apply Kd.R_drewN | apply Kd.R_drew)); exact HO20004.out) (Kd.R_base ho0) hb); have n1_ := Aside0.mk (Kd.R_elder' (by (with_reducible repeat (first | apply Kd.R_alloc | apply Kd.R_drewN | apply Kd.R_drew)); exact HO20006.out) (Kd.R_base ho0) hb); have n2_ := Aside0.mk (Kd.R_elder' (by (with_reducible repeat (first | apply Kd.R_alloc | apply Kd.R_drewN | apply Kd.R_drew)); exact HO20010.out) (Kd.R_base ho0) hb); have n3_ := Aside0.mk (Kd.R_lower (Kd.R_new' (Kd.R_new' (Kd.R_new' ho0 (Kd.R_lt (by (with_reducible repeat (first | apply Kd.R_alloc | apply Kd.R_drewN | apply Kd.R_drew)); exact HO20004.out))) (Kd.R_lt (by (with_reducible repeat (first | apply Kd.R_alloc | apply Kd.R_drewN | apply Kd.R_drew)); exact HO20006.out))) (Kd.R_lt (by (with_reducible repeat (first | apply Kd.R_alloc | apply Kd.R_drewN | apply Kd.R_drew)); exact HO20010.out))) (below_size (by repeat (first | (with_reducible first | exact HB.out | apply below_alloc | apply pw_below_drewN | apply below_drew1) | exact HB.out)))); have n4_ := Aside0.mk (below_step (by repeat (first | (with_reducible first | exact HB.out | apply below_alloc | apply pw_below_drewN | apply below_drew1) | exact HB.out)) hb); clear HO20004; clear HO20006; clear HO20010; clear HB; have HO20004 := n0_; have HO20006 := n1_; have HO20010 := n2_; have HO20014 := n3_; have HB := n4_; clear n0_ n1_ n2_ n3_ n4_; (try clear hb); (try clear hb2); (try clear hk); (try clear hi); (try clear ho0); obtain ⟨Ao51, co51, eo51⟩ := Kd.R_slice HO20010.out; subst eo51; obtain ⟨Ao52, co52, eo52⟩ := Kd.R_slice HO20014.out; subst eo52) | (go_at_call 26; (with_reducible refine (laws_faSame.calls k _ _ t20007 _ _ t20011 true _ ?side1 ?side2 ?side3 ?side4 A6.out).mono ?_); (case side1 => repeat (first | exact (Kd.R_reads' HO20010.out).2.2 | (with_reducible refine Kd.C_alloc ?_ _) | (with_reducible refine Kd.C_drewN ?_ _) | (with_reducible refine Kd.C_drew ?_))); (case side2 => exact (Kd.R_reads' HO20010.out).2.1); (case side3 => repeat (first | exact (Kd.R_reads' HO20014.out).2.2 | (with_reducible refine Kd.C_alloc ?_ _) | (with_reducible refine Kd.C_drewN ?_ _) | (with_reducible refine Kd.C_drew ?_))); (case side4 => exact (Kd.R_reads' HO20014.out).2.1); rintro e w53 ⟨rfl, hb⟩; have n0_ := Aside0.mk (Kd.R_below (by (with_reducible repeat (first | apply Kd.R_alloc | apply Kd.R_drewN | apply Kd.R_drew)); exact HO20004.out) hb); have n1_ := Aside0.mk (Kd.R_below (by (with_reducible repeat (first | apply Kd.R_alloc | apply Kd.R_drewN | apply Kd.R_drew)); exact HO20006.out) hb); have n2_ := Aside0.mk (Kd.R_below (by (with_reducible repeat (first | apply Kd.R_alloc | apply Kd.R_drewN | apply Kd.R_drew)); exact HO20010.out) hb); have n3_ := Aside0.mk (Kd.R_below (by (with_reducible repeat (first | apply Kd.R_alloc | apply Kd.R_drewN | apply Kd.R_drew)); exact HO20014.out) hb); have n4_ := Aside0.mk (below_step (by repeat (first | (with_reducible first | exact HB.out | apply below_alloc | apply pw_below_drewN | apply below_drew1) | exact HB.out)) hb); clear HO20004; clear HO20006; clear HO20010; clear HO20014; clear HB; have HO20004 := n0_; have HO20006 := n1_; have HO20010 := n2_; have HO20014 := n3_; have HB := n4_; clear n0_ n1_ n2_ n3_ n4_; (try clear hb); (try clear hb2); (try clear hk); (try clear hi)) | (go_at_call 26; (with_reducible refine (laws_faSame.calls k _ _ t20007 _ _ t20011 true _ ?side1 ?side2 ?side3 ?side4 A44.out).mono ?_); (case side1 => repeat (first | exact (Kd.R_reads' HO20010.out).2.2 | (with_reducible refine Kd.C_alloc ?_ _) | (with_reducible refine Kd.C_drewN ?_ _) | (with_reducible refine Kd.C_drew ?_))); (case side2 => exact (Kd.R_reads' HO20010.out).2.1); (case side3 => repeat (first | exact (Kd.R_reads' HO20014.out).2.2 | (with_reducible refine Kd.C_alloc ?_ _) | (with_reducible refine Kd.C_drewN ?_ _) | (with_reducible refine Kd.C_drew ?_))); (case side4 => exact (Kd.R_reads' HO20014.out).2.1); rintro e w54 ⟨rfl, hb⟩; have n0_ := Aside0.mk (Kd.R_below (by (with_reducible repeat (first | apply Kd.R_alloc | apply Kd.R_drewN | apply Kd.R_drew)); exact HO20004.out) hb); have n1_ := Aside0.mk (Kd.R_below (by (with_reducible repeat (first | apply Kd.R_alloc | apply Kd.R_drewN | apply Kd.R_drew)); exact HO20006.out) hb); have n2_ := Aside0.mk (Kd.R_below (by (with_reducible repeat (first | apply Kd.R_alloc | apply Kd.R_drewN | apply Kd.R_drew)); exact HO20010.out) hb); have n3_ := Aside0.mk (Kd.R_below (by (with_reducible repeat (first | apply Kd.R_alloc | apply Kd.R_drewN | apply Kd.R_drew)); exact HO20014.out) hb); have n4_ := Aside0.mk (below_step (by repeat (first | (with_reducible first | exact HB.out | apply below_alloc | apply pw_below_drewN | apply below_drew1) | exact HB.out)) hb); clear HO20004; clear HO20006; clear HO20010; clear HO20014; clear HB; have HO20004 := n0_; have HO20006 := n1_; have HO20010 := n2_; have HO20014 := n3_; have HB := n4_; clear n0_ n1_ n2_ n3_ n4_; (try clear hb); (try clear hb2); (try clear hk); (try clear hi))))
            go_ret
            exact ⟨by first | rfl | (simp [errW_none, errW_some] <;> rfl) | (simp [*, errW_none, errW_some] <;> rfl), by repeat (first | (with_reducible first | exact HB.out | apply below_alloc | apply pw_below_drewN | apply below_drew1) | exact HB.out)⟩
          · replace c45 := Bool.eq_false_iff.mpr c45
            subst c45
            have H1 : (none) = some r := by rw [if_neg (show ¬ (false = true) by decide)] at H; exact H
            clear H
            have H := H1
            clear H1
            exact absurd H (by simp)
    · replace c7 := Bool.eq_false_iff.mpr c7
      subst c7
      have H1 : (none) = some r := by rw [if_neg (show ¬ (false = true) by decide)] at H; exact H
      clear H
      have H := H1
      clear H1
      exact absurd H (by simp)

/-- THE ONE PURE STATEMENT of laws_FnMost: yours. -/
def laws_FnMost.Pure : Prop := ∀ (l0 : List Int), l0.length ≤ maxLen → l0.length * 1 ≤ 140737488351232 → (∀ x ∈ l0, (Lit.int .u8 x).wf = true) → ∃ k, laws_FnMost.f k l0 = some true
theorem laws_FnMost.walk (P : laws_FnMost.Pure) (a0 : Option Addr) (len0 cap0 : Nat) (z0 : List Int) (w : World) (w0 : (a0 = none ∧ len0 = 0 ∧ cap0 = 0 ∧ z0 = []) ∨ ∃ x, a0 = some x ∧ len0 ≤ cap0 ∧ cap0 ≤ maxLen ∧ z0.length = cap0 ∧ (∀ i, i < z0.length → w.cell? (x.add i) = some (.int .u8 (z0.getD i 0))) ∧ ∀ n ∈ z0, (Lit.int .u8 n).wf = true) (y0 : len0 * 1 ≤ 140737488351232) :
    Calls Try.prog 8 #[.slice a0 len0 cap0] w fun e w' => e = .returned (.bool true) ∧ Below w.heap.size w w' := by
  obtain ⟨l0, rfl, hr0, hm0, hw0, hc0⟩ := ReadsInt.ofRowC w0
  obtain ⟨k, h⟩ := P l0 hm0 y0 hw0
  refine (laws_FnMost.calls k _ _ l0 true w (Kd.C_of_reads (d := (0 : Int)) (h1 := fun _ => rfl) hr0) hc0 h).mono ?_
  rintro e w' ⟨rfl, hd⟩
  exact ⟨rfl, hd⟩

end Go.Proofs.Ytnehpbkjmmadkaa.Mo
