/-
  Cut to what this claim uses.
-/
import Derived.Test.YtjelhemaohjkdaaQVn0
import Derived.Test.YtjelhemaohjkdaaQVn1
import Derived.Test.YtjelhemaohjkdaaQVn3
namespace Go.Proofs.Ytjelhemaohjkdaa.Vn
open Go.RowKit Go.Proofs.YtjelhemaohjkdaaW.PrintWords Go.Proofs.YtjelhemaohjkdaaW.PrintLast Go.Proofs.YtjelhemaohjkdaaW.PrintMore
attribute [local go_sem] max2_int min2_int max_two min_two max_three min_three max_four min_four   -- for this text's walks alone
set_option linter.unusedVariables false
set_option linter.unusedSimpArgs false
mutual
def laws_FnParts.j0 : Nat → ByteArray → List ByteArray → ByteArray → Bool → Option (Bool)
  | 0, _, _, _, _ => none
  | k + 1, x3, x4, x5, x53 => if x53 = true then (none) else (if x5.toList = ([] : List UInt8) then (if (x4.length : Int) = 0 then ((impl_TermValid.f x3).bind fun t20017 => (if t20017 = true then (none) else ((impl_SizeOfTerm.f x3).bind fun t20018 => (some (t20018 == (-1)))))) else (none)) else (if x5.toList = ([91] : List UInt8) then (laws_FnParts.j1 k x3 x4 x5 1 0 true) else (laws_FnParts.j1 k x3 x4 x5 1 0 (x5.toList == ([123] : List UInt8)))))
def laws_FnParts.j1 : Nat → ByteArray → List ByteArray → ByteArray → Int → Int → Bool → Option (Bool)
  | 0, _, _, _, _, _, _ => none
  | k + 1, x3, x4, x5, x6, x7, x8 => laws_FnParts.l0 k x3 x4 x5 x6 x7 x8 x4 (x4.length : Int) 0
def laws_FnParts.l0 : Nat → ByteArray → List ByteArray → ByteArray → Int → Int → Bool → List ByteArray → Int → Int → Option (Bool)
  | 0, _, _, _, _, _, _, _, _, _ => none
  | k + 1, x3, x4, x5, x6, x7, x8, x75, x76, x77 => if x77 < x76 then (if 0 ≤ x77 then (if x77 < (x75.length : Int) then ((impl_SizeOfTerm.f (rdOf ByteArray.empty x75 x77)).bind fun t20020 => ((impl_LevelsOf.f (rdOf ByteArray.empty x75 x77)).bind fun t20021 => (if x8 = true then (if x77 = 1 then (laws_FnParts.l0 k x3 x4 x5 (wrap64 (x6 + t20020)) (mx x7 (wrap64 (t20021 + 1))) x8 x75 x76 (wrap64 (x77 + 1))) else (laws_FnParts.l0 k x3 x4 x5 (wrap64 (x6 + t20020)) (mx x7 t20021) x8 x75 x76 (wrap64 (x77 + 1)))) else (laws_FnParts.l0 k x3 x4 x5 (wrap64 (x6 + t20020)) (mx x7 t20021) x8 x75 x76 (wrap64 (x77 + 1)))))) else (none)) else (none)) else (if (x4.length : Int) = 1 then (if 0 < (x4.length : Int) then (if x5.size + (rdOf ByteArray.empty x4 0).size ≤ 9223372036854775807 then (if (x5 ++ (rdOf ByteArray.empty x4 0)).toList = x3.toList then ((impl_SizeOfTerm.f x3).bind fun t20023 => (if t20023 = x6 then ((impl_LevelsOf.f x3).bind fun t20024 => (some (t20024 == x7))) else (none))) else (none)) else (none)) else (none)) else (if x8 = true then (if 1 ≤ 2 then (if 2 ≤ (x3.size : Int) then (if x5.size + (x3.extract 1 2).size ≤ 9223372036854775807 then (if (x5 ++ (x3.extract 1 2)).size + 1 ≤ 9223372036854775807 then (if 0 < (x4.length : Int) then (if ((x5 ++ (x3.extract 1 2)) ++ (⟨#[58]⟩ : ByteArray)).size + (rdOf ByteArray.empty x4 0).size ≤ 9223372036854775807 then (if (((x5 ++ (x3.extract 1 2)) ++ (⟨#[58]⟩ : ByteArray)) ++ (rdOf ByteArray.empty x4 0)).size + 1 ≤ 9223372036854775807 then (if 1 < (x4.length : Int) then (if ((((x5 ++ (x3.extract 1 2)) ++ (⟨#[58]⟩ : ByteArray)) ++ (rdOf ByteArray.empty x4 0)) ++ (⟨#[62]⟩ : ByteArray)).size + (rdOf ByteArray.empty x4 1).size ≤ 9223372036854775807 then (if 0 ≤ (wrap64 ((x3.size : Int) - 1)) then (if (wrap64 ((x3.size : Int) - 1)) ≤ (x3.size : Int) then (if (((((x5 ++ (x3.extract 1 2)) ++ (⟨#[58]⟩ : ByteArray)) ++ (rdOf ByteArray.empty x4 0)) ++ (⟨#[62]⟩ : ByteArray)) ++ (rdOf ByteArray.empty x4 1)).size + (x3.extract ((wrap64 ((x3.size : Int) - 1)) : Int).toNat x3.size).size ≤ 9223372036854775807 then (if ((((((x5 ++ (x3.extract 1 2)) ++ (⟨#[58]⟩ : ByteArray)) ++ (rdOf ByteArray.empty x4 0)) ++ (⟨#[62]⟩ : ByteArray)) ++ (rdOf ByteArray.empty x4 1)) ++ (x3.extract ((wrap64 ((x3.size : Int) - 1)) : Int).toNat x3.size)).toList = x3.toList then ((impl_SizeOfTerm.f x3).bind fun t20027 => (if t20027 = x6 then ((impl_LevelsOf.f x3).bind fun t20028 => (some (t20028 == x7))) else (none))) else (none)) else (none)) else (none)) else (none)) else (none)) else (none)) else (none)) else (none)) else (none)) else (none)) else (none)) else (none)) else (none)) else (if (x4.length : Int) = 2 then (if 0 < (x4.length : Int) then (if 1 + (rdOf ByteArray.empty x4 0).size ≤ 9223372036854775807 then (if ((⟨#[40]⟩ : ByteArray) ++ (rdOf ByteArray.empty x4 0)).size + x5.size ≤ 9223372036854775807 then (if 1 < (x4.length : Int) then (if (((⟨#[40]⟩ : ByteArray) ++ (rdOf ByteArray.empty x4 0)) ++ x5).size + (rdOf ByteArray.empty x4 1).size ≤ 9223372036854775807 then (if ((((⟨#[40]⟩ : ByteArray) ++ (rdOf ByteArray.empty x4 0)) ++ x5) ++ (rdOf ByteArray.empty x4 1)).size + 1 ≤ 9223372036854775807 then (if (((((⟨#[40]⟩ : ByteArray) ++ (rdOf ByteArray.empty x4 0)) ++ x5) ++ (rdOf ByteArray.empty x4 1)) ++ (⟨#[41]⟩ : ByteArray)).toList = x3.toList then ((impl_SizeOfTerm.f x3).bind fun t20031 => (if t20031 = x6 then ((impl_LevelsOf.f x3).bind fun t20032 => (some (t20032 == x7))) else (none))) else (none)) else (none)) else (none)) else (none)) else (none)) else (none)) else (none)) else (if x5.toList = x3.toList then ((impl_SizeOfTerm.f x3).bind fun t20033 => (if t20033 = x6 then ((impl_LevelsOf.f x3).bind fun t20034 => (some (t20034 == x7))) else (none))) else (none)))))
end
def laws_FnParts.f (k : Nat) (l0 : List Int) : Option (Bool) := if (l0.length : Int) > 1048576 then (some true) else ((spec_DrawPartsOfTerm.f k l0).bind fun t20001 => ((impl_PartsOfTerm.f t20001).bind fun t20002 => ((impl_SignOf.f t20001).bind fun t20005 => ((spec_PartsOfTerm.f t20001).bind fun t20006 => ((laws_faTexts.f k t20002 t20006).bind fun t20009 => (if t20009 = true then ((spec_SignOf.f t20001).bind fun t20010 => (if t20005.toList = t20010.toList then ((impl_TermValid.f t20001).bind fun t20011 => ((spec_TermValid.f t20001).bind fun t20012 => (if (t20011 != t20012) = true then (none) else ((impl_SizeOfTerm.f t20001).bind fun t20013 => ((spec_SizeOfTerm.f t20001).bind fun t20014 => (if t20013 = t20014 then ((impl_LevelsOf.f t20001).bind fun t20015 => ((spec_LevelsOf.f t20001).bind fun t20016 => (laws_FnParts.j0 k t20001 t20002 t20005 (t20015 != t20016)))) else (laws_FnParts.j0 k t20001 t20002 t20005 true))))))) else (laws_FnParts.j0 k t20001 t20002 t20005 true))) else (none)))))))
theorem laws_FnParts.mono_l : ∀ k, (∀ y0 y1 y2 y3, LeO (laws_FnParts.j0 k y0 y1 y2 y3) (laws_FnParts.j0 (k + 1) y0 y1 y2 y3)) ∧ (∀ y0 y1 y2 y3 y4 y5, LeO (laws_FnParts.j1 k y0 y1 y2 y3 y4 y5) (laws_FnParts.j1 (k + 1) y0 y1 y2 y3 y4 y5)) ∧ (∀ y0 y1 y2 y3 y4 y5 y6 y7 y8, LeO (laws_FnParts.l0 k y0 y1 y2 y3 y4 y5 y6 y7 y8) (laws_FnParts.l0 (k + 1) y0 y1 y2 y3 y4 y5 y6 y7 y8))
  | 0 => ⟨fun _ _ _ _ r h => by simp [laws_FnParts.j0] at h, fun _ _ _ _ _ _ r h => by simp [laws_FnParts.j1] at h, fun _ _ _ _ _ _ _ _ _ r h => by simp [laws_FnParts.l0] at h⟩
  | k + 1 => by
    obtain ⟨ih0, ih1, ih2⟩ := laws_FnParts.mono_l k
    refine ⟨?_, ?_, ?_⟩
    · intro y0 y1 y2 y3
      unfold laws_FnParts.j0
      repeat' first
      | (with_reducible exact ih0 _ _ _ _)
      | (with_reducible exact ih1 _ _ _ _ _ _)
      | (with_reducible exact ih2 _ _ _ _ _ _ _ _ _)
      | (with_reducible exact laws_faTexts.mono _ _ _)
      | (with_reducible exact spec_DrawPartsOfTerm.mono _ _)
      | (with_reducible exact LeO.refl _)
      | (with_reducible exact LeO.none _)
      | (with_reducible refine LeO.ite ?_ ?_)
      | (with_reducible refine LeO.bind ?_ (fun _ => ?_))
      | exact ih0 _ _ _ _
      | exact ih1 _ _ _ _ _ _
      | exact ih2 _ _ _ _ _ _ _ _ _
      | exact laws_faTexts.mono _ _ _
      | exact spec_DrawPartsOfTerm.mono _ _
      | exact LeO.none _
      | refine LeO.ite ?_ ?_
      | refine LeO.bind ?_ (fun _ => ?_)
    · intro y0 y1 y2 y3 y4 y5
      unfold laws_FnParts.j1
      repeat' first
      | (with_reducible exact ih0 _ _ _ _)
      | (with_reducible exact ih1 _ _ _ _ _ _)
      | (with_reducible exact ih2 _ _ _ _ _ _ _ _ _)
      | (with_reducible exact laws_faTexts.mono _ _ _)
      | (with_reducible exact spec_DrawPartsOfTerm.mono _ _)
      | (with_reducible exact LeO.refl _)
      | (with_reducible exact LeO.none _)
      | (with_reducible refine LeO.ite ?_ ?_)
      | (with_reducible refine LeO.bind ?_ (fun _ => ?_))
      | exact ih0 _ _ _ _
      | exact ih1 _ _ _ _ _ _
      | exact ih2 _ _ _ _ _ _ _ _ _
      | exact laws_faTexts.mono _ _ _
      | exact spec_DrawPartsOfTerm.mono _ _
      | exact LeO.none _
      | refine LeO.ite ?_ ?_
      | refine LeO.bind ?_ (fun _ => ?_)
    · intro y0 y1 y2 y3 y4 y5 y6 y7 y8
      unfold laws_FnParts.l0
      repeat' first
      | (with_reducible exact ih0 _ _ _ _)
      | (with_reducible exact ih1 _ _ _ _ _ _)
      | (with_reducible exact ih2 _ _ _ _ _ _ _ _ _)
      | (with_reducible exact laws_faTexts.mono _ _ _)
      | (with_reducible exact spec_DrawPartsOfTerm.mono _ _)
      | (with_reducible exact LeO.refl _)
      | (with_reducible exact LeO.none _)
      | (with_reducible refine LeO.ite ?_ ?_)
      | (with_reducible refine LeO.bind ?_ (fun _ => ?_))
      | exact ih0 _ _ _ _
      | exact ih1 _ _ _ _ _ _
      | exact ih2 _ _ _ _ _ _ _ _ _
      | exact laws_faTexts.mono _ _ _
      | exact spec_DrawPartsOfTerm.mono _ _
      | exact LeO.none _
      | refine LeO.ite ?_ ?_
      | refine LeO.bind ?_ (fun _ => ?_)
theorem laws_FnParts.mono : ∀ a0 k, LeO (laws_FnParts.f k a0) (laws_FnParts.f (k + 1) a0) := by
  intro a0 k
  obtain ⟨ih0, ih1, ih2⟩ := laws_FnParts.mono_l k
  unfold laws_FnParts.f
  repeat' first
      | (with_reducible exact ih0 _ _ _ _)
      | (with_reducible exact ih1 _ _ _ _ _ _)
      | (with_reducible exact ih2 _ _ _ _ _ _ _ _ _)
      | (with_reducible exact laws_faTexts.mono _ _ _)
      | (with_reducible exact spec_DrawPartsOfTerm.mono _ _)
      | (with_reducible exact LeO.refl _)
      | (with_reducible exact LeO.none _)
      | (with_reducible refine LeO.ite ?_ ?_)
      | (with_reducible refine LeO.bind ?_ (fun _ => ?_))
      | exact ih0 _ _ _ _
      | exact ih1 _ _ _ _ _ _
      | exact ih2 _ _ _ _ _ _ _ _ _
      | exact laws_faTexts.mono _ _ _
      | exact spec_DrawPartsOfTerm.mono _ _
      | exact LeO.none _
      | refine LeO.ite ?_ ?_
      | refine LeO.bind ?_ (fun _ => ?_)
set_option maxHeartbeats 8000000 in
set_option maxRecDepth 100000 in
theorem laws_FnParts.calls (k : Nat) (A0 : Option Addr) (c0 : Nat) (l0 : List Int) (r : Bool) (w : World) (hr0 : Kd.C (Kd.int .u8) w A0 l0.length l0) (hc0 : l0.length ≤ c0) (h : laws_FnParts.f k l0 = some r) :
    Calls Try.prog 12 #[.slice A0 l0.length c0] w fun e w' => e = .returned (.bool r) ∧ Below w.heap.size w w' := by
  have HR0 := Aside0.mk hr0
  have HC0 := Aside0.mk hc0
  clear hr0 hc0
  have HB := Aside0.mk (Below.refl w.heap.size w)
  have H : (if (l0.length : Int) > 1048576 then (some true) else ((spec_DrawPartsOfTerm.f k l0).bind fun t20001 => ((impl_PartsOfTerm.f t20001).bind fun t20002 => ((impl_SignOf.f t20001).bind fun t20005 => ((spec_PartsOfTerm.f t20001).bind fun t20006 => ((laws_faTexts.f k t20002 t20006).bind fun t20009 => (if t20009 = true then ((spec_SignOf.f t20001).bind fun t20010 => (if t20005.toList = t20010.toList then ((impl_TermValid.f t20001).bind fun t20011 => ((spec_TermValid.f t20001).bind fun t20012 => (if (t20011 != t20012) = true then (none) else ((impl_SizeOfTerm.f t20001).bind fun t20013 => ((spec_SizeOfTerm.f t20001).bind fun t20014 => (if t20013 = t20014 then ((impl_LevelsOf.f t20001).bind fun t20015 => ((spec_LevelsOf.f t20001).bind fun t20016 => (laws_FnParts.j0 k t20001 t20002 t20005 (t20015 != t20016)))) else (laws_FnParts.j0 k t20001 t20002 t20005 true))))))) else (laws_FnParts.j0 k t20001 t20002 t20005 true))) else (none)))))))) = some r := h
  clear h
  by_cases c2 : (l0.length : Int) > 1048576
  · rw [if_pos c2] at H
    have c2b0 : decide (1048576 < (l0.length : Int)) = true := decide_eq_true c2
    have c2b1 : decide (1048576 < l0.length) = true := decide_eq_true (by omega)
    clear c2
    obtain rfl := Option.some.inj H
    go_enter Try.func12, Try.ntmps12
    go_wp2
    repeat (go_quiet (fail); try go_wp2)
    go_ret
    exact ⟨by first | rfl | (simp [errW_none, errW_some] <;> rfl) | (simp [*, errW_none, errW_some] <;> rfl), by repeat (first | (with_reducible first | exact HB.out | apply below_alloc | apply pw_below_drewN | apply below_drew1) | exact HB.out)⟩
  · rw [if_neg c2] at H
    have c2b0 : decide (1048576 < (l0.length : Int)) = false := decide_eq_false c2
    have c2b1 : decide (1048576 < l0.length) = false := decide_eq_false (by omega)
    clear c2
    replace H := Option.bind_eq_some_iff.mp H
    obtain ⟨t20001, A30, H⟩ := H
    replace H : ((impl_PartsOfTerm.f t20001).bind fun t20002 => ((impl_SignOf.f t20001).bind fun t20005 => ((spec_PartsOfTerm.f t20001).bind fun t20006 => ((laws_faTexts.f k t20002 t20006).bind fun t20009 => (if t20009 = true then ((spec_SignOf.f t20001).bind fun t20010 => (if t20005.toList = t20010.toList then ((impl_TermValid.f t20001).bind fun t20011 => ((spec_TermValid.f t20001).bind fun t20012 => (if (t20011 != t20012) = true then (none) else ((impl_SizeOfTerm.f t20001).bind fun t20013 => ((spec_SizeOfTerm.f t20001).bind fun t20014 => (if t20013 = t20014 then ((impl_LevelsOf.f t20001).bind fun t20015 => ((spec_LevelsOf.f t20001).bind fun t20016 => (laws_FnParts.j0 k t20001 t20002 t20005 (t20015 != t20016)))) else (laws_FnParts.j0 k t20001 t20002 t20005 true))))))) else (laws_FnParts.j0 k t20001 t20002 t20005 true))) else (none)))))) = some r := H
    have A3 := Aside0.mk A30
    clear A30
    replace H := Option.bind_eq_some_iff.mp H
    obtain ⟨t20002, A40, H⟩ := H
    replace H : ((impl_SignOf.f t20001).bind fun t20005 => ((spec_PartsOfTerm.f t20001).bind fun t20006 => ((laws_faTexts.f k t20002 t20006).bind fun t20009 => (if t20009 = true then ((spec_SignOf.f t20001).bind fun t20010 => (if t20005.toList = t20010.toList then ((impl_TermValid.f t20001).bind fun t20011 => ((spec_TermValid.f t20001).bind fun t20012 => (if (t20011 != t20012) = true then (none) else ((impl_SizeOfTerm.f t20001).bind fun t20013 => ((spec_SizeOfTerm.f t20001).bind fun t20014 => (if t20013 = t20014 then ((impl_LevelsOf.f t20001).bind fun t20015 => ((spec_LevelsOf.f t20001).bind fun t20016 => (laws_FnParts.j0 k t20001 t20002 t20005 (t20015 != t20016)))) else (laws_FnParts.j0 k t20001 t20002 t20005 true))))))) else (laws_FnParts.j0 k t20001 t20002 t20005 true))) else (none))))) = some r := H
    have A4 := Aside0.mk A40
    clear A40
    replace H := Option.bind_eq_some_iff.mp H
    obtain ⟨t20005, A50, H⟩ := H
    replace H : ((spec_PartsOfTerm.f t20001).bind fun t20006 => ((laws_faTexts.f k t20002 t20006).bind fun t20009 => (if t20009 = true then ((spec_SignOf.f t20001).bind fun t20010 => (if t20005.toList = t20010.toList then ((impl_TermValid.f t20001).bind fun t20011 => ((spec_TermValid.f t20001).bind fun t20012 => (if (t20011 != t20012) = true then (none) else ((impl_SizeOfTerm.f t20001).bind fun t20013 => ((spec_SizeOfTerm.f t20001).bind fun t20014 => (if t20013 = t20014 then ((impl_LevelsOf.f t20001).bind fun t20015 => ((spec_LevelsOf.f t20001).bind fun t20016 => (laws_FnParts.j0 k t20001 t20002 t20005 (t20015 != t20016)))) else (laws_FnParts.j0 k t20001 t20002 t20005 true))))))) else (laws_FnParts.j0 k t20001 t20002 t20005 true))) else (none)))) = some r := H
    have A5 := Aside0.mk A50
    clear A50
    have HC6 := Aside0.mk H
    clear H
    go_enter Try.func12, Try.ntmps12
    go_upto_region 6 with (first | (go_at_call 35; (with_reducible refine (spec_DrawPartsOfTerm.calls k _ _ l0 t20001 _ ?side1 ?side2 A3.out).mono ?_); (case side1 => repeat (first | exact HR0.out | (with_reducible refine Kd.C_alloc ?_ _) | (with_reducible refine Kd.C_drewN ?_ _) | (with_reducible refine Kd.C_drew ?_))); (case side2 => exact HC0.out); rintro e w7 ⟨rfl, hb⟩; have n0_ := Aside0.mk (below_step (by repeat (first | (with_reducible first | exact HB.out | apply below_alloc | apply pw_below_drewN | apply below_drew1) | exact HB.out)) hb); clear HB; have HB := n0_; clear n0_; (try clear hb); (try clear hb2); (try clear hk); (try clear hi)) | (go_at_call 23; (with_reducible refine (impl_PartsOfTerm.calls t20001 t20002 _ A4.out).mono ?_); rintro e w8 ⟨v20003, rfl, ho0, hb⟩; have n0_ := Aside0.mk (Kd.R_lower ho0 (below_size (by repeat (first | (with_reducible first | exact HB.out | apply below_alloc | apply pw_below_drewN | apply below_drew1) | exact HB.out)))); have n1_ := Aside0.mk (below_step (by repeat (first | (with_reducible first | exact HB.out | apply below_alloc | apply pw_below_drewN | apply below_drew1) | exact HB.out)) hb); clear HB; have HO20004 := n0_; have HB := n1_; clear n0_ n1_; (try clear hb); (try clear hb2); (try clear hk); (try clear hi); (try clear ho0)) | (go_at_call 17; (with_reducible refine (impl_SignOf.calls t20001 t20005 _ A5.out).mono ?_); rintro e w9 ⟨rfl, hb⟩; have n0_ := Aside0.mk (Kd.R_below (by (with_reducible repeat (first | apply Kd.R_alloc | apply Kd.R_drewN | apply Kd.R_drew)); exact HO20004.out) hb); have n1_ := Aside0.mk (below_step (by repeat (first | (with_reducible first | exact HB.out | apply below_alloc | apply pw_below_drewN | apply below_drew1) | exact HB.out)) hb); clear HO20004; clear HB; have HO20004 := n0_; have HB := n1_; clear n0_ n1_; (try clear hb); (try clear hb2); (try clear hk); (try clear hi)))
    repeat (go_quiet (first | (go_at_call 35; (with_reducible refine (spec_DrawPartsOfTerm.calls k _ _ l0 t20001 _ ?side1 ?side2 A3.out).mono ?_); (case side1 => repeat (first | exact HR0.out | (with_reducible refine Kd.C_alloc ?_ _) | (with_reducible refine Kd.C_drewN ?_ _) | (with_reducible refine Kd.C_drew ?_))); (case side2 => exact HC0.out); rintro e w7 ⟨rfl, hb⟩; have n0_ := Aside0.mk (below_step (by repeat (first | (with_reducible first | exact HB.out | apply below_alloc | apply pw_below_drewN | apply below_drew1) | exact HB.out)) hb); clear HB; have HB := n0_; clear n0_; (try clear hb); (try clear hb2); (try clear hk); (try clear hi)) | (go_at_call 23; (with_reducible refine (impl_PartsOfTerm.calls t20001 t20002 _ A4.out).mono ?_); rintro e w8 ⟨v20003, rfl, ho0, hb⟩; have n0_ := Aside0.mk (Kd.R_lower ho0 (below_size (by repeat (first | (with_reducible first | exact HB.out | apply below_alloc | apply pw_below_drewN | apply below_drew1) | exact HB.out)))); have n1_ := Aside0.mk (below_step (by repeat (first | (with_reducible first | exact HB.out | apply below_alloc | apply pw_below_drewN | apply below_drew1) | exact HB.out)) hb); clear HB; have HO20004 := n0_; have HB := n1_; clear n0_ n1_; (try clear hb); (try clear hb2); (try clear hk); (try clear hi); (try clear ho0)) | (go_at_call 17; (with_reducible refine (impl_SignOf.calls t20001 t20005 _ A5.out).mono ?_); rintro e w9 ⟨rfl, hb⟩; have n0_ := Aside0.mk (Kd.R_below (by (with_reducible repeat (first | apply Kd.R_alloc | apply Kd.R_drewN | apply Kd.R_drew)); exact HO20004.out) hb); have n1_ := Aside0.mk (below_step (by repeat (first | (with_reducible first | exact HB.out | apply below_alloc | apply pw_below_drewN | apply below_drew1) | exact HB.out)) hb); clear HO20004; clear HB; have HO20004 := n0_; have HB := n1_; clear n0_ n1_; (try clear hb); (try clear hb2); (try clear hk); (try clear hi))); go_upto_region 6 with (first | (go_at_call 35; (with_reducible refine (spec_DrawPartsOfTerm.calls k _ _ l0 t20001 _ ?side1 ?side2 A3.out).mono ?_); (case side1 => repeat (first | exact HR0.out | (with_reducible refine Kd.C_alloc ?_ _) | (with_reducible refine Kd.C_drewN ?_ _) | (with_reducible refine Kd.C_drew ?_))); (case side2 => exact HC0.out); rintro e w7 ⟨rfl, hb⟩; have n0_ := Aside0.mk (below_step (by repeat (first | (with_reducible first | exact HB.out | apply below_alloc | apply pw_below_drewN | apply below_drew1) | exact HB.out)) hb); clear HB; have HB := n0_; clear n0_; (try clear hb); (try clear hb2); (try clear hk); (try clear hi)) | (go_at_call 23; (with_reducible refine (impl_PartsOfTerm.calls t20001 t20002 _ A4.out).mono ?_); rintro e w8 ⟨v20003, rfl, ho0, hb⟩; have n0_ := Aside0.mk (Kd.R_lower ho0 (below_size (by repeat (first | (with_reducible first | exact HB.out | apply below_alloc | apply pw_below_drewN | apply below_drew1) | exact HB.out)))); have n1_ := Aside0.mk (below_step (by repeat (first | (with_reducible first | exact HB.out | apply below_alloc | apply pw_below_drewN | apply below_drew1) | exact HB.out)) hb); clear HB; have HO20004 := n0_; have HB := n1_; clear n0_ n1_; (try clear hb); (try clear hb2); (try clear hk); (try clear hi); (try clear ho0)) | (go_at_call 17; (with_reducible refine (impl_SignOf.calls t20001 t20005 _ A5.out).mono ?_); rintro e w9 ⟨rfl, hb⟩; have n0_ := Aside0.mk (Kd.R_below (by (with_reducible repeat (first | apply Kd.R_alloc | apply Kd.R_drewN | apply Kd.R_drew)); exact HO20004.out) hb); have n1_ := Aside0.mk (below_step (by repeat (first | (with_reducible first | exact HB.out | apply below_alloc | apply pw_below_drewN | apply below_drew1) | exact HB.out)) hb); clear HO20004; clear HB; have HO20004 := n0_; have HB := n1_; clear n0_ n1_; (try clear hb); (try clear hb2); (try clear hk); (try clear hi))))
    (try simp only [Act.put, List.setIfInBounds_toArray, List.set_cons_zero, List.set_cons_succ])
    go_cut [53] (fun v53 wc => ∃ (kq : Nat) (x53_5 : Bool), v53 = .bool x53_5 ∧ Aside0 (laws_FnParts.j0 kq t20001 t20002 t20005 x53_5 = some r) ∧ Aside0 (kq ≤ k) ∧ Aside0 (Kd.R Kd.string 9 wc w.heap.size (fun _ => True) v20003 t20002) ∧ Aside0 (Below w.heap.size w wc))
    case first =>
      have H := HC6.out
      clear HC6
      replace H := Option.bind_eq_some_iff.mp H
      obtain ⟨t20006, A100, H⟩ := H
      replace H : ((laws_faTexts.f k t20002 t20006).bind fun t20009 => (if t20009 = true then ((spec_SignOf.f t20001).bind fun t20010 => (if t20005.toList = t20010.toList then ((impl_TermValid.f t20001).bind fun t20011 => ((spec_TermValid.f t20001).bind fun t20012 => (if (t20011 != t20012) = true then (none) else ((impl_SizeOfTerm.f t20001).bind fun t20013 => ((spec_SizeOfTerm.f t20001).bind fun t20014 => (if t20013 = t20014 then ((impl_LevelsOf.f t20001).bind fun t20015 => ((spec_LevelsOf.f t20001).bind fun t20016 => (laws_FnParts.j0 k t20001 t20002 t20005 (t20015 != t20016)))) else (laws_FnParts.j0 k t20001 t20002 t20005 true))))))) else (laws_FnParts.j0 k t20001 t20002 t20005 true))) else (none))) = some r := H
      have A10 := Aside0.mk A100
      clear A100
      replace H := Option.bind_eq_some_iff.mp H
      obtain ⟨t20009, A110, H⟩ := H
      replace H : (if t20009 = true then ((spec_SignOf.f t20001).bind fun t20010 => (if t20005.toList = t20010.toList then ((impl_TermValid.f t20001).bind fun t20011 => ((spec_TermValid.f t20001).bind fun t20012 => (if (t20011 != t20012) = true then (none) else ((impl_SizeOfTerm.f t20001).bind fun t20013 => ((spec_SizeOfTerm.f t20001).bind fun t20014 => (if t20013 = t20014 then ((impl_LevelsOf.f t20001).bind fun t20015 => ((spec_LevelsOf.f t20001).bind fun t20016 => (laws_FnParts.j0 k t20001 t20002 t20005 (t20015 != t20016)))) else (laws_FnParts.j0 k t20001 t20002 t20005 true))))))) else (laws_FnParts.j0 k t20001 t20002 t20005 true))) else (none)) = some r := H
      have A11 := Aside0.mk A110
      clear A110
      by_cases c12 : t20009 = true
      · subst c12
        have H1 : ((spec_SignOf.f t20001).bind fun t20010 => (if t20005.toList = t20010.toList then ((impl_TermValid.f t20001).bind fun t20011 => ((spec_TermValid.f t20001).bind fun t20012 => (if (t20011 != t20012) = true then (none) else ((impl_SizeOfTerm.f t20001).bind fun t20013 => ((spec_SizeOfTerm.f t20001).bind fun t20014 => (if t20013 = t20014 then ((impl_LevelsOf.f t20001).bind fun t20015 => ((spec_LevelsOf.f t20001).bind fun t20016 => (laws_FnParts.j0 k t20001 t20002 t20005 (t20015 != t20016)))) else (laws_FnParts.j0 k t20001 t20002 t20005 true))))))) else (laws_FnParts.j0 k t20001 t20002 t20005 true))) = some r := by rw [if_pos rfl] at H; exact H
        clear H
        have H := H1
        clear H1
        replace H := Option.bind_eq_some_iff.mp H
        obtain ⟨t20010, A130, H⟩ := H
        replace H : (if t20005.toList = t20010.toList then ((impl_TermValid.f t20001).bind fun t20011 => ((spec_TermValid.f t20001).bind fun t20012 => (if (t20011 != t20012) = true then (none) else ((impl_SizeOfTerm.f t20001).bind fun t20013 => ((spec_SizeOfTerm.f t20001).bind fun t20014 => (if t20013 = t20014 then ((impl_LevelsOf.f t20001).bind fun t20015 => ((spec_LevelsOf.f t20001).bind fun t20016 => (laws_FnParts.j0 k t20001 t20002 t20005 (t20015 != t20016)))) else (laws_FnParts.j0 k t20001 t20002 t20005 true))))))) else (laws_FnParts.j0 k t20001 t20002 t20005 true)) = some r := H
        have A13 := Aside0.mk A130
        clear A130
        by_cases c14 : t20005.toList = t20010.toList
        · rw [if_pos c14] at H
          have c14b0 : (t20005.toList == t20010.toList) = true := beq_iff_eq.mpr c14
          have c14b1 : (t20005.toList != t20010.toList) = false := bne_eq_false_iff_eq.mpr c14
          clear c14
          (first | rw [c14b0] | (simp only [i64_w, i32_w]; rw [c14b0]) | skip)
          replace H := Option.bind_eq_some_iff.mp H
          obtain ⟨t20011, A150, H⟩ := H
          replace H : ((spec_TermValid.f t20001).bind fun t20012 => (if (t20011 != t20012) = true then (none) else ((impl_SizeOfTerm.f t20001).bind fun t20013 => ((spec_SizeOfTerm.f t20001).bind fun t20014 => (if t20013 = t20014 then ((impl_LevelsOf.f t20001).bind fun t20015 => ((spec_LevelsOf.f t20001).bind fun t20016 => (laws_FnParts.j0 k t20001 t20002 t20005 (t20015 != t20016)))) else (laws_FnParts.j0 k t20001 t20002 t20005 true)))))) = some r := H
          have A15 := Aside0.mk A150
          clear A150
          replace H := Option.bind_eq_some_iff.mp H
          obtain ⟨t20012, A160, H⟩ := H
          replace H : (if (t20011 != t20012) = true then (none) else ((impl_SizeOfTerm.f t20001).bind fun t20013 => ((spec_SizeOfTerm.f t20001).bind fun t20014 => (if t20013 = t20014 then ((impl_LevelsOf.f t20001).bind fun t20015 => ((spec_LevelsOf.f t20001).bind fun t20016 => (laws_FnParts.j0 k t20001 t20002 t20005 (t20015 != t20016)))) else (laws_FnParts.j0 k t20001 t20002 t20005 true))))) = some r := H
          have A16 := Aside0.mk A160
          clear A160
          by_cases c17 : (t20011 != t20012) = true
          · rw [if_pos c17] at H
            exact absurd H (by simp)
          · rw [if_neg c17] at H
            have c17b0 : (t20011 != t20012) = false := by simpa using c17
            (try (have c17b1 : decide (t20011 = t20012) = true := by simpa using c17))
            (try (have c17b2 : (t20011 == t20012) = true := by simpa using c17))
            clear c17
            replace H := Option.bind_eq_some_iff.mp H
            obtain ⟨t20013, A180, H⟩ := H
            replace H : ((spec_SizeOfTerm.f t20001).bind fun t20014 => (if t20013 = t20014 then ((impl_LevelsOf.f t20001).bind fun t20015 => ((spec_LevelsOf.f t20001).bind fun t20016 => (laws_FnParts.j0 k t20001 t20002 t20005 (t20015 != t20016)))) else (laws_FnParts.j0 k t20001 t20002 t20005 true))) = some r := H
            have A18 := Aside0.mk A180
            clear A180
            replace H := Option.bind_eq_some_iff.mp H
            obtain ⟨t20014, A190, H⟩ := H
            replace H : (if t20013 = t20014 then ((impl_LevelsOf.f t20001).bind fun t20015 => ((spec_LevelsOf.f t20001).bind fun t20016 => (laws_FnParts.j0 k t20001 t20002 t20005 (t20015 != t20016)))) else (laws_FnParts.j0 k t20001 t20002 t20005 true)) = some r := H
            have A19 := Aside0.mk A190
            clear A190
            by_cases c20 : t20013 = t20014
            · rw [if_pos c20] at H
              have c20b0 : (t20013 == t20014) = true := beq_iff_eq.mpr c20
              have c20b1 : (t20013 != t20014) = false := bne_eq_false_iff_eq.mpr c20
              clear c20
              replace H := Option.bind_eq_some_iff.mp H
              obtain ⟨t20015, A210, H⟩ := H
              replace H : ((spec_LevelsOf.f t20001).bind fun t20016 => (laws_FnParts.j0 k t20001 t20002 t20005 (t20015 != t20016))) = some r := H
              have A21 := Aside0.mk A210
              clear A210
              replace H := Option.bind_eq_some_iff.mp H
              obtain ⟨t20016, A220, H⟩ := H
              replace H : (laws_FnParts.j0 k t20001 t20002 t20005 (t20015 != t20016)) = some r := H
              have A22 := Aside0.mk A220
              clear A220
              have H' := Aside0.mk H
              clear H
              go_wp2_with (first | (go_at_call 22; (with_reducible refine (spec_PartsOfTerm.calls t20001 t20006 _ A10.out).mono ?_); rintro e w23 ⟨v20007, rfl, ho0, hb⟩; have n0_ := Aside0.mk (Kd.R_elder' (by (with_reducible repeat (first | apply Kd.R_alloc | apply Kd.R_drewN | apply Kd.R_drew)); exact HO20004.out) (Kd.R_base ho0) hb); have n1_ := Aside0.mk (Kd.R_lower (Kd.R_new' ho0 (Kd.R_lt (by (with_reducible repeat (first | apply Kd.R_alloc | apply Kd.R_drewN | apply Kd.R_drew)); exact HO20004.out))) (below_size (by repeat (first | (with_reducible first | exact HB.out | apply below_alloc | apply pw_below_drewN | apply below_drew1) | exact HB.out)))); have n2_ := Aside0.mk (below_step (by repeat (first | (with_reducible first | exact HB.out | apply below_alloc | apply pw_below_drewN | apply below_drew1) | exact HB.out)) hb); clear HO20004; clear HB; have HO20004 := n0_; have HO20008 := n1_; have HB := n2_; clear n0_ n1_ n2_; (try clear hb); (try clear hb2); (try clear hk); (try clear hi); (try clear ho0); obtain ⟨Ao24, co24, eo24⟩ := Kd.R_slice HO20004.out; subst eo24; obtain ⟨Ao25, co25, eo25⟩ := Kd.R_slice HO20008.out; subst eo25) | (go_at_call 36; (with_reducible refine (laws_faTexts.calls k _ _ t20002 _ _ t20006 true _ ?side1 ?side2 ?side3 ?side4 A11.out).mono ?_); (case side1 => repeat (first | exact (Kd.R_reads' HO20004.out).2.2 | (with_reducible refine Kd.C_alloc ?_ _) | (with_reducible refine Kd.C_drewN ?_ _) | (with_reducible refine Kd.C_drew ?_))); (case side2 => exact (Kd.R_reads' HO20004.out).2.1); (case side3 => repeat (first | exact (Kd.R_reads' HO20008.out).2.2 | (with_reducible refine Kd.C_alloc ?_ _) | (with_reducible refine Kd.C_drewN ?_ _) | (with_reducible refine Kd.C_drew ?_))); (case side4 => exact (Kd.R_reads' HO20008.out).2.1); rintro e w26 ⟨rfl, hb⟩; have n0_ := Aside0.mk (Kd.R_below (by (with_reducible repeat (first | apply Kd.R_alloc | apply Kd.R_drewN | apply Kd.R_drew)); exact HO20004.out) hb); have n1_ := Aside0.mk (Kd.R_below (by (with_reducible repeat (first | apply Kd.R_alloc | apply Kd.R_drewN | apply Kd.R_drew)); exact HO20008.out) hb); have n2_ := Aside0.mk (below_step (by repeat (first | (with_reducible first | exact HB.out | apply below_alloc | apply pw_below_drewN | apply below_drew1) | exact HB.out)) hb); clear HO20004; clear HO20008; clear HB; have HO20004 := n0_; have HO20008 := n1_; have HB := n2_; clear n0_ n1_ n2_; (try clear hb); (try clear hb2); (try clear hk); (try clear hi)) | (go_at_call 16; (with_reducible refine (spec_SignOf.calls t20001 t20010 _ A13.out).mono ?_); rintro e w27 ⟨rfl, hb⟩; have n0_ := Aside0.mk (Kd.R_below (by (with_reducible repeat (first | apply Kd.R_alloc | apply Kd.R_drewN | apply Kd.R_drew)); exact HO20004.out) hb); have n1_ := Aside0.mk (Kd.R_below (by (with_reducible repeat (first | apply Kd.R_alloc | apply Kd.R_drewN | apply Kd.R_drew)); exact HO20008.out) hb); have n2_ := Aside0.mk (below_step (by repeat (first | (with_reducible first | exact HB.out | apply below_alloc | apply pw_below_drewN | apply below_drew1) | exact HB.out)) hb); clear HO20004; clear HO20008; clear HB; have HO20004 := n0_; have HO20008 := n1_; have HB := n2_; clear n0_ n1_ n2_; (try clear hb); (try clear hb2); (try clear hk); (try clear hi)) | (go_at_call 15; (with_reducible refine (impl_TermValid.calls t20001 t20011 _ A15.out).mono ?_); rintro e w28 ⟨rfl, hb⟩; have n0_ := Aside0.mk (Kd.R_below (by (with_reducible repeat (first | apply Kd.R_alloc | apply Kd.R_drewN | apply Kd.R_drew)); exact HO20004.out) hb); have n1_ := Aside0.mk (Kd.R_below (by (with_reducible repeat (first | apply Kd.R_alloc | apply Kd.R_drewN | apply Kd.R_drew)); exact HO20008.out) hb); have n2_ := Aside0.mk (below_step (by repeat (first | (with_reducible first | exact HB.out | apply below_alloc | apply pw_below_drewN | apply below_drew1) | exact HB.out)) hb); clear HO20004; clear HO20008; clear HB; have HO20004 := n0_; have HO20008 := n1_; have HB := n2_; clear n0_ n1_ n2_; (try clear hb); (try clear hb2); (try clear hk); (try clear hi)) | (go_at_call 14; (with_reducible refine (spec_TermValid.calls t20001 t20012 _ A16.out).mono ?_); rintro e w29 ⟨rfl, hb⟩; have n0_ := Aside0.mk (Kd.R_below (by (with_reducible repeat (first | apply Kd.R_alloc | apply Kd.R_drewN | apply Kd.R_drew)); exact HO20004.out) hb); have n1_ := Aside0.mk (Kd.R_below (by (with_reducible repeat (first | apply Kd.R_alloc | apply Kd.R_drewN | apply Kd.R_drew)); exact HO20008.out) hb); have n2_ := Aside0.mk (below_step (by repeat (first | (with_reducible first | exact HB.out | apply below_alloc | apply pw_below_drewN | apply below_drew1) | exact HB.out)) hb); clear HO20004; clear HO20008; clear HB; have HO20004 := n0_; have HO20008 := n1_; have HB := n2_; clear n0_ n1_ n2_; (try clear hb); (try clear hb2); (try clear hk); (try clear hi)) | (go_at_call 19; (with_reducible refine (impl_SizeOfTerm.calls t20001 t20013 _ A18.out).mono ?_); rintro e w30 ⟨rfl, hb⟩; have n0_ := Aside0.mk (Kd.R_below (by (with_reducible repeat (first | apply Kd.R_alloc | apply Kd.R_drewN | apply Kd.R_drew)); exact HO20004.out) hb); have n1_ := Aside0.mk (Kd.R_below (by (with_reducible repeat (first | apply Kd.R_alloc | apply Kd.R_drewN | apply Kd.R_drew)); exact HO20008.out) hb); have n2_ := Aside0.mk (below_step (by repeat (first | (with_reducible first | exact HB.out | apply below_alloc | apply pw_below_drewN | apply below_drew1) | exact HB.out)) hb); clear HO20004; clear HO20008; clear HB; have HO20004 := n0_; have HO20008 := n1_; have HB := n2_; clear n0_ n1_ n2_; (try clear hb); (try clear hb2); (try clear hk); (try clear hi)) | (go_at_call 18; (with_reducible refine (spec_SizeOfTerm.calls t20001 t20014 _ A19.out).mono ?_); rintro e w31 ⟨rfl, hb⟩; have n0_ := Aside0.mk (Kd.R_below (by (with_reducible repeat (first | apply Kd.R_alloc | apply Kd.R_drewN | apply Kd.R_drew)); exact HO20004.out) hb); have n1_ := Aside0.mk (Kd.R_below (by (with_reducible repeat (first | apply Kd.R_alloc | apply Kd.R_drewN | apply Kd.R_drew)); exact HO20008.out) hb); have n2_ := Aside0.mk (below_step (by repeat (first | (with_reducible first | exact HB.out | apply below_alloc | apply pw_below_drewN | apply below_drew1) | exact HB.out)) hb); clear HO20004; clear HO20008; clear HB; have HO20004 := n0_; have HO20008 := n1_; have HB := n2_; clear n0_ n1_ n2_; (try clear hb); (try clear hb2); (try clear hk); (try clear hi)) | (go_at_call 21; (with_reducible refine (impl_LevelsOf.calls t20001 t20015 _ A21.out).mono ?_); rintro e w32 ⟨rfl, hb⟩; have n0_ := Aside0.mk (Kd.R_below (by (with_reducible repeat (first | apply Kd.R_alloc | apply Kd.R_drewN | apply Kd.R_drew)); exact HO20004.out) hb); have n1_ := Aside0.mk (Kd.R_below (by (with_reducible repeat (first | apply Kd.R_alloc | apply Kd.R_drewN | apply Kd.R_drew)); exact HO20008.out) hb); have n2_ := Aside0.mk (below_step (by repeat (first | (with_reducible first | exact HB.out | apply below_alloc | apply pw_below_drewN | apply below_drew1) | exact HB.out)) hb); clear HO20004; clear HO20008; clear HB; have HO20004 := n0_; have HO20008 := n1_; have HB := n2_; clear n0_ n1_ n2_; (try clear hb); (try clear hb2); (try clear hk); (try clear hi)) | (go_at_call 20; (with_reducible refine (spec_LevelsOf.calls t20001 t20016 _ A22.out).mono ?_); rintro e w33 ⟨rfl, hb⟩; have n0_ := Aside0.mk (Kd.R_below (by (with_reducible repeat (first | apply Kd.R_alloc | apply Kd.R_drewN | apply Kd.R_drew)); exact HO20004.out) hb); have n1_ := Aside0.mk (Kd.R_below (by (with_reducible repeat (first | apply Kd.R_alloc | apply Kd.R_drewN | apply Kd.R_drew)); exact HO20008.out) hb); have n2_ := Aside0.mk (below_step (by repeat (first | (with_reducible first | exact HB.out | apply below_alloc | apply pw_below_drewN | apply below_drew1) | exact HB.out)) hb); clear HO20004; clear HO20008; clear HB; have HO20004 := n0_; have HO20008 := n1_; have HB := n2_; clear n0_ n1_ n2_; (try clear hb); (try clear hb2); (try clear hk); (try clear hi)))
              repeat (go_quiet (first | (go_at_call 22; (with_reducible refine (spec_PartsOfTerm.calls t20001 t20006 _ A10.out).mono ?_); rintro e w23 ⟨v20007, rfl, ho0, hb⟩; have n0_ := Aside0.mk (Kd.R_elder' (by (with_reducible repeat (first | apply Kd.R_alloc | apply Kd.R_drewN | apply Kd.R_drew)); exact HO20004.out) (Kd.R_base ho0) hb); have n1_ := Aside0.mk (Kd.R_lower (Kd.R_new' ho0 (Kd.R_lt (by (with_reducible repeat (first | apply Kd.R_alloc | apply Kd.R_drewN | apply Kd.R_drew)); exact HO20004.out))) (below_size (by repeat (first | (with_reducible first | exact HB.out | apply below_alloc | apply pw_below_drewN | apply below_drew1) | exact HB.out)))); have n2_ := Aside0.mk (below_step (by repeat (first | (with_reducible first | exact HB.out | apply below_alloc | apply pw_below_drewN | apply below_drew1) | exact HB.out)) hb); clear HO20004; clear HB; have HO20004 := n0_; have HO20008 := n1_; have HB := n2_; clear n0_ n1_ n2_; (try clear hb); (try clear hb2); (try clear hk); (try clear hi); (try clear ho0); obtain ⟨Ao24, co24, eo24⟩ := Kd.R_slice HO20004.out; subst eo24; obtain ⟨Ao25, co25, eo25⟩ := Kd.R_slice HO20008.out; subst eo25) | (go_at_call 36; (with_reducible refine (laws_faTexts.calls k _ _ t20002 _ _ t20006 true _ ?side1 ?side2 ?side3 ?side4 A11.out).mono ?_); (case side1 => repeat (first | exact (Kd.R_reads' HO20004.out).2.2 | (with_reducible refine Kd.C_alloc ?_ _) | (with_reducible refine Kd.C_drewN ?_ _) | (with_reducible refine Kd.C_drew ?_))); (case side2 => exact (Kd.R_reads' HO20004.out).2.1); (case side3 => repeat (first | exact (Kd.R_reads' HO20008.out).2.2 | (with_reducible refine Kd.C_alloc ?_ _) | (with_reducible refine Kd.C_drewN ?_ _) | (with_reducible refine Kd.C_drew ?_))); (case side4 => exact (Kd.R_reads' HO20008.out).2.1); rintro e w26 ⟨rfl, hb⟩; have n0_ := Aside0.mk (Kd.R_below (by (with_reducible repeat (first | apply Kd.R_alloc | apply Kd.R_drewN | apply Kd.R_drew)); exact HO20004.out) hb); have n1_ := Aside0.mk (Kd.R_below (by (with_reducible repeat (first | apply Kd.R_alloc | apply Kd.R_drewN | apply Kd.R_drew)); exact HO20008.out) hb); have n2_ := Aside0.mk (below_step (by repeat (first | (with_reducible first | exact HB.out | apply below_alloc | apply pw_below_drewN | apply below_drew1) | exact HB.out)) hb); clear HO20004; clear HO20008; clear HB; have HO20004 := n0_; have HO20008 := n1_; have HB := n2_; clear n0_ n1_ n2_; (try clear hb); (try clear hb2); (try clear hk); (try clear hi)) | (go_at_call 16; (with_reducible refine (spec_SignOf.calls t20001 t20010 _ A13.out).mono ?_); rintro e w27 ⟨rfl, hb⟩; have n0_ := Aside0.mk (Kd.R_below (by (with_reducible repeat (first | apply Kd.R_alloc | apply Kd.R_drewN | apply Kd.R_drew)); exact HO20004.out) hb); have n1_ := Aside0.mk (Kd.R_below (by (with_reducible repeat (first | apply Kd.R_alloc | apply Kd.R_drewN | apply Kd.R_drew)); exact HO20008.out) hb); have n2_ := Aside0.mk (below_step (by repeat (first | (with_reducible first | exact HB.out | apply below_alloc | apply pw_below_drewN | apply below_drew1) | exact HB.out)) hb); clear HO20004; clear HO20008; clear HB; have HO20004 := n0_; have HO20008 := n1_; have HB := n2_; clear n0_ n1_ n2_; (try clear hb); (try clear hb2); (try clear hk); (try clear hi)) | (go_at_call 15; (with_reducible refine (impl_TermValid.calls t20001 t20011 _ A15.out).mono ?_); rintro e w28 ⟨rfl, hb⟩; have n0_ := Aside0.mk (Kd.R_below (by (with_reducible repeat (first | apply Kd.R_alloc | apply Kd.R_drewN | apply Kd.R_drew)); exact HO20004.out) hb); have n1_ := Aside0.mk (Kd.R_below (by (with_reducible repeat (first | apply Kd.R_alloc | apply Kd.R_drewN | apply Kd.R_drew)); exact HO20008.out) hb); have n2_ := Aside0.mk (below_step (by repeat (first | (with_reducible first | exact HB.out | apply below_alloc | apply pw_below_drewN | apply below_drew1) | exact HB.out)) hb); clear HO20004; clear HO20008; clear HB; have HO20004 := n0_; have HO20008 := n1_; have HB := n2_; clear n0_ n1_ n2_; (try clear hb); (try clear hb2); (try clear hk); (try clear hi)) | (go_at_call 14; (with_reducible refine (spec_TermValid.calls t20001 t20012 _ A16.out).mono ?_); rintro e w29 ⟨rfl, hb⟩; have n0_ := Aside0.mk (Kd.R_below (by (with_reducible repeat (first | apply Kd.R_alloc | apply Kd.R_drewN | apply Kd.R_drew)); exact HO20004.out) hb); have n1_ := Aside0.mk (Kd.R_below (by (with_reducible repeat (first | apply Kd.R_alloc | apply Kd.R_drewN | apply Kd.R_drew)); exact HO20008.out) hb); have n2_ := Aside0.mk (below_step (by repeat (first | (with_reducible first | exact HB.out | apply below_alloc | apply pw_below_drewN | apply below_drew1) | exact HB.out)) hb); clear HO20004; clear HO20008; clear HB; have HO20004 := n0_; have HO20008 := n1_; have HB := n2_; clear n0_ n1_ n2_; (try clear hb); (try clear hb2); (try clear hk); (try clear hi)) | (go_at_call 19; (with_reducible refine (impl_SizeOfTerm.calls t20001 t20013 _ A18.out).mono ?_); rintro e w30 ⟨rfl, hb⟩; have n0_ := Aside0.mk (Kd.R_below (by (with_reducible repeat (first | apply Kd.R_alloc | apply Kd.R_drewN | apply Kd.R_drew)); exact HO20004.out) hb); have n1_ := Aside0.mk (Kd.R_below (by (with_reducible repeat (first | apply Kd.R_alloc | apply Kd.R_drewN | apply Kd.R_drew)); exact HO20008.out) hb); have n2_ := Aside0.mk (below_step (by repeat (first | (with_reducible first | exact HB.out | apply below_alloc | apply pw_below_drewN | apply below_drew1) | exact HB.out)) hb); clear HO20004; clear HO20008; clear HB; have HO20004 := n0_; have HO20008 := n1_; have HB := n2_; clear n0_ n1_ n2_; (try clear hb); (try clear hb2); (try clear hk); (try clear hi)) | (go_at_call 18; (with_reducible refine (spec_SizeOfTerm.calls t20001 t20014 _ A19.out).mono ?_); rintro e w31 ⟨rfl, hb⟩; have n0_ := Aside0.mk (Kd.R_below (by (with_reducible repeat (first | apply Kd.R_alloc | apply Kd.R_drewN | apply Kd.R_drew)); exact HO20004.out) hb); have n1_ := Aside0.mk (Kd.R_below (by (with_reducible repeat (first | apply Kd.R_alloc | apply Kd.R_drewN | apply Kd.R_drew)); exact HO20008.out) hb); have n2_ := Aside0.mk (below_step (by repeat (first | (with_reducible first | exact HB.out | apply below_alloc | apply pw_below_drewN | apply below_drew1) | exact HB.out)) hb); clear HO20004; clear HO20008; clear HB; have HO20004 := n0_; have HO20008 := n1_; have HB := n2_; clear n0_ n1_ n2_; (try clear hb); (try clear hb2); (try clear hk); (try clear hi)) | (go_at_call 21; (with_reducible refine (impl_LevelsOf.calls t20001 t20015 _ A21.out).mono ?_); rintro e w32 ⟨rfl, hb⟩; have n0_ := Aside0.mk (Kd.R_below (by (with_reducible repeat (first | apply Kd.R_alloc | apply Kd.R_drewN | apply Kd.R_drew)); exact HO20004.out) hb); have n1_ := Aside0.mk (Kd.R_below (by (with_reducible repeat (first | apply Kd.R_alloc | apply Kd.R_drewN | apply Kd.R_drew)); exact HO20008.out) hb); have n2_ := Aside0.mk (below_step (by repeat (first | (with_reducible first | exact HB.out | apply below_alloc | apply pw_below_drewN | apply below_drew1) | exact HB.out)) hb); clear HO20004; clear HO20008; clear HB; have HO20004 := n0_; have HO20008 := n1_; have HB := n2_; clear n0_ n1_ n2_; (try clear hb); (try clear hb2); (try clear hk); (try clear hi)) | (go_at_call 20; (with_reducible refine (spec_LevelsOf.calls t20001 t20016 _ A22.out).mono ?_); rintro e w33 ⟨rfl, hb⟩; have n0_ := Aside0.mk (Kd.R_below (by (with_reducible repeat (first | apply Kd.R_alloc | apply Kd.R_drewN | apply Kd.R_drew)); exact HO20004.out) hb); have n1_ := Aside0.mk (Kd.R_below (by (with_reducible repeat (first | apply Kd.R_alloc | apply Kd.R_drewN | apply Kd.R_drew)); exact HO20008.out) hb); have n2_ := Aside0.mk (below_step (by repeat (first | (with_reducible first | exact HB.out | apply below_alloc | apply pw_below_drewN | apply below_drew1) | exact HB.out)) hb); clear HO20004; clear HO20008; clear HB; have HO20004 := n0_; have HO20008 := n1_; have HB := n2_; clear n0_ n1_ n2_; (try clear hb); (try clear hb2); (try clear hk); (try clear hi))); try go_wp2_with (first | (go_at_call 22; (with_reducible refine (spec_PartsOfTerm.calls t20001 t20006 _ A10.out).mono ?_); rintro e w23 ⟨v20007, rfl, ho0, hb⟩; have n0_ := Aside0.mk (Kd.R_elder' (by (with_reducible repeat (first | apply Kd.R_alloc | apply Kd.R_drewN | apply Kd.R_drew)); exact HO20004.out) (Kd.R_base ho0) hb); have n1_ := Aside0.mk (Kd.R_lower (Kd.R_new' ho0 (Kd.R_lt (by (with_reducible repeat (first | apply Kd.R_alloc | apply Kd.R_drewN | apply Kd.R_drew)); exact HO20004.out))) (below_size (by repeat (first | (with_reducible first | exact HB.out | apply below_alloc | apply pw_below_drewN | apply below_drew1) | exact HB.out)))); have n2_ := Aside0.mk (below_step (by repeat (first | (with_reducible first | exact HB.out | apply below_alloc | apply pw_below_drewN | apply below_drew1) | exact HB.out)) hb); clear HO20004; clear HB; have HO20004 := n0_; have HO20008 := n1_; have HB := n2_; clear n0_ n1_ n2_; (try clear hb); (try clear hb2); (try clear hk); (try clear hi); (try clear ho0); obtain ⟨Ao24, co24, eo24⟩ := Kd.R_slice HO20004.out; subst eo24; obtain ⟨Ao25, co25, eo25⟩ := Kd.R_slice HO20008.out; subst eo25) | (go_at_call 36; (with_reducible refine (laws_faTexts.calls k _ _ t20002 _ _ t20006 true _ ?side1 ?side2 ?side3 ?side4 A11.out).mono ?_); (case side1 => repeat (first | exact (Kd.R_reads' HO20004.out).2.2 | (with_reducible refine Kd.C_alloc ?_ _) | (with_reducible refine Kd.C_drewN ?_ _) | (with_reducible refine Kd.C_drew ?_))); (case side2 => exact (Kd.R_reads' HO20004.out).2.1); (case side3 => repeat (first | exact (Kd.R_reads' HO20008.out).2.2 | (with_reducible refine Kd.C_alloc ?_ _) | (with_reducible refine Kd.C_drewN ?_ _) | (with_reducible refine Kd.C_drew ?_))); (case side4 => exact (Kd.R_reads' HO20008.out).2.1); rintro e w26 ⟨rfl, hb⟩; have n0_ := Aside0.mk (Kd.R_below (by (with_reducible repeat (first | apply Kd.R_alloc | apply Kd.R_drewN | apply Kd.R_drew)); exact HO20004.out) hb); have n1_ := Aside0.mk (Kd.R_below (by (with_reducible repeat (first | apply Kd.R_alloc | apply Kd.R_drewN | apply Kd.R_drew)); exact HO20008.out) hb); have n2_ := Aside0.mk (below_step (by repeat (first | (with_reducible first | exact HB.out | apply below_alloc | apply pw_below_drewN | apply below_drew1) | exact HB.out)) hb); clear HO20004; clear HO20008; clear HB; have HO20004 := n0_; have HO20008 := n1_; have HB := n2_; clear n0_ n1_ n2_; (try clear hb); (try clear hb2); (try clear hk); (try clear hi)) | (go_at_call 16; (with_reducible refine (spec_SignOf.calls t20001 t20010 _ A13.out).mono ?_); rintro e w27 ⟨rfl, hb⟩; have n0_ := Aside0.mk (Kd.R_below (by (with_reducible repeat (first | apply Kd.R_alloc | apply Kd.R_drewN | apply Kd.R_drew)); exact HO20004.out) hb); have n1_ := Aside0.mk (Kd.R_below (by (with_reducible repeat (first | apply Kd.R_alloc | apply Kd.R_drewN | apply Kd.R_drew)); exact HO20008.out) hb); have n2_ := Aside0.mk (below_step (by repeat (first | (with_reducible first | exact HB.out | apply below_alloc | apply pw_below_drewN | apply below_drew1) | exact HB.out)) hb); clear HO20004; clear HO20008; clear HB; have HO20004 := n0_; have HO20008 := n1_; have HB := n2_; clear n0_ n1_ n2_; (try clear hb); (try clear hb2); (try clear hk); (try clear hi)) | (go_at_call 15; (with_reducible refine (impl_TermValid.calls t20001 t20011 _ A15.out).mono ?_); rintro e w28 ⟨rfl, hb⟩; have n0_ := Aside0.mk (Kd.R_below (by (with_reducible repeat (first | apply Kd.R_alloc | apply Kd.R_drewN | apply Kd.R_drew)); exact HO20004.out) hb); have n1_ := Aside0.mk (Kd.R_below (by (with_reducible repeat (first | apply Kd.R_alloc | apply Kd.R_drewN | apply Kd.R_drew)); exact HO20008.out) hb); have n2_ := Aside0.mk (below_step (by repeat (first | (with_reducible first | exact HB.out | apply below_alloc | apply pw_below_drewN | apply below_drew1) | exact HB.out)) hb); clear HO20004; clear HO20008; clear HB; have HO20004 := n0_; have HO20008 := n1_; have HB := n2_; clear n0_ n1_ n2_; (try clear hb); (try clear hb2); (try clear hk); (try clear hi)) | (go_at_call 14; (with_reducible refine (spec_TermValid.calls t20001 t20012 _ A16.out).mono ?_); rintro e w29 ⟨rfl, hb⟩; have n0_ := Aside0.mk (Kd.R_below (by (with_reducible repeat (first | apply Kd.R_alloc | apply Kd.R_drewN | apply Kd.R_drew)); exact HO20004.out) hb); have n1_ := Aside0.mk (Kd.R_below (by (with_reducible repeat (first | apply Kd.R_alloc | apply Kd.R_drewN | apply Kd.R_drew)); exact HO20008.out) hb); have n2_ := Aside0.mk (below_step (by repeat (first | (with_reducible first | exact HB.out | apply below_alloc | apply pw_below_drewN | apply below_drew1) | exact HB.out)) hb); clear HO20004; clear HO20008; clear HB; have HO20004 := n0_; have HO20008 := n1_; have HB := n2_; clear n0_ n1_ n2_; (try clear hb); (try clear hb2); (try clear hk); (try clear hi)) | (go_at_call 19; (with_reducible refine (impl_SizeOfTerm.calls t20001 t20013 _ A18.out).mono ?_); rintro e w30 ⟨rfl, hb⟩; have n0_ := Aside0.mk (Kd.R_below (by (with_reducible repeat (first | apply Kd.R_alloc | apply Kd.R_drewN | apply Kd.R_drew)); exact HO20004.out) hb); have n1_ := Aside0.mk (Kd.R_below (by (with_reducible repeat (first | apply Kd.R_alloc | apply Kd.R_drewN | apply Kd.R_drew)); exact HO20008.out) hb); have n2_ := Aside0.mk (below_step (by repeat (first | (with_reducible first | exact HB.out | apply below_alloc | apply pw_below_drewN | apply below_drew1) | exact HB.out)) hb); clear HO20004; clear HO20008; clear HB; have HO20004 := n0_; have HO20008 := n1_; have HB := n2_; clear n0_ n1_ n2_; (try clear hb); (try clear hb2); (try clear hk); (try clear hi)) | (go_at_call 18; (with_reducible refine (spec_SizeOfTerm.calls t20001 t20014 _ A19.out).mono ?_); rintro e w31 ⟨rfl, hb⟩; have n0_ := Aside0.mk (Kd.R_below (by (with_reducible repeat (first | apply Kd.R_alloc | apply Kd.R_drewN | apply Kd.R_drew)); exact HO20004.out) hb); have n1_ := Aside0.mk (Kd.R_below (by (with_reducible repeat (first | apply Kd.R_alloc | apply Kd.R_drewN | apply Kd.R_drew)); exact HO20008.out) hb); have n2_ := Aside0.mk (below_step (by repeat (first | (with_reducible first | exact HB.out | apply below_alloc | apply pw_below_drewN | apply below_drew1) | exact HB.out)) hb); clear HO20004; clear HO20008; clear HB; have HO20004 := n0_; have HO20008 := n1_; have HB := n2_; clear n0_ n1_ n2_; (try clear hb); (try clear hb2); (try clear hk); (try clear hi)) | (go_at_call 21; (with_reducible refine (impl_LevelsOf.calls t20001 t20015 _ A21.out).mono ?_); rintro e w32 ⟨rfl, hb⟩; have n0_ := Aside0.mk (Kd.R_below (by (with_reducible repeat (first | apply Kd.R_alloc | apply Kd.R_drewN | apply Kd.R_drew)); exact HO20004.out) hb); have n1_ := Aside0.mk (Kd.R_below (by (with_reducible repeat (first | apply Kd.R_alloc | apply Kd.R_drewN | apply Kd.R_drew)); exact HO20008.out) hb); have n2_ := Aside0.mk (below_step (by repeat (first | (with_reducible first | exact HB.out | apply below_alloc | apply pw_below_drewN | apply below_drew1) | exact HB.out)) hb); clear HO20004; clear HO20008; clear HB; have HO20004 := n0_; have HO20008 := n1_; have HB := n2_; clear n0_ n1_ n2_; (try clear hb); (try clear hb2); (try clear hk); (try clear hi)) | (go_at_call 20; (with_reducible refine (spec_LevelsOf.calls t20001 t20016 _ A22.out).mono ?_); rintro e w33 ⟨rfl, hb⟩; have n0_ := Aside0.mk (Kd.R_below (by (with_reducible repeat (first | apply Kd.R_alloc | apply Kd.R_drewN | apply Kd.R_drew)); exact HO20004.out) hb); have n1_ := Aside0.mk (Kd.R_below (by (with_reducible repeat (first | apply Kd.R_alloc | apply Kd.R_drewN | apply Kd.R_drew)); exact HO20008.out) hb); have n2_ := Aside0.mk (below_step (by repeat (first | (with_reducible first | exact HB.out | apply below_alloc | apply pw_below_drewN | apply below_drew1) | exact HB.out)) hb); clear HO20004; clear HO20008; clear HB; have HO20004 := n0_; have HO20008 := n1_; have HB := n2_; clear n0_ n1_ n2_; (try clear hb); (try clear hb2); (try clear hk); (try clear hi))))
              go_meet
              case rel => exact ⟨_, ((t20015 != t20016)), (by first | rfl | (simp; done) | (simp [*]; done)), H', ⟨by first | omega | exact Nat.le_refl _⟩, ⟨by (with_reducible repeat (first | apply Kd.R_alloc | apply Kd.R_drewN | apply Kd.R_drew)); exact Kd.R_mono HO20004.out (fun _ hk => trivial)⟩, ⟨by repeat (first | (with_reducible first | exact HB.out | apply below_alloc | apply pw_below_drewN | apply below_drew1) | exact HB.out)⟩⟩
            · rw [if_neg c20] at H
              have c20b0 : (t20013 == t20014) = false := beq_eq_false_iff_ne.mpr c20
              have c20b1 : (t20013 != t20014) = true := bne_iff_ne.mpr c20
              have H' := Aside0.mk H
              clear H
              go_wp2_with (first | (go_at_call 22; (with_reducible refine (spec_PartsOfTerm.calls t20001 t20006 _ A10.out).mono ?_); rintro e w34 ⟨v20007, rfl, ho0, hb⟩; have n0_ := Aside0.mk (Kd.R_elder' (by (with_reducible repeat (first | apply Kd.R_alloc | apply Kd.R_drewN | apply Kd.R_drew)); exact HO20004.out) (Kd.R_base ho0) hb); have n1_ := Aside0.mk (Kd.R_lower (Kd.R_new' ho0 (Kd.R_lt (by (with_reducible repeat (first | apply Kd.R_alloc | apply Kd.R_drewN | apply Kd.R_drew)); exact HO20004.out))) (below_size (by repeat (first | (with_reducible first | exact HB.out | apply below_alloc | apply pw_below_drewN | apply below_drew1) | exact HB.out)))); have n2_ := Aside0.mk (below_step (by repeat (first | (with_reducible first | exact HB.out | apply below_alloc | apply pw_below_drewN | apply below_drew1) | exact HB.out)) hb); clear HO20004; clear HB; have HO20004 := n0_; have HO20008 := n1_; have HB := n2_; clear n0_ n1_ n2_; (try clear hb); (try clear hb2); (try clear hk); (try clear hi); (try clear ho0); obtain ⟨Ao35, co35, eo35⟩ := Kd.R_slice HO20004.out; subst eo35; obtain ⟨Ao36, co36, eo36⟩ := Kd.R_slice HO20008.out; subst eo36) | (go_at_call 36; (with_reducible refine (laws_faTexts.calls k _ _ t20002 _ _ t20006 true _ ?side1 ?side2 ?side3 ?side4 A11.out).mono ?_); (case side1 => repeat (first | exact (Kd.R_reads' HO20004.out).2.2 | (with_reducible refine Kd.C_alloc ?_ _) | (with_reducible refine Kd.C_drewN ?_ _) | (with_reducible refine Kd.C_drew ?_))); (case side2 => exact (Kd.R_reads' HO20004.out).2.1); (case side3 => repeat (first | exact (Kd.R_reads' HO20008.out).2.2 | (with_reducible refine Kd.C_alloc ?_ _) | (with_reducible refine Kd.C_drewN ?_ _) | (with_reducible refine Kd.C_drew ?_))); (case side4 => exact (Kd.R_reads' HO20008.out).2.1); rintro e w37 ⟨rfl, hb⟩; have n0_ := Aside0.mk (Kd.R_below (by (with_reducible repeat (first | apply Kd.R_alloc | apply Kd.R_drewN | apply Kd.R_drew)); exact HO20004.out) hb); have n1_ := Aside0.mk (Kd.R_below (by (with_reducible repeat (first | apply Kd.R_alloc | apply Kd.R_drewN | apply Kd.R_drew)); exact HO20008.out) hb); have n2_ := Aside0.mk (below_step (by repeat (first | (with_reducible first | exact HB.out | apply below_alloc | apply pw_below_drewN | apply below_drew1) | exact HB.out)) hb); clear HO20004; clear HO20008; clear HB; have HO20004 := n0_; have HO20008 := n1_; have HB := n2_; clear n0_ n1_ n2_; (try clear hb); (try clear hb2); (try clear hk); (try clear hi)) | (go_at_call 16; (with_reducible refine (spec_SignOf.calls t20001 t20010 _ A13.out).mono ?_); rintro e w38 ⟨rfl, hb⟩; have n0_ := Aside0.mk (Kd.R_below (by (with_reducible repeat (first | apply Kd.R_alloc | apply Kd.R_drewN | apply Kd.R_drew)); exact HO20004.out) hb); have n1_ := Aside0.mk (Kd.R_below (by (with_reducible repeat (first | apply Kd.R_alloc | apply Kd.R_drewN | apply Kd.R_drew)); exact HO20008.out) hb); have n2_ := Aside0.mk (below_step (by repeat (first | (with_reducible first | exact HB.out | apply below_alloc | apply pw_below_drewN | apply below_drew1) | exact HB.out)) hb); clear HO20004; clear HO20008; clear HB; have HO20004 := n0_; have HO20008 := n1_; have HB := n2_; clear n0_ n1_ n2_; (try clear hb); (try clear hb2); (try clear hk); (try clear hi)) | (go_at_call 15; (with_reducible refine (impl_TermValid.calls t20001 t20011 _ A15.out).mono ?_); rintro e w39 ⟨rfl, hb⟩; have n0_ := Aside0.mk (Kd.R_below (by (with_reducible repeat (first | apply Kd.R_alloc | apply Kd.R_drewN | apply Kd.R_drew)); exact HO20004.out) hb); have n1_ := Aside0.mk (Kd.R_below (by (with_reducible repeat (first | apply Kd.R_alloc | apply Kd.R_drewN | apply Kd.R_drew)); exact HO20008.out) hb); have n2_ := Aside0.mk (below_step (by repeat (first | (with_reducible first | exact HB.out | apply below_alloc | apply pw_below_drewN | apply below_drew1) | exact HB.out)) hb); clear HO20004; clear HO20008; clear HB; have HO20004 := n0_; have HO20008 := n1_; have HB := n2_; clear n0_ n1_ n2_; (try clear hb); (try clear hb2); (try clear hk); (try clear hi)) | (go_at_call 14; (with_reducible refine (spec_TermValid.calls t20001 t20012 _ A16.out).mono ?_); rintro e w40 ⟨rfl, hb⟩; have n0_ := Aside0.mk (Kd.R_below (by (with_reducible repeat (first | apply Kd.R_alloc | apply Kd.R_drewN | apply Kd.R_drew)); exact HO20004.out) hb); have n1_ := Aside0.mk (Kd.R_below (by (with_reducible repeat (first | apply Kd.R_alloc | apply Kd.R_drewN | apply Kd.R_drew)); exact HO20008.out) hb); have n2_ := Aside0.mk (below_step (by repeat (first | (with_reducible first | exact HB.out | apply below_alloc | apply pw_below_drewN | apply below_drew1) | exact HB.out)) hb); clear HO20004; clear HO20008; clear HB; have HO20004 := n0_; have HO20008 := n1_; have HB := n2_; clear n0_ n1_ n2_; (try clear hb); (try clear hb2); (try clear hk); (try clear hi)) | (go_at_call 19; (with_reducible refine (impl_SizeOfTerm.calls t20001 t20013 _ A18.out).mono ?_); rintro e w41 ⟨rfl, hb⟩; have n0_ := Aside0.mk (Kd.R_below (by (with_reducible repeat (first | apply Kd.R_alloc | apply Kd.R_drewN | apply Kd.R_drew)); exact HO20004.out) hb); have n1_ := Aside0.mk (Kd.R_below (by (with_reducible repeat (first | apply Kd.R_alloc | apply Kd.R_drewN | apply Kd.R_drew)); exact HO20008.out) hb); have n2_ := Aside0.mk (below_step (by repeat (first | (with_reducible first | exact HB.out | apply below_alloc | apply pw_below_drewN | apply below_drew1) | exact HB.out)) hb); clear HO20004; clear HO20008; clear HB; have HO20004 := n0_; have HO20008 := n1_; have HB := n2_; clear n0_ n1_ n2_; (try clear hb); (try clear hb2); (try clear hk); (try clear hi)) | (go_at_call 18; (with_reducible refine (spec_SizeOfTerm.calls t20001 t20014 _ A19.out).mono ?_); rintro e w42 ⟨rfl, hb⟩; have n0_ := Aside0.mk (Kd.R_below (by (with_reducible repeat (first | apply Kd.R_alloc | apply Kd.R_drewN | apply Kd.R_drew)); exact HO20004.out) hb); have n1_ := Aside0.mk (Kd.R_below (by (with_reducible repeat (first | apply Kd.R_alloc | apply Kd.R_drewN | apply Kd.R_drew)); exact HO20008.out) hb); have n2_ := Aside0.mk (below_step (by repeat (first | (with_reducible first | exact HB.out | apply below_alloc | apply pw_below_drewN | apply below_drew1) | exact HB.out)) hb); clear HO20004; clear HO20008; clear HB; have HO20004 := n0_; have HO20008 := n1_; have HB := n2_; clear n0_ n1_ n2_; (try clear hb); (try clear hb2); (try clear hk); (try clear hi)))
              repeat (go_quiet (first | (go_at_call 22; (with_reducible refine (spec_PartsOfTerm.calls t20001 t20006 _ A10.out).mono ?_); rintro e w34 ⟨v20007, rfl, ho0, hb⟩; have n0_ := Aside0.mk (Kd.R_elder' (by (with_reducible repeat (first | apply Kd.R_alloc | apply Kd.R_drewN | apply Kd.R_drew)); exact HO20004.out) (Kd.R_base ho0) hb); have n1_ := Aside0.mk (Kd.R_lower (Kd.R_new' ho0 (Kd.R_lt (by (with_reducible repeat (first | apply Kd.R_alloc | apply Kd.R_drewN | apply Kd.R_drew)); exact HO20004.out))) (below_size (by repeat (first | (with_reducible first | exact HB.out | apply below_alloc | apply pw_below_drewN | apply below_drew1) | exact HB.out)))); have n2_ := Aside0.mk (below_step (by repeat (first | (with_reducible first | exact HB.out | apply below_alloc | apply pw_below_drewN | apply below_drew1) | exact HB.out)) hb); clear HO20004; clear HB; have HO20004 := n0_; have HO20008 := n1_; have HB := n2_; clear n0_ n1_ n2_; (try clear hb); (try clear hb2); (try clear hk); (try clear hi); (try clear ho0); obtain ⟨Ao35, co35, eo35⟩ := Kd.R_slice HO20004.out; subst eo35; obtain ⟨Ao36, co36, eo36⟩ := Kd.R_slice HO20008.out; subst eo36) | (go_at_call 36; (with_reducible refine (laws_faTexts.calls k _ _ t20002 _ _ t20006 true _ ?side1 ?side2 ?side3 ?side4 A11.out).mono ?_); (case side1 => repeat (first | exact (Kd.R_reads' HO20004.out).2.2 | (with_reducible refine Kd.C_alloc ?_ _) | (with_reducible refine Kd.C_drewN ?_ _) | (with_reducible refine Kd.C_drew ?_))); (case side2 => exact (Kd.R_reads' HO20004.out).2.1); (case side3 => repeat (first | exact (Kd.R_reads' HO20008.out).2.2 | (with_reducible refine Kd.C_alloc ?_ _) | (with_reducible refine Kd.C_drewN ?_ _) | (with_reducible refine Kd.C_drew ?_))); (case side4 => exact (Kd.R_reads' HO20008.out).2.1); rintro e w37 ⟨rfl, hb⟩; have n0_ := Aside0.mk (Kd.R_below (by (with_reducible repeat (first | apply Kd.R_alloc | apply Kd.R_drewN | apply Kd.R_drew)); exact HO20004.out) hb); have n1_ := Aside0.mk (Kd.R_below (by (with_reducible repeat (first | apply Kd.R_alloc | apply Kd.R_drewN | apply Kd.R_drew)); exact HO20008.out) hb); have n2_ := Aside0.mk (below_step (by repeat (first | (with_reducible first | exact HB.out | apply below_alloc | apply pw_below_drewN | apply below_drew1) | exact HB.out)) hb); clear HO20004; clear HO20008; clear HB; have HO20004 := n0_; have HO20008 := n1_; have HB := n2_; clear n0_ n1_ n2_; (try clear hb); (try clear hb2); (try clear hk); (try clear hi)) | (go_at_call 16; (with_reducible refine (spec_SignOf.calls t20001 t20010 _ A13.out).mono ?_); rintro e w38 ⟨rfl, hb⟩; have n0_ := Aside0.mk (Kd.R_below (by (with_reducible repeat (first | apply Kd.R_alloc | apply Kd.R_drewN | apply Kd.R_drew)); exact HO20004.out) hb); have n1_ := Aside0.mk (Kd.R_below (by (with_reducible repeat (first | apply Kd.R_alloc | apply Kd.R_drewN | apply Kd.R_drew)); exact HO20008.out) hb); have n2_ := Aside0.mk (below_step (by repeat (first | (with_reducible first | exact HB.out | apply below_alloc | apply pw_below_drewN | apply below_drew1) | exact HB.out)) hb); clear HO20004; clear HO20008; clear HB; have HO20004 := n0_; have HO20008 := n1_; have HB := n2_; clear n0_ n1_ n2_; (try clear hb); (try clear hb2); (try clear hk); (try clear hi)) | (go_at_call 15; (with_reducible refine (impl_TermValid.calls t20001 t20011 _ A15.out).mono ?_); rintro e w39 ⟨rfl, hb⟩; have n0_ := Aside0.mk (Kd.R_below (by (with_reducible repeat (first | apply Kd.R_alloc | apply Kd.R_drewN | apply Kd.R_drew)); exact HO20004.out) hb); have n1_ := Aside0.mk (Kd.R_below (by (with_reducible repeat (first | apply Kd.R_alloc | apply Kd.R_drewN | apply Kd.R_drew)); exact HO20008.out) hb); have n2_ := Aside0.mk (below_step (by repeat (first | (with_reducible first | exact HB.out | apply below_alloc | apply pw_below_drewN | apply below_drew1) | exact HB.out)) hb); clear HO20004; clear HO20008; clear HB; have HO20004 := n0_; have HO20008 := n1_; have HB := n2_; clear n0_ n1_ n2_; (try clear hb); (try clear hb2); (try clear hk); (try clear hi)) | (go_at_call 14; (with_reducible refine (spec_TermValid.calls t20001 t20012 _ A16.out).mono ?_); rintro e w40 ⟨rfl, hb⟩; have n0_ := Aside0.mk (Kd.R_below (by (with_reducible repeat (first | apply Kd.R_alloc | apply Kd.R_drewN | apply Kd.R_drew)); exact HO20004.out) hb); have n1_ := Aside0.mk (Kd.R_below (by (with_reducible repeat (first | apply Kd.R_alloc | apply Kd.R_drewN | apply Kd.R_drew)); exact HO20008.out) hb); have n2_ := Aside0.mk (below_step (by repeat (first | (with_reducible first | exact HB.out | apply below_alloc | apply pw_below_drewN | apply below_drew1) | exact HB.out)) hb); clear HO20004; clear HO20008; clear HB; have HO20004 := n0_; have HO20008 := n1_; have HB := n2_; clear n0_ n1_ n2_; (try clear hb); (try clear hb2); (try clear hk); (try clear hi)) | (go_at_call 19; (with_reducible refine (impl_SizeOfTerm.calls t20001 t20013 _ A18.out).mono ?_); rintro e w41 ⟨rfl, hb⟩; have n0_ := Aside0.mk (Kd.R_below (by (with_reducible repeat (first | apply Kd.R_alloc | apply Kd.R_drewN | apply Kd.R_drew)); exact HO20004.out) hb); have n1_ := Aside0.mk (Kd.R_below (by (with_reducible repeat (first | apply Kd.R_alloc | apply Kd.R_drewN | apply Kd.R_drew)); exact HO20008.out) hb); have n2_ := Aside0.mk (below_step (by repeat (first | (with_reducible first | exact HB.out | apply below_alloc | apply pw_below_drewN | apply below_drew1) | exact HB.out)) hb); clear HO20004; clear HO20008; clear HB; have HO20004 := n0_; have HO20008 := n1_; have HB := n2_; clear n0_ n1_ n2_; (try clear hb); (try clear hb2); (try clear hk); (try clear hi)) | (go_at_call 18; (with_reducible refine (spec_SizeOfTerm.calls t20001 t20014 _ A19.out).mono ?_); rintro e w42 ⟨rfl, hb⟩; have n0_ := Aside0.mk (Kd.R_below (by (with_reducible repeat (first | apply Kd.R_alloc | apply Kd.R_drewN | apply Kd.R_drew)); exact HO20004.out) hb); have n1_ := Aside0.mk (Kd.R_below (by (with_reducible repeat (first | apply Kd.R_alloc | apply Kd.R_drewN | apply Kd.R_drew)); exact HO20008.out) hb); have n2_ := Aside0.mk (below_step (by repeat (first | (with_reducible first | exact HB.out | apply below_alloc | apply pw_below_drewN | apply below_drew1) | exact HB.out)) hb); clear HO20004; clear HO20008; clear HB; have HO20004 := n0_; have HO20008 := n1_; have HB := n2_; clear n0_ n1_ n2_; (try clear hb); (try clear hb2); (try clear hk); (try clear hi))); try go_wp2_with (first | (go_at_call 22; (with_reducible refine (spec_PartsOfTerm.calls t20001 t20006 _ A10.out).mono ?_); rintro e w34 ⟨v20007, rfl, ho0, hb⟩; have n0_ := Aside0.mk (Kd.R_elder' (by (with_reducible repeat (first | apply Kd.R_alloc | apply Kd.R_drewN | apply Kd.R_drew)); exact HO20004.out) (Kd.R_base ho0) hb); have n1_ := Aside0.mk (Kd.R_lower (Kd.R_new' ho0 (Kd.R_lt (by (with_reducible repeat (first | apply Kd.R_alloc | apply Kd.R_drewN | apply Kd.R_drew)); exact HO20004.out))) (below_size (by repeat (first | (with_reducible first | exact HB.out | apply below_alloc | apply pw_below_drewN | apply below_drew1) | exact HB.out)))); have n2_ := Aside0.mk (below_step (by repeat (first | (with_reducible first | exact HB.out | apply below_alloc | apply pw_below_drewN | apply below_drew1) | exact HB.out)) hb); clear HO20004; clear HB; have HO20004 := n0_; have HO20008 := n1_; have HB := n2_; clear n0_ n1_ n2_; (try clear hb); (try clear hb2); (try clear hk); (try clear hi); (try clear ho0); obtain ⟨Ao35, co35, eo35⟩ := Kd.R_slice HO20004.out; subst eo35; obtain ⟨Ao36, co36, eo36⟩ := Kd.R_slice HO20008.out; subst eo36) | (go_at_call 36; (with_reducible refine (laws_faTexts.calls k _ _ t20002 _ _ t20006 true _ ?side1 ?side2 ?side3 ?side4 A11.out).mono ?_); (case side1 => repeat (first | exact (Kd.R_reads' HO20004.out).2.2 | (with_reducible refine Kd.C_alloc ?_ _) | (with_reducible refine Kd.C_drewN ?_ _) | (with_reducible refine Kd.C_drew ?_))); (case side2 => exact (Kd.R_reads' HO20004.out).2.1); (case side3 => repeat (first | exact (Kd.R_reads' HO20008.out).2.2 | (with_reducible refine Kd.C_alloc ?_ _) | (with_reducible refine Kd.C_drewN ?_ _) | (with_reducible refine Kd.C_drew ?_))); (case side4 => exact (Kd.R_reads' HO20008.out).2.1); rintro e w37 ⟨rfl, hb⟩; have n0_ := Aside0.mk (Kd.R_below (by (with_reducible repeat (first | apply Kd.R_alloc | apply Kd.R_drewN | apply Kd.R_drew)); exact HO20004.out) hb); have n1_ := Aside0.mk (Kd.R_below (by (with_reducible repeat (first | apply Kd.R_alloc | apply Kd.R_drewN | apply Kd.R_drew)); exact HO20008.out) hb); have n2_ := Aside0.mk (below_step (by repeat (first | (with_reducible first | exact HB.out | apply below_alloc | apply pw_below_drewN | apply below_drew1) | exact HB.out)) hb); clear HO20004; clear HO20008; clear HB; have HO20004 := n0_; have HO20008 := n1_; have HB := n2_; clear n0_ n1_ n2_; (try clear hb); (try clear hb2); (try clear hk); (try clear hi)) | (go_at_call 16; (with_reducible refine (spec_SignOf.calls t20001 t20010 _ A13.out).mono ?_); rintro e w38 ⟨rfl, hb⟩; have n0_ := Aside0.mk (Kd.R_below (by (with_reducible repeat (first | apply Kd.R_alloc | apply Kd.R_drewN | apply Kd.R_drew)); exact HO20004.out) hb); have n1_ := Aside0.mk (Kd.R_below (by (with_reducible repeat (first | apply Kd.R_alloc | apply Kd.R_drewN | apply Kd.R_drew)); exact HO20008.out) hb); have n2_ := Aside0.mk (below_step (by repeat (first | (with_reducible first | exact HB.out | apply below_alloc | apply pw_below_drewN | apply below_drew1) | exact HB.out)) hb); clear HO20004; clear HO20008; clear HB; have HO20004 := n0_; have HO20008 := n1_; have HB := n2_; clear n0_ n1_ n2_; (try clear hb); (try clear hb2); (try clear hk); (try clear hi)) | (go_at_call 15; (with_reducible refine (impl_TermValid.calls t20001 t20011 _ A15.out).mono ?_); rintro e w39 ⟨rfl, hb⟩; have n0_ := Aside0.mk (Kd.R_below (by (with_reducible repeat (first | apply Kd.R_alloc | apply Kd.R_drewN | apply Kd.R_drew)); exact HO20004.out) hb); have n1_ := Aside0.mk (Kd.R_below (by (with_reducible repeat (first | apply Kd.R_alloc | apply Kd.R_drewN | apply Kd.R_drew)); exact HO20008.out) hb); have n2_ := Aside0.mk (below_step (by repeat (first | (with_reducible first | exact HB.out | apply below_alloc | apply pw_below_drewN | apply below_drew1) | exact HB.out)) hb); clear HO20004; clear HO20008; clear HB; have HO20004 := n0_; have HO20008 := n1_; have HB := n2_; clear n0_ n1_ n2_; (try clear hb); (try clear hb2); (try clear hk); (try clear hi)) | (go_at_call 14; (with_reducible refine (spec_TermValid.calls t20001 t20012 _ A16.out).mono ?_); rintro e w40 ⟨rfl, hb⟩; have n0_ := Aside0.mk (Kd.R_below (by (with_reducible repeat (first | apply Kd.R_alloc | apply Kd.R_drewN | apply Kd.R_drew)); exact HO20004.out) hb); have n1_ := Aside0.mk (Kd.R_below (by (with_reducible repeat (first | apply Kd.R_alloc | apply Kd.R_drewN | apply Kd.R_drew)); exact HO20008.out) hb); have n2_ := Aside0.mk (below_step (by repeat (first | (with_reducible first | exact HB.out | apply below_alloc | apply pw_below_drewN | apply below_drew1) | exact HB.out)) hb); clear HO20004; clear HO20008; clear HB; have HO20004 := n0_; have HO20008 := n1_; have HB := n2_; clear n0_ n1_ n2_; (try clear hb); (try clear hb2); (try clear hk); (try clear hi)) | (go_at_call 19; (with_reducible refine (impl_SizeOfTerm.calls t20001 t20013 _ A18.out).mono ?_); rintro e w41 ⟨rfl, hb⟩; have n0_ := Aside0.mk (Kd.R_below (by (with_reducible repeat (first | apply Kd.R_alloc | apply Kd.R_drewN | apply Kd.R_drew)); exact HO20004.out) hb); have n1_ := Aside0.mk (Kd.R_below (by (with_reducible repeat (first | apply Kd.R_alloc | apply Kd.R_drewN | apply Kd.R_drew)); exact HO20008.out) hb); have n2_ := Aside0.mk (below_step (by repeat (first | (with_reducible first | exact HB.out | apply below_alloc | apply pw_below_drewN | apply below_drew1) | exact HB.out)) hb); clear HO20004; clear HO20008; clear HB; have HO20004 := n0_; have HO20008 := n1_; have HB := n2_; clear n0_ n1_ n2_; (try clear hb); (try clear hb2); (try clear hk); (try clear hi)) | (go_at_call 18; (with_reducible refine (spec_SizeOfTerm.calls t20001 t20014 _ A19.out).mono ?_); rintro e w42 ⟨rfl, hb⟩; have n0_ := Aside0.mk (Kd.R_below (by (with_reducible repeat (first | apply Kd.R_alloc | apply Kd.R_drewN | apply Kd.R_drew)); exact HO20004.out) hb); have n1_ := Aside0.mk (Kd.R_below (by (with_reducible repeat (first | apply Kd.R_alloc | apply Kd.R_drewN | apply Kd.R_drew)); exact HO20008.out) hb); have n2_ := Aside0.mk (below_step (by repeat (first | (with_reducible first | exact HB.out | apply below_alloc | apply pw_below_drewN | apply below_drew1) | exact HB.out)) hb); clear HO20004; clear HO20008; clear HB; have HO20004 := n0_; have HO20008 := n1_; have HB := n2_; clear n0_ n1_ n2_; (try clear hb); (try clear hb2); (try clear hk); (try clear hi))))
              go_meet
              case rel => exact ⟨_, (true), (by first | rfl | (simp; done) | (simp [*]; done)), H', ⟨by first | omega | exact Nat.le_refl _⟩, ⟨by (with_reducible repeat (first | apply Kd.R_alloc | apply Kd.R_drewN | apply Kd.R_drew)); exact Kd.R_mono HO20004.out (fun _ hk => trivial)⟩, ⟨by repeat (first | (with_reducible first | exact HB.out | apply below_alloc | apply pw_below_drewN | apply below_drew1) | exact HB.out)⟩⟩
        · rw [if_neg c14] at H
          have c14b0 : (t20005.toList == t20010.toList) = false := beq_eq_false_iff_ne.mpr c14
          have c14b1 : (t20005.toList != t20010.toList) = true := bne_iff_ne.mpr c14
          (first | rw [c14b0] | (simp only [i64_w, i32_w]; rw [c14b0]) | skip)
          have H' := Aside0.mk H
          clear H
          go_wp2_with (first | (go_at_call 22; (with_reducible refine (spec_PartsOfTerm.calls t20001 t20006 _ A10.out).mono ?_); rintro e w43 ⟨v20007, rfl, ho0, hb⟩; have n0_ := Aside0.mk (Kd.R_elder' (by (with_reducible repeat (first | apply Kd.R_alloc | apply Kd.R_drewN | apply Kd.R_drew)); exact HO20004.out) (Kd.R_base ho0) hb); have n1_ := Aside0.mk (Kd.R_lower (Kd.R_new' ho0 (Kd.R_lt (by (with_reducible repeat (first | apply Kd.R_alloc | apply Kd.R_drewN | apply Kd.R_drew)); exact HO20004.out))) (below_size (by repeat (first | (with_reducible first | exact HB.out | apply below_alloc | apply pw_below_drewN | apply below_drew1) | exact HB.out)))); have n2_ := Aside0.mk (below_step (by repeat (first | (with_reducible first | exact HB.out | apply below_alloc | apply pw_below_drewN | apply below_drew1) | exact HB.out)) hb); clear HO20004; clear HB; have HO20004 := n0_; have HO20008 := n1_; have HB := n2_; clear n0_ n1_ n2_; (try clear hb); (try clear hb2); (try clear hk); (try clear hi); (try clear ho0); obtain ⟨Ao44, co44, eo44⟩ := Kd.R_slice HO20004.out; subst eo44; obtain ⟨Ao45, co45, eo45⟩ := Kd.R_slice HO20008.out; subst eo45) | (go_at_call 36; (with_reducible refine (laws_faTexts.calls k _ _ t20002 _ _ t20006 true _ ?side1 ?side2 ?side3 ?side4 A11.out).mono ?_); (case side1 => repeat (first | exact (Kd.R_reads' HO20004.out).2.2 | (with_reducible refine Kd.C_alloc ?_ _) | (with_reducible refine Kd.C_drewN ?_ _) | (with_reducible refine Kd.C_drew ?_))); (case side2 => exact (Kd.R_reads' HO20004.out).2.1); (case side3 => repeat (first | exact (Kd.R_reads' HO20008.out).2.2 | (with_reducible refine Kd.C_alloc ?_ _) | (with_reducible refine Kd.C_drewN ?_ _) | (with_reducible refine Kd.C_drew ?_))); (case side4 => exact (Kd.R_reads' HO20008.out).2.1); rintro e w46 ⟨rfl, hb⟩; have n0_ := Aside0.mk (Kd.R_below (by (with_reducible repeat (first | apply Kd.R_alloc | apply Kd.R_drewN | apply Kd.R_drew)); exact HO20004.out) hb); have n1_ := Aside0.mk (Kd.R_below (by (with_reducible repeat (first | apply Kd.R_alloc | apply Kd.R_drewN | apply Kd.R_drew)); exact HO20008.out) hb); have n2_ := Aside0.mk (below_step (by repeat (first | (with_reducible first | exact HB.out | apply below_alloc | apply pw_below_drewN | apply below_drew1) | exact HB.out)) hb); clear HO20004; clear HO20008; clear HB; have HO20004 := n0_; have HO20008 := n1_; have HB := n2_; clear n0_ n1_ n2_; (try clear hb); (try clear hb2); (try clear hk); (try clear hi)) | (go_at_call 16; (with_reducible refine (spec_SignOf.calls t20001 t20010 _ A13.out).mono ?_); rintro e w47 ⟨rfl, hb⟩; have n0_ := Aside0.mk (Kd.R_below (by (with_reducible repeat (first | apply Kd.R_alloc | apply Kd.R_drewN | apply Kd.R_drew)); exact HO20004.out) hb); have n1_ := Aside0.mk (Kd.R_below (by (with_reducible repeat (first | apply Kd.R_alloc | apply Kd.R_drewN | apply Kd.R_drew)); exact HO20008.out) hb); have n2_ := Aside0.mk (below_step (by repeat (first | (with_reducible first | exact HB.out | apply below_alloc | apply pw_below_drewN | apply below_drew1) | exact HB.out)) hb); clear HO20004; clear HO20008; clear HB; have HO20004 := n0_; have HO20008 := n1_; have HB := n2_; clear n0_ n1_ n2_; (try clear hb); (try clear hb2); (try clear hk); (try clear hi)))
          repeat (go_quiet (first | (go_at_call 22; (with_reducible refine (spec_PartsOfTerm.calls t20001 t20006 _ A10.out).mono ?_); rintro e w43 ⟨v20007, rfl, ho0, hb⟩; have n0_ := Aside0.mk (Kd.R_elder' (by (with_reducible repeat (first | apply Kd.R_alloc | apply Kd.R_drewN | apply Kd.R_drew)); exact HO20004.out) (Kd.R_base ho0) hb); have n1_ := Aside0.mk (Kd.R_lower (Kd.R_new' ho0 (Kd.R_lt (by (with_reducible repeat (first | apply Kd.R_alloc | apply Kd.R_drewN | apply Kd.R_drew)); exact HO20004.out))) (below_size (by repeat (first | (with_reducible first | exact HB.out | apply below_alloc | apply pw_below_drewN | apply below_drew1) | exact HB.out)))); have n2_ := Aside0.mk (below_step (by repeat (first | (with_reducible first | exact HB.out | apply below_alloc | apply pw_below_drewN | apply below_drew1) | exact HB.out)) hb); clear HO20004; clear HB; have HO20004 := n0_; have HO20008 := n1_; have HB := n2_; clear n0_ n1_ n2_; (try clear hb); (try clear hb2); (try clear hk); (try clear hi); (try clear ho0); obtain ⟨Ao44, co44, eo44⟩ := Kd.R_slice HO20004.out; subst eo44; obtain ⟨Ao45, co45, eo45⟩ := Kd.R_slice HO20008.out; subst eo45) | (go_at_call 36; (with_reducible refine (laws_faTexts.calls k _ _ t20002 _ _ t20006 true _ ?side1 ?side2 ?side3 ?side4 A11.out).mono ?_); (case side1 => repeat (first | exact (Kd.R_reads' HO20004.out).2.2 | (with_reducible refine Kd.C_alloc ?_ _) | (with_reducible refine Kd.C_drewN ?_ _) | (with_reducible refine Kd.C_drew ?_))); (case side2 => exact (Kd.R_reads' HO20004.out).2.1); (case side3 => repeat (first | exact (Kd.R_reads' HO20008.out).2.2 | (with_reducible refine Kd.C_alloc ?_ _) | (with_reducible refine Kd.C_drewN ?_ _) | (with_reducible refine Kd.C_drew ?_))); (case side4 => exact (Kd.R_reads' HO20008.out).2.1); rintro e w46 ⟨rfl, hb⟩; have n0_ := Aside0.mk (Kd.R_below (by (with_reducible repeat (first | apply Kd.R_alloc | apply Kd.R_drewN | apply Kd.R_drew)); exact HO20004.out) hb); have n1_ := Aside0.mk (Kd.R_below (by (with_reducible repeat (first | apply Kd.R_alloc | apply Kd.R_drewN | apply Kd.R_drew)); exact HO20008.out) hb); have n2_ := Aside0.mk (below_step (by repeat (first | (with_reducible first | exact HB.out | apply below_alloc | apply pw_below_drewN | apply below_drew1) | exact HB.out)) hb); clear HO20004; clear HO20008; clear HB; have HO20004 := n0_; have HO20008 := n1_; have HB := n2_; clear n0_ n1_ n2_; (try clear hb); (try clear hb2); (try clear hk); (try clear hi)) | (go_at_call 16; (with_reducible refine (spec_SignOf.calls t20001 t20010 _ A13.out).mono ?_); rintro e w47 ⟨rfl, hb⟩; have n0_ := Aside0.mk (Kd.R_below (by (with_reducible repeat (first | apply Kd.R_alloc | apply Kd.R_drewN | apply Kd.R_drew)); exact HO20004.out) hb); have n1_ := Aside0.mk (Kd.R_below (by (with_reducible repeat (first | apply Kd.R_alloc | apply Kd.R_drewN | apply Kd.R_drew)); exact HO20008.out) hb); have n2_ := Aside0.mk (below_step (by repeat (first | (with_reducible first | exact HB.out | apply below_alloc | apply pw_below_drewN | apply below_drew1) | exact HB.out)) hb); clear HO20004; clear HO20008; clear HB; have HO20004 := n0_; have HO20008 := n1_; have HB := n2_; clear n0_ n1_ n2_; (try clear hb); (try clear hb2); (try clear hk); (try clear hi))); try go_wp2_with (first | (go_at_call 22; (with_reducible refine (spec_PartsOfTerm.calls t20001 t20006 _ A10.out).mono ?_); rintro e w43 ⟨v20007, rfl, ho0, hb⟩; have n0_ := Aside0.mk (Kd.R_elder' (by (with_reducible repeat (first | apply Kd.R_alloc | apply Kd.R_drewN | apply Kd.R_drew)); exact HO20004.out) (Kd.R_base ho0) hb); have n1_ := Aside0.mk (Kd.R_lower (Kd.R_new' ho0 (Kd.R_lt (by (with_reducible repeat (first | apply Kd.R_alloc | apply Kd.R_drewN | apply Kd.R_drew)); exact HO20004.out))) (below_size (by repeat (first | (with_reducible first | exact HB.out | apply below_alloc | apply pw_below_drewN | apply below_drew1) | exact HB.out)))); have n2_ := Aside0.mk (below_step (by repeat (first | (with_reducible first | exact HB.out | apply below_alloc | apply pw_below_drewN | apply below_drew1) | exact HB.out)) hb); clear HO20004; clear HB; have HO20004 := n0_; have HO20008 := n1_; have HB := n2_; clear n0_ n1_ n2_; (try clear hb); (try clear hb2); (try clear hk); (try clear hi); (try clear ho0); obtain ⟨Ao44, co44, eo44⟩ := Kd.R_slice HO20004.out; subst eo44; obtain ⟨Ao45, co45, eo45⟩ := Kd.R_slice HO20008.out; subst eo45) | (go_at_call 36; (with_reducible refine (laws_faTexts.calls k _ _ t20002 _ _ t20006 true _ ?side1 ?side2 ?side3 ?side4 A11.out).mono ?_); (case side1 => repeat (first | exact (Kd.R_reads' HO20004.out).2.2 | (with_reducible refine Kd.C_alloc ?_ _) | (with_reducible refine Kd.C_drewN ?_ _) | (with_reducible refine Kd.C_drew ?_))); (case side2 => exact (Kd.R_reads' HO20004.out).2.1); (case side3 => repeat (first | exact (Kd.R_reads' HO20008.out).2.2 | (with_reducible refine Kd.C_alloc ?_ _) | (with_reducible refine Kd.C_drewN ?_ _) | (with_reducible refine Kd.C_drew ?_))); (case side4 => exact (Kd.R_reads' HO20008.out).2.1); rintro e w46 ⟨rfl, hb⟩; have n0_ := Aside0.mk (Kd.R_below (by (with_reducible repeat (first | apply Kd.R_alloc | apply Kd.R_drewN | apply Kd.R_drew)); exact HO20004.out) hb); have n1_ := Aside0.mk (Kd.R_below (by (with_reducible repeat (first | apply Kd.R_alloc | apply Kd.R_drewN | apply Kd.R_drew)); exact HO20008.out) hb); have n2_ := Aside0.mk (below_step (by repeat (first | (with_reducible first | exact HB.out | apply below_alloc | apply pw_below_drewN | apply below_drew1) | exact HB.out)) hb); clear HO20004; clear HO20008; clear HB; have HO20004 := n0_; have HO20008 := n1_; have HB := n2_; clear n0_ n1_ n2_; (try clear hb); (try clear hb2); (try clear hk); (try clear hi)) | (go_at_call 16; (with_reducible refine (spec_SignOf.calls t20001 t20010 _ A13.out).mono ?_); rintro e w47 ⟨rfl, hb⟩; have n0_ := Aside0.mk (Kd.R_below (by (with_reducible repeat (first | apply Kd.R_alloc | apply Kd.R_drewN | apply Kd.R_drew)); exact HO20004.out) hb); have n1_ := Aside0.mk (Kd.R_below (by (with_reducible repeat (first | apply Kd.R_alloc | apply Kd.R_drewN | apply Kd.R_drew)); exact HO20008.out) hb); have n2_ := Aside0.mk (below_step (by repeat (first | (with_reducible first | exact HB.out | apply below_alloc | apply pw_below_drewN | apply below_drew1) | exact HB.out)) hb); clear HO20004; clear HO20008; clear HB; have HO20004 := n0_; have HO20008 := n1_; have HB := n2_; clear n0_ n1_ n2_; (try clear hb); (try clear hb2); (try clear hk); (try clear hi))))
          go_meet
          case rel => exact ⟨_, (true), (by first | rfl | (simp; done) | (simp [*]; done)), H', ⟨by first | omega | exact Nat.le_refl _⟩, ⟨by (with_reducible repeat (first | apply Kd.R_alloc | apply Kd.R_drewN | apply Kd.R_drew)); exact Kd.R_mono HO20004.out (fun _ hk => trivial)⟩, ⟨by repeat (first | (with_reducible first | exact HB.out | apply below_alloc | apply pw_below_drewN | apply below_drew1) | exact HB.out)⟩⟩
      · replace c12 := Bool.eq_false_iff.mpr c12
        subst c12
        have H1 : (none) = some r := by rw [if_neg (show ¬ (false = true) by decide)] at H; exact H
        clear H
        have H := H1
        clear H1
        exact absurd H (by simp)
    case rest =>
      clear HC6
      try clear c1
      try clear c2
      try clear c2b0
      try clear c2b1
      try clear p2
      try clear c12
      try clear c14
      try clear c14b0
      try clear c14b1
      try clear c17
      try clear c17b0
      try clear c17b1
      try clear c17b2
      try clear c20
      try clear c20b0
      try clear c20b1
      obtain ⟨kq, x53_5, rfl, HA, HJ5, HO_4, HB⟩ := hcut
      cases kq with
      | zero => exact absurd HA.out (by simp [laws_FnParts.j0])
      | succ kj5 =>
        have H := HA.out
        clear HA
        simp only [laws_FnParts.j0] at H
        by_cases c48 : x53_5 = true
        · subst c48
          have H1 : (none) = some r := by rw [if_pos rfl] at H; exact H
          clear H
          have H := H1
          clear H1
          exact absurd H (by simp)
        · replace c48 := Bool.eq_false_iff.mpr c48
          subst c48
          have H1 : (if t20005.toList = ([] : List UInt8) then (if (t20002.length : Int) = 0 then ((impl_TermValid.f t20001).bind fun t20017 => (if t20017 = true then (none) else ((impl_SizeOfTerm.f t20001).bind fun t20018 => (some (t20018 == (-1)))))) else (none)) else (if t20005.toList = ([91] : List UInt8) then (laws_FnParts.j1 kj5 t20001 t20002 t20005 1 0 true) else (laws_FnParts.j1 kj5 t20001 t20002 t20005 1 0 (t20005.toList == ([123] : List UInt8))))) = some r := by rw [if_neg (show ¬ (false = true) by decide)] at H; exact H
          clear H
          have H := H1
          clear H1
          by_cases c49 : t20005.toList = ([] : List UInt8)
          · rw [if_pos c49] at H
            have c49b0 : (t20005.toList == ([] : List UInt8)) = true := beq_iff_eq.mpr c49
            have c49b1 : (t20005.toList != ([] : List UInt8)) = false := bne_eq_false_iff_eq.mpr c49
            clear c49
            by_cases c50 : (t20002.length : Int) = 0
            · rw [if_pos c50] at H
              have c50b0 : ((t20002.length : Int) == 0) = true := beq_iff_eq.mpr c50
              have c50b1 : ((t20002.length : Int) != 0) = false := bne_eq_false_iff_eq.mpr c50
              clear c50
              replace H := Option.bind_eq_some_iff.mp H
              obtain ⟨t20017, A510, H⟩ := H
              replace H : (if t20017 = true then (none) else ((impl_SizeOfTerm.f t20001).bind fun t20018 => (some (t20018 == (-1))))) = some r := H
              have A51 := Aside0.mk A510
              clear A510
              by_cases c52 : t20017 = true
              · subst c52
                have H1 : (none) = some r := by rw [if_pos rfl] at H; exact H
                clear H
                have H := H1
                clear H1
                exact absurd H (by simp)
              · replace c52 := Bool.eq_false_iff.mpr c52
                subst c52
                have H1 : ((impl_SizeOfTerm.f t20001).bind fun t20018 => (some (t20018 == (-1)))) = some r := by rw [if_neg (show ¬ (false = true) by decide)] at H; exact H
                clear H
                have H := H1
                clear H1
                replace H := Option.bind_eq_some_iff.mp H
                obtain ⟨t20018, A530, H⟩ := H
                replace H : (some (t20018 == (-1))) = some r := H
                have A53 := Aside0.mk A530
                clear A530
                obtain rfl := Option.some.inj H
                obtain ⟨Ao54, co54, eo54⟩ := Kd.R_slice HO_4.out
                subst eo54
                go_wp2_with (first | (go_at_call 15; (with_reducible refine (impl_TermValid.calls t20001 false _ A51.out).mono ?_); rintro e w55 ⟨rfl, hb⟩; have n0_ := Aside0.mk (Kd.R_below (by (with_reducible repeat (first | apply Kd.R_alloc | apply Kd.R_drewN | apply Kd.R_drew)); exact HO_4.out) hb); have n1_ := Aside0.mk (below_step (by repeat (first | (with_reducible first | exact HB.out | apply below_alloc | apply pw_below_drewN | apply below_drew1) | exact HB.out)) hb); clear HO_4; clear HB; have HO_4 := n0_; have HB := n1_; clear n0_ n1_; (try clear hb); (try clear hb2); (try clear hk); (try clear hi)) | (go_at_call 19; (with_reducible refine (impl_SizeOfTerm.calls t20001 t20018 _ A53.out).mono ?_); rintro e w56 ⟨rfl, hb⟩; have n0_ := Aside0.mk (Kd.R_below (by (with_reducible repeat (first | apply Kd.R_alloc | apply Kd.R_drewN | apply Kd.R_drew)); exact HO_4.out) hb); have n1_ := Aside0.mk (below_step (by repeat (first | (with_reducible first | exact HB.out | apply below_alloc | apply pw_below_drewN | apply below_drew1) | exact HB.out)) hb); clear HO_4; clear HB; have HO_4 := n0_; have HB := n1_; clear n0_ n1_; (try clear hb); (try clear hb2); (try clear hk); (try clear hi)))
                repeat (go_quiet (first | (go_at_call 15; (with_reducible refine (impl_TermValid.calls t20001 false _ A51.out).mono ?_); rintro e w55 ⟨rfl, hb⟩; have n0_ := Aside0.mk (Kd.R_below (by (with_reducible repeat (first | apply Kd.R_alloc | apply Kd.R_drewN | apply Kd.R_drew)); exact HO_4.out) hb); have n1_ := Aside0.mk (below_step (by repeat (first | (with_reducible first | exact HB.out | apply below_alloc | apply pw_below_drewN | apply below_drew1) | exact HB.out)) hb); clear HO_4; clear HB; have HO_4 := n0_; have HB := n1_; clear n0_ n1_; (try clear hb); (try clear hb2); (try clear hk); (try clear hi)) | (go_at_call 19; (with_reducible refine (impl_SizeOfTerm.calls t20001 t20018 _ A53.out).mono ?_); rintro e w56 ⟨rfl, hb⟩; have n0_ := Aside0.mk (Kd.R_below (by (with_reducible repeat (first | apply Kd.R_alloc | apply Kd.R_drewN | apply Kd.R_drew)); exact HO_4.out) hb); have n1_ := Aside0.mk (below_step (by repeat (first | (with_reducible first | exact HB.out | apply below_alloc | apply pw_below_drewN | apply below_drew1) | exact HB.out)) hb); clear HO_4; clear HB; have HO_4 := n0_; have HB := n1_; clear n0_ n1_; (try clear hb); (try clear hb2); (try clear hk); (try clear hi))); try go_wp2_with (first | (go_at_call 15; (with_reducible refine (impl_TermValid.calls t20001 false _ A51.out).mono ?_); rintro e w55 ⟨rfl, hb⟩; have n0_ := Aside0.mk (Kd.R_below (by (with_reducible repeat (first | apply Kd.R_alloc | apply Kd.R_drewN | apply Kd.R_drew)); exact HO_4.out) hb); have n1_ := Aside0.mk (below_step (by repeat (first | (with_reducible first | exact HB.out | apply below_alloc | apply pw_below_drewN | apply below_drew1) | exact HB.out)) hb); clear HO_4; clear HB; have HO_4 := n0_; have HB := n1_; clear n0_ n1_; (try clear hb); (try clear hb2); (try clear hk); (try clear hi)) | (go_at_call 19; (with_reducible refine (impl_SizeOfTerm.calls t20001 t20018 _ A53.out).mono ?_); rintro e w56 ⟨rfl, hb⟩; have n0_ := Aside0.mk (Kd.R_below (by (with_reducible repeat (first | apply Kd.R_alloc | apply Kd.R_drewN | apply Kd.R_drew)); exact HO_4.out) hb); have n1_ := Aside0.mk (below_step (by repeat (first | (with_reducible first | exact HB.out | apply below_alloc | apply pw_below_drewN | apply below_drew1) | exact HB.out)) hb); clear HO_4; clear HB; have HO_4 := n0_; have HB := n1_; clear n0_ n1_; (try clear hb); (try clear hb2); (try clear hk); (try clear hi))))
                go_ret
                exact ⟨by first | rfl | (simp [errW_none, errW_some] <;> rfl) | (simp [*, errW_none, errW_some] <;> rfl), by repeat (first | (with_reducible first | exact HB.out | apply below_alloc | apply pw_below_drewN | apply below_drew1) | exact HB.out)⟩
            · rw [if_neg c50] at H
              exact absurd H (by simp)
          · rw [if_neg c49] at H
            have c49b0 : (t20005.toList == ([] : List UInt8)) = false := beq_eq_false_iff_ne.mpr c49
            have c49b1 : (t20005.toList != ([] : List UInt8)) = true := bne_iff_ne.mpr c49
            have HC57 := Aside0.mk H
            clear H
            go_upto_region 11 with (fail)
            repeat (go_quiet (fail); go_upto_region 11 with (fail))
            go_cut [8] (fun v8 wc => ∃ (kq : Nat) (x8_56 : Bool), v8 = .bool x8_56 ∧ Aside0 (laws_FnParts.j1 kq t20001 t20002 t20005 1 0 x8_56 = some r) ∧ Aside0 (kq ≤ kj5) ∧ Aside0 (Kd.R Kd.string 9 wc w.heap.size (fun _ => True) v20003 t20002) ∧ Aside0 (Below w.heap.size w wc))
            case first =>
              have H := HC57.out
              clear HC57
              by_cases c58 : t20005.toList = ([91] : List UInt8)
              · rw [if_pos c58] at H
                have c58b0 : (t20005.toList == ([91] : List UInt8)) = true := beq_iff_eq.mpr c58
                have c58b1 : (t20005.toList != ([91] : List UInt8)) = false := bne_eq_false_iff_eq.mpr c58
                clear c58
                (first | rw [c58b0] | (simp only [i64_w, i32_w]; rw [c58b0]) | skip)
                have H' := Aside0.mk H
                clear H
                go_wp2
                repeat (go_quiet (fail); try go_wp2)
                go_meet
                case rel => exact ⟨_, (true), (by first | rfl | (simp; done) | (simp [*]; done)), H', ⟨by have := HJ5.out; first | omega | exact Nat.le_refl _⟩, ⟨by (with_reducible repeat (first | apply Kd.R_alloc | apply Kd.R_drewN | apply Kd.R_drew)); exact HO_4.out⟩, ⟨by repeat (first | (with_reducible first | exact HB.out | apply below_alloc | apply pw_below_drewN | apply below_drew1) | exact HB.out)⟩⟩
              · rw [if_neg c58] at H
                have c58b0 : (t20005.toList == ([91] : List UInt8)) = false := beq_eq_false_iff_ne.mpr c58
                have c58b1 : (t20005.toList != ([91] : List UInt8)) = true := bne_iff_ne.mpr c58
                (first | rw [c58b0] | (simp only [i64_w, i32_w]; rw [c58b0]) | skip)
                have H' := Aside0.mk H
                clear H
                go_wp2
                repeat (go_quiet (fail); try go_wp2)
                go_meet
                case rel => exact ⟨_, ((t20005.toList == ([123] : List UInt8))), (by first | rfl | (simp; done) | (simp [*]; done)), H', ⟨by have := HJ5.out; first | omega | exact Nat.le_refl _⟩, ⟨by (with_reducible repeat (first | apply Kd.R_alloc | apply Kd.R_drewN | apply Kd.R_drew)); exact HO_4.out⟩, ⟨by repeat (first | (with_reducible first | exact HB.out | apply below_alloc | apply pw_below_drewN | apply below_drew1) | exact HB.out)⟩⟩
            case rest =>
              clear HC57
              try clear c1
              try clear c2
              try clear c2b0
              try clear c2b1
              try clear p2
              try clear c4
              try clear c5
              try clear c12
              try clear c14
              try clear c14b0
              try clear c14b1
              try clear c17
              try clear c17b0
              try clear c17b1
              try clear c17b2
              try clear c20
              try clear c20b0
              try clear c20b1
              try clear c48
              try clear c49
              try clear c49b0
              try clear c49b1
              try clear c50
              try clear c50b0
              try clear c50b1
              try clear c52
              try clear c58
              try clear c58b0
              try clear c58b1
              try clear p2
              obtain ⟨kq, x8_56, rfl, HA, HJ56, HO_4, HB⟩ := hcut
              cases kq with
              | zero => exact absurd HA.out (by simp [laws_FnParts.j1])
              | succ kj56 =>
                have H := HA.out
                clear HA
                simp only [laws_FnParts.j1] at H
                have H' := Aside0.mk H
                clear H
                obtain ⟨Ao59, co59, eo59⟩ := Kd.R_slice HO_4.out
                subst eo59
                go_wp2
                repeat (go_quiet (fail); try go_wp2)
                go_loopg [6, 7, 77] kj56 (fun kq v6 v7 v77 w' => ∃ (x6_3 : Int) (x7_3 : Int) (x77_3 : Int), v6 = .int .i64 x6_3 ∧ v7 = .int .i64 x7_3 ∧ v77 = .int .i64 x77_3 ∧ Aside0 (laws_FnParts.l0 kq t20001 t20002 t20005 x6_3 x7_3 x8_56 t20002 (t20002.length : Int) x77_3 = some r) ∧ Aside0 (kq ≤ kj56) ∧ Aside0 (Kd.R Kd.string 9 w' w.heap.size (fun _ => True) (.slice Ao59 t20002.length co59) t20002) ∧ Aside0 (Kd.R Kd.string 9 w' w.heap.size (fun _ => True) (.slice Ao59 t20002.length co59) t20002) ∧ Aside0 (Below w.heap.size w w'))
                case atStart => exact ⟨(1), (0), (0), (by first | rfl | (simp; done) | (simp [*]; done)), (by first | rfl | (simp; done) | (simp [*]; done)), (by first | rfl | (simp; done) | (simp [*]; done)), H', ⟨Nat.le_refl _⟩, ⟨by (with_reducible repeat (first | apply Kd.R_alloc | apply Kd.R_drewN | apply Kd.R_drew)); exact HO_4.out⟩, ⟨by (with_reducible repeat (first | apply Kd.R_alloc | apply Kd.R_drewN | apply Kd.R_drew)); exact HO_4.out⟩, ⟨by repeat (first | (with_reducible first | exact HB.out | apply below_alloc | apply pw_below_drewN | apply below_drew1) | exact HB.out)⟩⟩
                case round =>
                  clear H'
                  try clear c1
                  try clear c2
                  try clear c2b0
                  try clear c2b1
                  try clear p2
                  try clear c4
                  try clear c5
                  try clear c12
                  try clear c14
                  try clear c14b0
                  try clear c14b1
                  try clear c17
                  try clear c17b0
                  try clear c17b1
                  try clear c17b2
                  try clear c20
                  try clear c20b0
                  try clear c20b1
                  try clear c48
                  try clear c49
                  try clear c49b0
                  try clear c49b1
                  try clear c50
                  try clear c50b0
                  try clear c50b1
                  try clear c52
                  try clear c58
                  try clear c58b0
                  try clear c58b1
                  try clear p2
                  obtain ⟨x6_3, x7_3, x77_3, rfl, rfl, rfl, HA, HK3, HO_4, HO_75, HB⟩ := hrel
                  cases gk with
                  | zero => exact absurd HA.out (by simp [laws_FnParts.l0])
                  | succ k3 =>
                    have H := HA.out
                    clear HA
                    simp only [laws_FnParts.l0] at H
                    by_cases c60 : x77_3 < (t20002.length : Int)
                    · rw [if_pos c60] at H
                      have c60b0 : decide (x77_3 < (t20002.length : Int)) = true := decide_eq_true c60
                      clear c60
                      by_cases c61 : 0 ≤ x77_3
                      · rw [if_pos c61] at H
                        have c61b0 : decide (0 ≤ x77_3) = true := decide_eq_true c61
                        clear c61
                        by_cases c62 : x77_3 < (t20002.length : Int)
                        · rw [if_pos c62] at H
                          have c62b0 : decide (x77_3 < (t20002.length : Int)) = true := decide_eq_true c62
                          clear c62
                          replace H := Option.bind_eq_some_iff.mp H
                          obtain ⟨t20020, A630, H⟩ := H
                          replace H : ((impl_LevelsOf.f (rdOf ByteArray.empty t20002 x77_3)).bind fun t20021 => (if x8_56 = true then (if x77_3 = 1 then (laws_FnParts.l0 k3 t20001 t20002 t20005 (wrap64 (x6_3 + t20020)) (mx x7_3 (wrap64 (t20021 + 1))) x8_56 t20002 (t20002.length : Int) (wrap64 (x77_3 + 1))) else (laws_FnParts.l0 k3 t20001 t20002 t20005 (wrap64 (x6_3 + t20020)) (mx x7_3 t20021) x8_56 t20002 (t20002.length : Int) (wrap64 (x77_3 + 1)))) else (laws_FnParts.l0 k3 t20001 t20002 t20005 (wrap64 (x6_3 + t20020)) (mx x7_3 t20021) x8_56 t20002 (t20002.length : Int) (wrap64 (x77_3 + 1))))) = some r := H
                          have A63 := Aside0.mk A630
                          clear A630
                          replace H := Option.bind_eq_some_iff.mp H
                          obtain ⟨t20021, A640, H⟩ := H
                          replace H : (if x8_56 = true then (if x77_3 = 1 then (laws_FnParts.l0 k3 t20001 t20002 t20005 (wrap64 (x6_3 + t20020)) (mx x7_3 (wrap64 (t20021 + 1))) x8_56 t20002 (t20002.length : Int) (wrap64 (x77_3 + 1))) else (laws_FnParts.l0 k3 t20001 t20002 t20005 (wrap64 (x6_3 + t20020)) (mx x7_3 t20021) x8_56 t20002 (t20002.length : Int) (wrap64 (x77_3 + 1)))) else (laws_FnParts.l0 k3 t20001 t20002 t20005 (wrap64 (x6_3 + t20020)) (mx x7_3 t20021) x8_56 t20002 (t20002.length : Int) (wrap64 (x77_3 + 1)))) = some r := H
                          have A64 := Aside0.mk A640
                          clear A640
                          by_cases c65 : x8_56 = true
                          · subst c65
                            have H1 : (if x77_3 = 1 then (laws_FnParts.l0 k3 t20001 t20002 t20005 (wrap64 (x6_3 + t20020)) (mx x7_3 (wrap64 (t20021 + 1))) true t20002 (t20002.length : Int) (wrap64 (x77_3 + 1))) else (laws_FnParts.l0 k3 t20001 t20002 t20005 (wrap64 (x6_3 + t20020)) (mx x7_3 t20021) true t20002 (t20002.length : Int) (wrap64 (x77_3 + 1)))) = some r := by rw [if_pos rfl] at H; exact H
                            clear H
                            have H := H1
                            clear H1
                            by_cases c66 : x77_3 = 1
                            · rw [if_pos c66] at H
                              have c66b0 : (x77_3 == 1) = true := beq_iff_eq.mpr c66
                              have c66b1 : (x77_3 != 1) = false := bne_eq_false_iff_eq.mpr c66
                              clear c66
                              obtain ⟨ji67, hji67⟩ : ∃ j_ : Int, (mx x7_3 (wrap64 (t20021 + 1))) = j_ := ⟨_, rfl⟩
                              replace H : (laws_FnParts.l0 k3 t20001 t20002 t20005 (wrap64 (x6_3 + t20020)) ji67 true t20002 (t20002.length : Int) (wrap64 (x77_3 + 1))) = some r := by first | (rw [hji67] at H; exact H) | (simp only [hji67] at H ⊢; exact H)
                              (try rw [hji67] at A63)
                              (try rw [hji67] at A64)
                              have hji67_ : (if x7_3 < (wrap64 (t20021 + 1)) then (wrap64 (t20021 + 1)) else x7_3) = ji67 := hji67
                              (try (have hji67_n := hji67_; simp only [Int.ofNat_lt] at hji67_n))
                              have H' := Aside0.mk H
                              clear H
                              have p20019 : 0 ≤ (x77_3 : Int) := of_decide_eq_true (by first | (with_reducible assumption) | assumption)
                              have q20019 : x77_3 < (t20002.length : Int) := of_decide_eq_true (by first | (with_reducible assumption) | assumption)
                              obtain ⟨ad20019, e20019, hx20019_0⟩ := Kd.at_string (Kd.R_reads' HO_75.out).2.2 x77_3 p20019 q20019
                              cases e20019
                              replace p20019 := eq_true p20019
                              replace q20019 := eq_true q20019
                              go_wp2_with (first | (go_at_call 19; (with_reducible refine (impl_SizeOfTerm.calls (rdOf ByteArray.empty t20002 x77_3) t20020 _ A63.out).mono ?_); rintro e w68 ⟨rfl, hb⟩; have n0_ := Aside0.mk (Kd.R_below (by (with_reducible repeat (first | apply Kd.R_alloc | apply Kd.R_drewN | apply Kd.R_drew)); exact HO_4.out) hb); have n1_ := Aside0.mk (Kd.R_below (by (with_reducible repeat (first | apply Kd.R_alloc | apply Kd.R_drewN | apply Kd.R_drew)); exact HO_75.out) hb); have n2_ := Aside0.mk (below_step (by repeat (first | (with_reducible first | exact HB.out | apply below_alloc | apply pw_below_drewN | apply below_drew1) | exact HB.out)) hb); clear HO_4; clear HO_75; clear HB; have HO_4 := n0_; have HO_75 := n1_; have HB := n2_; clear n0_ n1_ n2_; (try clear hb); (try clear hb2); (try clear hk); (try clear hi)) | (go_at_call 21; (with_reducible refine (impl_LevelsOf.calls (rdOf ByteArray.empty t20002 x77_3) t20021 _ A64.out).mono ?_); rintro e w69 ⟨rfl, hb⟩; have n0_ := Aside0.mk (Kd.R_below (by (with_reducible repeat (first | apply Kd.R_alloc | apply Kd.R_drewN | apply Kd.R_drew)); exact HO_4.out) hb); have n1_ := Aside0.mk (Kd.R_below (by (with_reducible repeat (first | apply Kd.R_alloc | apply Kd.R_drewN | apply Kd.R_drew)); exact HO_75.out) hb); have n2_ := Aside0.mk (below_step (by repeat (first | (with_reducible first | exact HB.out | apply below_alloc | apply pw_below_drewN | apply below_drew1) | exact HB.out)) hb); clear HO_4; clear HO_75; clear HB; have HO_4 := n0_; have HO_75 := n1_; have HB := n2_; clear n0_ n1_ n2_; (try clear hb); (try clear hb2); (try clear hk); (try clear hi)))
                              repeat (go_quiet (first | (go_at_call 19; (with_reducible refine (impl_SizeOfTerm.calls (rdOf ByteArray.empty t20002 x77_3) t20020 _ A63.out).mono ?_); rintro e w68 ⟨rfl, hb⟩; have n0_ := Aside0.mk (Kd.R_below (by (with_reducible repeat (first | apply Kd.R_alloc | apply Kd.R_drewN | apply Kd.R_drew)); exact HO_4.out) hb); have n1_ := Aside0.mk (Kd.R_below (by (with_reducible repeat (first | apply Kd.R_alloc | apply Kd.R_drewN | apply Kd.R_drew)); exact HO_75.out) hb); have n2_ := Aside0.mk (below_step (by repeat (first | (with_reducible first | exact HB.out | apply below_alloc | apply pw_below_drewN | apply below_drew1) | exact HB.out)) hb); clear HO_4; clear HO_75; clear HB; have HO_4 := n0_; have HO_75 := n1_; have HB := n2_; clear n0_ n1_ n2_; (try clear hb); (try clear hb2); (try clear hk); (try clear hi)) | (go_at_call 21; (with_reducible refine (impl_LevelsOf.calls (rdOf ByteArray.empty t20002 x77_3) t20021 _ A64.out).mono ?_); rintro e w69 ⟨rfl, hb⟩; have n0_ := Aside0.mk (Kd.R_below (by (with_reducible repeat (first | apply Kd.R_alloc | apply Kd.R_drewN | apply Kd.R_drew)); exact HO_4.out) hb); have n1_ := Aside0.mk (Kd.R_below (by (with_reducible repeat (first | apply Kd.R_alloc | apply Kd.R_drewN | apply Kd.R_drew)); exact HO_75.out) hb); have n2_ := Aside0.mk (below_step (by repeat (first | (with_reducible first | exact HB.out | apply below_alloc | apply pw_below_drewN | apply below_drew1) | exact HB.out)) hb); clear HO_4; clear HO_75; clear HB; have HO_4 := n0_; have HO_75 := n1_; have HB := n2_; clear n0_ n1_ n2_; (try clear hb); (try clear hb2); (try clear hk); (try clear hi))); try go_wp2_with (first | (go_at_call 19; (with_reducible refine (impl_SizeOfTerm.calls (rdOf ByteArray.empty t20002 x77_3) t20020 _ A63.out).mono ?_); rintro e w68 ⟨rfl, hb⟩; have n0_ := Aside0.mk (Kd.R_below (by (with_reducible repeat (first | apply Kd.R_alloc | apply Kd.R_drewN | apply Kd.R_drew)); exact HO_4.out) hb); have n1_ := Aside0.mk (Kd.R_below (by (with_reducible repeat (first | apply Kd.R_alloc | apply Kd.R_drewN | apply Kd.R_drew)); exact HO_75.out) hb); have n2_ := Aside0.mk (below_step (by repeat (first | (with_reducible first | exact HB.out | apply below_alloc | apply pw_below_drewN | apply below_drew1) | exact HB.out)) hb); clear HO_4; clear HO_75; clear HB; have HO_4 := n0_; have HO_75 := n1_; have HB := n2_; clear n0_ n1_ n2_; (try clear hb); (try clear hb2); (try clear hk); (try clear hi)) | (go_at_call 21; (with_reducible refine (impl_LevelsOf.calls (rdOf ByteArray.empty t20002 x77_3) t20021 _ A64.out).mono ?_); rintro e w69 ⟨rfl, hb⟩; have n0_ := Aside0.mk (Kd.R_below (by (with_reducible repeat (first | apply Kd.R_alloc | apply Kd.R_drewN | apply Kd.R_drew)); exact HO_4.out) hb); have n1_ := Aside0.mk (Kd.R_below (by (with_reducible repeat (first | apply Kd.R_alloc | apply Kd.R_drewN | apply Kd.R_drew)); exact HO_75.out) hb); have n2_ := Aside0.mk (below_step (by repeat (first | (with_reducible first | exact HB.out | apply below_alloc | apply pw_below_drewN | apply below_drew1) | exact HB.out)) hb); clear HO_4; clear HO_75; clear HB; have HO_4 := n0_; have HO_75 := n1_; have HB := n2_; clear n0_ n1_ n2_; (try clear hb); (try clear hb2); (try clear hk); (try clear hi))))
                              go_roundg k3
                              case measure => have := HJ5.out; have := HJ56.out; have := HK3.out; omega
                              case rel => exact ⟨(wrap64 (x6_3 + t20020)), (ji67), (wrap64 (x77_3 + 1)), (by first | rfl | (simp; done) | (simp [*]; done)), (by first | rfl | (simp; done) | (simp only [← hji67] <;> (first | rfl | simp)) | (simp [*]; done)), (by first | rfl | (simp; done) | (simp [*]; done)), H', ⟨by have := HJ5.out; have := HJ56.out; have := HK3.out; omega⟩, ⟨by (with_reducible repeat (first | apply Kd.R_alloc | apply Kd.R_drewN | apply Kd.R_drew)); exact HO_4.out⟩, ⟨by (with_reducible repeat (first | apply Kd.R_alloc | apply Kd.R_drewN | apply Kd.R_drew)); exact HO_75.out⟩, ⟨by repeat (first | (with_reducible first | exact HB.out | apply below_alloc | apply pw_below_drewN | apply below_drew1) | exact HB.out)⟩⟩
                            · rw [if_neg c66] at H
                              have c66b0 : (x77_3 == 1) = false := beq_eq_false_iff_ne.mpr c66
                              have c66b1 : (x77_3 != 1) = true := bne_iff_ne.mpr c66
                              obtain ⟨ji70, hji70⟩ : ∃ j_ : Int, (mx x7_3 t20021) = j_ := ⟨_, rfl⟩
                              replace H : (laws_FnParts.l0 k3 t20001 t20002 t20005 (wrap64 (x6_3 + t20020)) ji70 true t20002 (t20002.length : Int) (wrap64 (x77_3 + 1))) = some r := by first | (rw [hji70] at H; exact H) | (simp only [hji70] at H ⊢; exact H)
                              (try rw [hji70] at A63)
                              (try rw [hji70] at A64)
                              have hji70_ : (if x7_3 < t20021 then t20021 else x7_3) = ji70 := hji70
                              (try (have hji70_n := hji70_; simp only [Int.ofNat_lt] at hji70_n))
                              have H' := Aside0.mk H
                              clear H
                              have p20019 : 0 ≤ (x77_3 : Int) := of_decide_eq_true (by first | (with_reducible assumption) | assumption)
                              have q20019 : x77_3 < (t20002.length : Int) := of_decide_eq_true (by first | (with_reducible assumption) | assumption)
                              obtain ⟨ad20019, e20019, hx20019_0⟩ := Kd.at_string (Kd.R_reads' HO_75.out).2.2 x77_3 p20019 q20019
                              cases e20019
                              replace p20019 := eq_true p20019
                              replace q20019 := eq_true q20019
                              go_wp2_with (first | (go_at_call 19; (with_reducible refine (impl_SizeOfTerm.calls (rdOf ByteArray.empty t20002 x77_3) t20020 _ A63.out).mono ?_); rintro e w71 ⟨rfl, hb⟩; have n0_ := Aside0.mk (Kd.R_below (by (with_reducible repeat (first | apply Kd.R_alloc | apply Kd.R_drewN | apply Kd.R_drew)); exact HO_4.out) hb); have n1_ := Aside0.mk (Kd.R_below (by (with_reducible repeat (first | apply Kd.R_alloc | apply Kd.R_drewN | apply Kd.R_drew)); exact HO_75.out) hb); have n2_ := Aside0.mk (below_step (by repeat (first | (with_reducible first | exact HB.out | apply below_alloc | apply pw_below_drewN | apply below_drew1) | exact HB.out)) hb); clear HO_4; clear HO_75; clear HB; have HO_4 := n0_; have HO_75 := n1_; have HB := n2_; clear n0_ n1_ n2_; (try clear hb); (try clear hb2); (try clear hk); (try clear hi)) | (go_at_call 21; (with_reducible refine (impl_LevelsOf.calls (rdOf ByteArray.empty t20002 x77_3) t20021 _ A64.out).mono ?_); rintro e w72 ⟨rfl, hb⟩; have n0_ := Aside0.mk (Kd.R_below (by (with_reducible repeat (first | apply Kd.R_alloc | apply Kd.R_drewN | apply Kd.R_drew)); exact HO_4.out) hb); have n1_ := Aside0.mk (Kd.R_below (by (with_reducible repeat (first | apply Kd.R_alloc | apply Kd.R_drewN | apply Kd.R_drew)); exact HO_75.out) hb); have n2_ := Aside0.mk (below_step (by repeat (first | (with_reducible first | exact HB.out | apply below_alloc | apply pw_below_drewN | apply below_drew1) | exact HB.out)) hb); clear HO_4; clear HO_75; clear HB; have HO_4 := n0_; have HO_75 := n1_; have HB := n2_; clear n0_ n1_ n2_; (try clear hb); (try clear hb2); (try clear hk); (try clear hi)))
                              repeat (go_quiet (first | (go_at_call 19; (with_reducible refine (impl_SizeOfTerm.calls (rdOf ByteArray.empty t20002 x77_3) t20020 _ A63.out).mono ?_); rintro e w71 ⟨rfl, hb⟩; have n0_ := Aside0.mk (Kd.R_below (by (with_reducible repeat (first | apply Kd.R_alloc | apply Kd.R_drewN | apply Kd.R_drew)); exact HO_4.out) hb); have n1_ := Aside0.mk (Kd.R_below (by (with_reducible repeat (first | apply Kd.R_alloc | apply Kd.R_drewN | apply Kd.R_drew)); exact HO_75.out) hb); have n2_ := Aside0.mk (below_step (by repeat (first | (with_reducible first | exact HB.out | apply below_alloc | apply pw_below_drewN | apply below_drew1) | exact HB.out)) hb); clear HO_4; clear HO_75; clear HB; have HO_4 := n0_; have HO_75 := n1_; have HB := n2_; clear n0_ n1_ n2_; (try clear hb); (try clear hb2); (try clear hk); (try clear hi)) | (go_at_call 21; (with_reducible refine (impl_LevelsOf.calls (rdOf ByteArray.empty t20002 x77_3) t20021 _ A64.out).mono ?_); rintro e w72 ⟨rfl, hb⟩; have n0_ := Aside0.mk (Kd.R_below (by (with_reducible repeat (first | apply Kd.R_alloc | apply Kd.R_drewN | apply Kd.R_drew)); exact HO_4.out) hb); have n1_ := Aside0.mk (Kd.R_below (by (with_reducible repeat (first | apply Kd.R_alloc | apply Kd.R_drewN | apply Kd.R_drew)); exact HO_75.out) hb); have n2_ := Aside0.mk (below_step (by repeat (first | (with_reducible first | exact HB.out | apply below_alloc | apply pw_below_drewN | apply below_drew1) | exact HB.out)) hb); clear HO_4; clear HO_75; clear HB; have HO_4 := n0_; have HO_75 := n1_; have HB := n2_; clear n0_ n1_ n2_; (try clear hb); (try clear hb2); (try clear hk); (try clear hi))); try go_wp2_with (first | (go_at_call 19; (with_reducible refine (impl_SizeOfTerm.calls (rdOf ByteArray.empty t20002 x77_3) t20020 _ A63.out).mono ?_); rintro e w71 ⟨rfl, hb⟩; have n0_ := Aside0.mk (Kd.R_below (by (with_reducible repeat (first | apply Kd.R_alloc | apply Kd.R_drewN | apply Kd.R_drew)); exact HO_4.out) hb); have n1_ := Aside0.mk (Kd.R_below (by (with_reducible repeat (first | apply Kd.R_alloc | apply Kd.R_drewN | apply Kd.R_drew)); exact HO_75.out) hb); have n2_ := Aside0.mk (below_step (by repeat (first | (with_reducible first | exact HB.out | apply below_alloc | apply pw_below_drewN | apply below_drew1) | exact HB.out)) hb); clear HO_4; clear HO_75; clear HB; have HO_4 := n0_; have HO_75 := n1_; have HB := n2_; clear n0_ n1_ n2_; (try clear hb); (try clear hb2); (try clear hk); (try clear hi)) | (go_at_call 21; (with_reducible refine (impl_LevelsOf.calls (rdOf ByteArray.empty t20002 x77_3) t20021 _ A64.out).mono ?_); rintro e w72 ⟨rfl, hb⟩; have n0_ := Aside0.mk (Kd.R_below (by (with_reducible repeat (first | apply Kd.R_alloc | apply Kd.R_drewN | apply Kd.R_drew)); exact HO_4.out) hb); have n1_ := Aside0.mk (Kd.R_below (by (with_reducible repeat (first | apply Kd.R_alloc | apply Kd.R_drewN | apply Kd.R_drew)); exact HO_75.out) hb); have n2_ := Aside0.mk (below_step (by repeat (first | (with_reducible first | exact HB.out | apply below_alloc | apply pw_below_drewN | apply below_drew1) | exact HB.out)) hb); clear HO_4; clear HO_75; clear HB; have HO_4 := n0_; have HO_75 := n1_; have HB := n2_; clear n0_ n1_ n2_; (try clear hb); (try clear hb2); (try clear hk); (try clear hi))))
                              go_roundg k3
                              case measure => have := HJ5.out; have := HJ56.out; have := HK3.out; omega
                              case rel => exact ⟨(wrap64 (x6_3 + t20020)), (ji70), (wrap64 (x77_3 + 1)), (by first | rfl | (simp; done) | (simp [*]; done)), (by first | rfl | (simp; done) | (simp only [← hji70] <;> (first | rfl | simp)) | (simp [*]; done)), (by first | rfl | (simp; done) | (simp [*]; done)), H', ⟨by have := HJ5.out; have := HJ56.out; have := HK3.out; omega⟩, ⟨by (with_reducible repeat (first | apply Kd.R_alloc | apply Kd.R_drewN | apply Kd.R_drew)); exact HO_4.out⟩, ⟨by (with_reducible repeat (first | apply Kd.R_alloc | apply Kd.R_drewN | apply Kd.R_drew)); exact HO_75.out⟩, ⟨by repeat (first | (with_reducible first | exact HB.out | apply below_alloc | apply pw_below_drewN | apply below_drew1) | exact HB.out)⟩⟩
                          · replace c65 := Bool.eq_false_iff.mpr c65
                            subst c65
                            have H1 : (laws_FnParts.l0 k3 t20001 t20002 t20005 (wrap64 (x6_3 + t20020)) (mx x7_3 t20021) false t20002 (t20002.length : Int) (wrap64 (x77_3 + 1))) = some r := by rw [if_neg (show ¬ (false = true) by decide)] at H; exact H
                            clear H
                            have H := H1
                            clear H1
                            obtain ⟨ji73, hji73⟩ : ∃ j_ : Int, (mx x7_3 t20021) = j_ := ⟨_, rfl⟩
                            replace H : (laws_FnParts.l0 k3 t20001 t20002 t20005 (wrap64 (x6_3 + t20020)) ji73 false t20002 (t20002.length : Int) (wrap64 (x77_3 + 1))) = some r := by first | (rw [hji73] at H; exact H) | (simp only [hji73] at H ⊢; exact H)
                            (try rw [hji73] at A63)
                            (try rw [hji73] at A64)
                            have hji73_ : (if x7_3 < t20021 then t20021 else x7_3) = ji73 := hji73
                            (try (have hji73_n := hji73_; simp only [Int.ofNat_lt] at hji73_n))
                            have H' := Aside0.mk H
                            clear H
                            have p20019 : 0 ≤ (x77_3 : Int) := of_decide_eq_true (by first | (with_reducible assumption) | assumption)
                            have q20019 : x77_3 < (t20002.length : Int) := of_decide_eq_true (by first | (with_reducible assumption) | assumption)
                            obtain ⟨ad20019, e20019, hx20019_0⟩ := Kd.at_string (Kd.R_reads' HO_75.out).2.2 x77_3 p20019 q20019
                            cases e20019
                            replace p20019 := eq_true p20019
                            replace q20019 := eq_true q20019
                            go_wp2_with (first | (go_at_call 19; (with_reducible refine (impl_SizeOfTerm.calls (rdOf ByteArray.empty t20002 x77_3) t20020 _ A63.out).mono ?_); rintro e w74 ⟨rfl, hb⟩; have n0_ := Aside0.mk (Kd.R_below (by (with_reducible repeat (first | apply Kd.R_alloc | apply Kd.R_drewN | apply Kd.R_drew)); exact HO_4.out) hb); have n1_ := Aside0.mk (Kd.R_below (by (with_reducible repeat (first | apply Kd.R_alloc | apply Kd.R_drewN | apply Kd.R_drew)); exact HO_75.out) hb); have n2_ := Aside0.mk (below_step (by repeat (first | (with_reducible first | exact HB.out | apply below_alloc | apply pw_below_drewN | apply below_drew1) | exact HB.out)) hb); clear HO_4; clear HO_75; clear HB; have HO_4 := n0_; have HO_75 := n1_; have HB := n2_; clear n0_ n1_ n2_; (try clear hb); (try clear hb2); (try clear hk); (try clear hi)) | (go_at_call 21; (with_reducible refine (impl_LevelsOf.calls (rdOf ByteArray.empty t20002 x77_3) t20021 _ A64.out).mono ?_); rintro e w75 ⟨rfl, hb⟩; have n0_ := Aside0.mk (Kd.R_below (by (with_reducible repeat (first | apply Kd.R_alloc | apply Kd.R_drewN | apply Kd.R_drew)); exact HO_4.out) hb); have n1_ := Aside0.mk (Kd.R_below (by (with_reducible repeat (first | apply Kd.R_alloc | apply Kd.R_drewN | apply Kd.R_drew)); exact HO_75.out) hb); have n2_ := Aside0.mk (below_step (by repeat (first | (with_reducible first | exact HB.out | apply below_alloc | apply pw_below_drewN | apply below_drew1) | exact HB.out)) hb); clear HO_4; clear HO_75; clear HB; have HO_4 := n0_; have HO_75 := n1_; have HB := n2_; clear n0_ n1_ n2_; (try clear hb); (try clear hb2); (try clear hk); (try clear hi)))
                            repeat (go_quiet (first | (go_at_call 19; (with_reducible refine (impl_SizeOfTerm.calls (rdOf ByteArray.empty t20002 x77_3) t20020 _ A63.out).mono ?_); rintro e w74 ⟨rfl, hb⟩; have n0_ := Aside0.mk (Kd.R_below (by (with_reducible repeat (first | apply Kd.R_alloc | apply Kd.R_drewN | apply Kd.R_drew)); exact HO_4.out) hb); have n1_ := Aside0.mk (Kd.R_below (by (with_reducible repeat (first | apply Kd.R_alloc | apply Kd.R_drewN | apply Kd.R_drew)); exact HO_75.out) hb); have n2_ := Aside0.mk (below_step (by repeat (first | (with_reducible first | exact HB.out | apply below_alloc | apply pw_below_drewN | apply below_drew1) | exact HB.out)) hb); clear HO_4; clear HO_75; clear HB; have HO_4 := n0_; have HO_75 := n1_; have HB := n2_; clear n0_ n1_ n2_; (try clear hb); (try clear hb2); (try clear hk); (try clear hi)) | (go_at_call 21; (with_reducible refine (impl_LevelsOf.calls (rdOf ByteArray.empty t20002 x77_3) t20021 _ A64.out).mono ?_); rintro e w75 ⟨rfl, hb⟩; have n0_ := Aside0.mk (Kd.R_below (by (with_reducible repeat (first | apply Kd.R_alloc | apply Kd.R_drewN | apply Kd.R_drew)); exact HO_4.out) hb); have n1_ := Aside0.mk (Kd.R_below (by (with_reducible repeat (first | apply Kd.R_alloc | apply Kd.R_drewN | apply Kd.R_drew)); exact HO_75.out) hb); have n2_ := Aside0.mk (below_step (by repeat (first | (with_reducible first | exact HB.out | apply below_alloc | apply pw_below_drewN | apply below_drew1) | exact HB.out)) hb); clear HO_4; clear HO_75; clear HB; have HO_4 := n0_; have HO_75 := n1_; have HB := n2_; clear n0_ n1_ n2_; (try clear hb); (try clear hb2); (try clear hk); (try clear hi))); try go_wp2_with (first | (go_at_call 19; (with_reducible refine (impl_SizeOfTerm.calls (rdOf ByteArray.empty t20002 x77_3) t20020 _ A63.out).mono ?_); rintro e w74 ⟨rfl, hb⟩; have n0_ := Aside0.mk (Kd.R_below (by (with_reducible repeat (first | apply Kd.R_alloc | apply Kd.R_drewN | apply Kd.R_drew)); exact HO_4.out) hb); have n1_ := Aside0.mk (Kd.R_below (by (with_reducible repeat (first | apply Kd.R_alloc | apply Kd.R_drewN | apply Kd.R_drew)); exact HO_75.out) hb); have n2_ := Aside0.mk (below_step (by repeat (first | (with_reducible first | exact HB.out | apply below_alloc | apply pw_below_drewN | apply below_drew1) | exact HB.out)) hb); clear HO_4; clear HO_75; clear HB; have HO_4 := n0_; have HO_75 := n1_; have HB := n2_; clear n0_ n1_ n2_; (try clear hb); (try clear hb2); (try clear hk); (try clear hi)) | (go_at_call 21; (with_reducible refine (impl_LevelsOf.calls (rdOf ByteArray.empty t20002 x77_3) t20021 _ A64.out).mono ?_); rintro e w75 ⟨rfl, hb⟩; have n0_ := Aside0.mk (Kd.R_below (by (with_reducible repeat (first | apply Kd.R_alloc | apply Kd.R_drewN | apply Kd.R_drew)); exact HO_4.out) hb); have n1_ := Aside0.mk (Kd.R_below (by (with_reducible repeat (first | apply Kd.R_alloc | apply Kd.R_drewN | apply Kd.R_drew)); exact HO_75.out) hb); have n2_ := Aside0.mk (below_step (by repeat (first | (with_reducible first | exact HB.out | apply below_alloc | apply pw_below_drewN | apply below_drew1) | exact HB.out)) hb); clear HO_4; clear HO_75; clear HB; have HO_4 := n0_; have HO_75 := n1_; have HB := n2_; clear n0_ n1_ n2_; (try clear hb); (try clear hb2); (try clear hk); (try clear hi))))
                            go_roundg k3
                            case measure => have := HJ5.out; have := HJ56.out; have := HK3.out; omega
                            case rel => exact ⟨(wrap64 (x6_3 + t20020)), (ji73), (wrap64 (x77_3 + 1)), (by first | rfl | (simp; done) | (simp [*]; done)), (by first | rfl | (simp; done) | (simp only [← hji73] <;> (first | rfl | simp)) | (simp [*]; done)), (by first | rfl | (simp; done) | (simp [*]; done)), H', ⟨by have := HJ5.out; have := HJ56.out; have := HK3.out; omega⟩, ⟨by (with_reducible repeat (first | apply Kd.R_alloc | apply Kd.R_drewN | apply Kd.R_drew)); exact HO_4.out⟩, ⟨by (with_reducible repeat (first | apply Kd.R_alloc | apply Kd.R_drewN | apply Kd.R_drew)); exact HO_75.out⟩, ⟨by repeat (first | (with_reducible first | exact HB.out | apply below_alloc | apply pw_below_drewN | apply below_drew1) | exact HB.out)⟩⟩
                        · rw [if_neg c62] at H
                          exact absurd H (by simp)
                      · rw [if_neg c61] at H
                        exact absurd H (by simp)
                    · rw [if_neg c60] at H
                      have c60b0 : decide (x77_3 < (t20002.length : Int)) = false := decide_eq_false c60
                      clear c60
                      by_cases c76 : (t20002.length : Int) = 1
                      · rw [if_pos c76] at H
                        have c76b0 : ((t20002.length : Int) == 1) = true := beq_iff_eq.mpr c76
                        have c76b1 : ((t20002.length : Int) != 1) = false := bne_eq_false_iff_eq.mpr c76
                        clear c76
                        by_cases c77 : 0 < (t20002.length : Int)
                        · rw [if_pos c77] at H
                          have c77b0 : decide (0 < (t20002.length : Int)) = true := decide_eq_true c77
                          have c77b1 : decide (0 < t20002.length) = true := decide_eq_true (by omega)
                          clear c77
                          by_cases c78 : t20005.size + (rdOf ByteArray.empty t20002 0).size ≤ 9223372036854775807
                          · rw [if_pos c78] at H
                            have c78b0 := eq_true c78
                            have c78b1 : decide (t20005.size + (rdOf ByteArray.empty t20002 0).size ≤ 9223372036854775807) = true := decide_eq_true c78
                            try have c78b2 : (9223372036854775807 < t20005.size + (rdOf ByteArray.empty t20002 0).size) = False := eq_false (Nat.not_lt.2 c78)
                            have c78n := c78; (try simp only [ByteArray.size_append, ba1_size, ByteArray.size_extract] at c78n)
                            by_cases c79 : (t20005 ++ (rdOf ByteArray.empty t20002 0)).toList = t20001.toList
                            · rw [if_pos c79] at H
                              have c79b0 : ((t20005 ++ (rdOf ByteArray.empty t20002 0)).toList == t20001.toList) = true := beq_iff_eq.mpr c79
                              have c79b1 : ((t20005 ++ (rdOf ByteArray.empty t20002 0)).toList != t20001.toList) = false := bne_eq_false_iff_eq.mpr c79
                              clear c79
                              replace H := Option.bind_eq_some_iff.mp H
                              obtain ⟨t20023, A800, H⟩ := H
                              replace H : (if t20023 = x6_3 then ((impl_LevelsOf.f t20001).bind fun t20024 => (some (t20024 == x7_3))) else (none)) = some r := H
                              have A80 := Aside0.mk A800
                              clear A800
                              by_cases c81 : t20023 = x6_3
                              · rw [if_pos c81] at H
                                have c81b0 : (t20023 == x6_3) = true := beq_iff_eq.mpr c81
                                have c81b1 : (t20023 != x6_3) = false := bne_eq_false_iff_eq.mpr c81
                                clear c81
                                replace H := Option.bind_eq_some_iff.mp H
                                obtain ⟨t20024, A820, H⟩ := H
                                replace H : (some (t20024 == x7_3)) = some r := H
                                have A82 := Aside0.mk A820
                                clear A820
                                obtain rfl := Option.some.inj H
                                have p20022 : 0 ≤ (0 : Int) := (by omega)
                                have q20022 : 0 < (t20002.length : Int) := of_decide_eq_true (by first | (with_reducible assumption) | assumption)
                                obtain ⟨ad20022, e20022, hx20022_0⟩ := Kd.at_string (Kd.R_reads' HO_4.out).2.2 0 p20022 q20022
                                cases e20022
                                have qi20022 : (0 < t20002.length) = True := eq_true (by omega)
                                (try rw [show ((0 : Int)).toNat = 0 from rfl] at hx20022_0)
                                (try rw [Addr.add_zero'] at hx20022_0)
                                replace p20022 := eq_true p20022
                                replace q20022 := eq_true q20022
                                go_wp2_with (first | (go_at_call 19; (with_reducible refine (impl_SizeOfTerm.calls t20001 t20023 _ A80.out).mono ?_); rintro e w83 ⟨rfl, hb⟩; have n0_ := Aside0.mk (Kd.R_below (by (with_reducible repeat (first | apply Kd.R_alloc | apply Kd.R_drewN | apply Kd.R_drew)); exact HO_4.out) hb); have n1_ := Aside0.mk (Kd.R_below (by (with_reducible repeat (first | apply Kd.R_alloc | apply Kd.R_drewN | apply Kd.R_drew)); exact HO_75.out) hb); have n2_ := Aside0.mk (below_step (by repeat (first | (with_reducible first | exact HB.out | apply below_alloc | apply pw_below_drewN | apply below_drew1) | exact HB.out)) hb); clear HO_4; clear HO_75; clear HB; have HO_4 := n0_; have HO_75 := n1_; have HB := n2_; clear n0_ n1_ n2_; (try clear hb); (try clear hb2); (try clear hk); (try clear hi)) | (go_at_call 21; (with_reducible refine (impl_LevelsOf.calls t20001 t20024 _ A82.out).mono ?_); rintro e w84 ⟨rfl, hb⟩; have n0_ := Aside0.mk (Kd.R_below (by (with_reducible repeat (first | apply Kd.R_alloc | apply Kd.R_drewN | apply Kd.R_drew)); exact HO_4.out) hb); have n1_ := Aside0.mk (Kd.R_below (by (with_reducible repeat (first | apply Kd.R_alloc | apply Kd.R_drewN | apply Kd.R_drew)); exact HO_75.out) hb); have n2_ := Aside0.mk (below_step (by repeat (first | (with_reducible first | exact HB.out | apply below_alloc | apply pw_below_drewN | apply below_drew1) | exact HB.out)) hb); clear HO_4; clear HO_75; clear HB; have HO_4 := n0_; have HO_75 := n1_; have HB := n2_; clear n0_ n1_ n2_; (try clear hb); (try clear hb2); (try clear hk); (try clear hi)))
                                repeat (go_quiet (first | (go_at_call 19; (with_reducible refine (impl_SizeOfTerm.calls t20001 t20023 _ A80.out).mono ?_); rintro e w83 ⟨rfl, hb⟩; have n0_ := Aside0.mk (Kd.R_below (by (with_reducible repeat (first | apply Kd.R_alloc | apply Kd.R_drewN | apply Kd.R_drew)); exact HO_4.out) hb); have n1_ := Aside0.mk (Kd.R_below (by (with_reducible repeat (first | apply Kd.R_alloc | apply Kd.R_drewN | apply Kd.R_drew)); exact HO_75.out) hb); have n2_ := Aside0.mk (below_step (by repeat (first | (with_reducible first | exact HB.out | apply below_alloc | apply pw_below_drewN | apply below_drew1) | exact HB.out)) hb); clear HO_4; clear HO_75; clear HB; have HO_4 := n0_; have HO_75 := n1_; have HB := n2_; clear n0_ n1_ n2_; (try clear hb); (try clear hb2); (try clear hk); (try clear hi)) | (go_at_call 21; (with_reducible refine (impl_LevelsOf.calls t20001 t20024 _ A82.out).mono ?_); rintro e w84 ⟨rfl, hb⟩; have n0_ := Aside0.mk (Kd.R_below (by (with_reducible repeat (first | apply Kd.R_alloc | apply Kd.R_drewN | apply Kd.R_drew)); exact HO_4.out) hb); have n1_ := Aside0.mk (Kd.R_below (by (with_reducible repeat (first | apply Kd.R_alloc | apply Kd.R_drewN | apply Kd.R_drew)); exact HO_75.out) hb); have n2_ := Aside0.mk (below_step (by repeat (first | (with_reducible first | exact HB.out | apply below_alloc | apply pw_below_drewN | apply below_drew1) | exact HB.out)) hb); clear HO_4; clear HO_75; clear HB; have HO_4 := n0_; have HO_75 := n1_; have HB := n2_; clear n0_ n1_ n2_; (try clear hb); (try clear hb2); (try clear hk); (try clear hi))); try go_wp2_with (first | (go_at_call 19; (with_reducible refine (impl_SizeOfTerm.calls t20001 t20023 _ A80.out).mono ?_); rintro e w83 ⟨rfl, hb⟩; have n0_ := Aside0.mk (Kd.R_below (by (with_reducible repeat (first | apply Kd.R_alloc | apply Kd.R_drewN | apply Kd.R_drew)); exact HO_4.out) hb); have n1_ := Aside0.mk (Kd.R_below (by (with_reducible repeat (first | apply Kd.R_alloc | apply Kd.R_drewN | apply Kd.R_drew)); exact HO_75.out) hb); have n2_ := Aside0.mk (below_step (by repeat (first | (with_reducible first | exact HB.out | apply below_alloc | apply pw_below_drewN | apply below_drew1) | exact HB.out)) hb); clear HO_4; clear HO_75; clear HB; have HO_4 := n0_; have HO_75 := n1_; have HB := n2_; clear n0_ n1_ n2_; (try clear hb); (try clear hb2); (try clear hk); (try clear hi)) | (go_at_call 21; (with_reducible refine (impl_LevelsOf.calls t20001 t20024 _ A82.out).mono ?_); rintro e w84 ⟨rfl, hb⟩; have n0_ := Aside0.mk (Kd.R_below (by (with_reducible repeat (first | apply Kd.R_alloc | apply Kd.R_drewN | apply Kd.R_drew)); exact HO_4.out) hb); have n1_ := Aside0.mk (Kd.R_below (by (with_reducible repeat (first | apply Kd.R_alloc | apply Kd.R_drewN | apply Kd.R_drew)); exact HO_75.out) hb); have n2_ := Aside0.mk (below_step (by repeat (first | (with_reducible first | exact HB.out | apply below_alloc | apply pw_below_drewN | apply below_drew1) | exact HB.out)) hb); clear HO_4; clear HO_75; clear HB; have HO_4 := n0_; have HO_75 := n1_; have HB := n2_; clear n0_ n1_ n2_; (try clear hb); (try clear hb2); (try clear hk); (try clear hi))))
                                go_ret
                                exact ⟨by first | rfl | (simp [errW_none, errW_some] <;> rfl) | (simp [*, errW_none, errW_some] <;> rfl), by repeat (first | (with_reducible first | exact HB.out | apply below_alloc | apply pw_below_drewN | apply below_drew1) | exact HB.out)⟩
                              · rw [if_neg c81] at H
                                exact absurd H (by simp)
                            · rw [if_neg c79] at H
                              exact absurd H (by simp)
                          · rw [if_neg c78] at H
                            exact absurd H (by simp)
                        · rw [if_neg c77] at H
                          exact absurd H (by simp)
                      · rw [if_neg c76] at H
                        have c76b0 : ((t20002.length : Int) == 1) = false := beq_eq_false_iff_ne.mpr c76
                        have c76b1 : ((t20002.length : Int) != 1) = true := bne_iff_ne.mpr c76
                        by_cases c85 : x8_56 = true
                        · subst c85
                          have H1 : (if 1 ≤ 2 then (if 2 ≤ (t20001.size : Int) then (if t20005.size + (t20001.extract 1 2).size ≤ 9223372036854775807 then (if (t20005 ++ (t20001.extract 1 2)).size + 1 ≤ 9223372036854775807 then (if 0 < (t20002.length : Int) then (if ((t20005 ++ (t20001.extract 1 2)) ++ (⟨#[58]⟩ : ByteArray)).size + (rdOf ByteArray.empty t20002 0).size ≤ 9223372036854775807 then (if (((t20005 ++ (t20001.extract 1 2)) ++ (⟨#[58]⟩ : ByteArray)) ++ (rdOf ByteArray.empty t20002 0)).size + 1 ≤ 9223372036854775807 then (if 1 < (t20002.length : Int) then (if ((((t20005 ++ (t20001.extract 1 2)) ++ (⟨#[58]⟩ : ByteArray)) ++ (rdOf ByteArray.empty t20002 0)) ++ (⟨#[62]⟩ : ByteArray)).size + (rdOf ByteArray.empty t20002 1).size ≤ 9223372036854775807 then (if 0 ≤ (wrap64 ((t20001.size : Int) - 1)) then (if (wrap64 ((t20001.size : Int) - 1)) ≤ (t20001.size : Int) then (if (((((t20005 ++ (t20001.extract 1 2)) ++ (⟨#[58]⟩ : ByteArray)) ++ (rdOf ByteArray.empty t20002 0)) ++ (⟨#[62]⟩ : ByteArray)) ++ (rdOf ByteArray.empty t20002 1)).size + (t20001.extract ((wrap64 ((t20001.size : Int) - 1)) : Int).toNat t20001.size).size ≤ 9223372036854775807 then (if ((((((t20005 ++ (t20001.extract 1 2)) ++ (⟨#[58]⟩ : ByteArray)) ++ (rdOf ByteArray.empty t20002 0)) ++ (⟨#[62]⟩ : ByteArray)) ++ (rdOf ByteArray.empty t20002 1)) ++ (t20001.extract ((wrap64 ((t20001.size : Int) - 1)) : Int).toNat t20001.size)).toList = t20001.toList then ((impl_SizeOfTerm.f t20001).bind fun t20027 => (if t20027 = x6_3 then ((impl_LevelsOf.f t20001).bind fun t20028 => (some (t20028 == x7_3))) else (none))) else (none)) else (none)) else (none)) else (none)) else (none)) else (none)) else (none)) else (none)) else (none)) else (none)) else (none)) else (none)) else (none)) = some r := by rw [if_pos rfl] at H; exact H
                          clear H
                          have H := H1
                          clear H1
                          by_cases c86 : 1 ≤ 2
                          · rw [if_pos c86] at H
                            have c86b0 := eq_true c86
                            have c86b1 : decide (1 ≤ 2) = true := decide_eq_true c86
                            clear c86
                            by_cases c87 : 2 ≤ (t20001.size : Int)
                            · rw [if_pos c87] at H
                              have c87b0 := eq_true c87
                              have c87b1 : decide (2 ≤ (t20001.size : Int)) = true := decide_eq_true c87
                              clear c87
                              by_cases c88 : t20005.size + (t20001.extract 1 2).size ≤ 9223372036854775807
                              · rw [if_pos c88] at H
                                have c88b0 := eq_true c88
                                have c88b1 : decide (t20005.size + (t20001.extract 1 2).size ≤ 9223372036854775807) = true := decide_eq_true c88
                                try have c88b2 : (9223372036854775807 < t20005.size + (t20001.extract 1 2).size) = False := eq_false (Nat.not_lt.2 c88)
                                have c88n := c88; (try simp only [ByteArray.size_append, ba1_size, ByteArray.size_extract] at c88n)
                                by_cases c89 : (t20005 ++ (t20001.extract 1 2)).size + 1 ≤ 9223372036854775807
                                · rw [if_pos c89] at H
                                  have c89b0 := eq_true c89
                                  have c89b1 : decide ((t20005 ++ (t20001.extract 1 2)).size + 1 ≤ 9223372036854775807) = true := decide_eq_true c89
                                  try have c89b2 : (9223372036854775807 < (t20005 ++ (t20001.extract 1 2)).size + 1) = False := eq_false (Nat.not_lt.2 c89)
                                  have c89n := c89; (try simp only [ByteArray.size_append, ba1_size, ByteArray.size_extract] at c89n)
                                  by_cases c90 : 0 < (t20002.length : Int)
                                  · rw [if_pos c90] at H
                                    have c90b0 : decide (0 < (t20002.length : Int)) = true := decide_eq_true c90
                                    have c90b1 : decide (0 < t20002.length) = true := decide_eq_true (by omega)
                                    clear c90
                                    by_cases c91 : ((t20005 ++ (t20001.extract 1 2)) ++ (⟨#[58]⟩ : ByteArray)).size + (rdOf ByteArray.empty t20002 0).size ≤ 9223372036854775807
                                    · rw [if_pos c91] at H
                                      have c91b0 := eq_true c91
                                      have c91b1 : decide (((t20005 ++ (t20001.extract 1 2)) ++ (⟨#[58]⟩ : ByteArray)).size + (rdOf ByteArray.empty t20002 0).size ≤ 9223372036854775807) = true := decide_eq_true c91
                                      try have c91b2 : (9223372036854775807 < ((t20005 ++ (t20001.extract 1 2)) ++ (⟨#[58]⟩ : ByteArray)).size + (rdOf ByteArray.empty t20002 0).size) = False := eq_false (Nat.not_lt.2 c91)
                                      have c91n := c91; (try simp only [ByteArray.size_append, ba1_size, ByteArray.size_extract] at c91n)
                                      by_cases c92 : (((t20005 ++ (t20001.extract 1 2)) ++ (⟨#[58]⟩ : ByteArray)) ++ (rdOf ByteArray.empty t20002 0)).size + 1 ≤ 9223372036854775807
                                      · rw [if_pos c92] at H
                                        have c92b0 := eq_true c92
                                        have c92b1 : decide ((((t20005 ++ (t20001.extract 1 2)) ++ (⟨#[58]⟩ : ByteArray)) ++ (rdOf ByteArray.empty t20002 0)).size + 1 ≤ 9223372036854775807) = true := decide_eq_true c92
                                        try have c92b2 : (9223372036854775807 < (((t20005 ++ (t20001.extract 1 2)) ++ (⟨#[58]⟩ : ByteArray)) ++ (rdOf ByteArray.empty t20002 0)).size + 1) = False := eq_false (Nat.not_lt.2 c92)
                                        have c92n := c92; (try simp only [ByteArray.size_append, ba1_size, ByteArray.size_extract] at c92n)
                                        by_cases c93 : 1 < (t20002.length : Int)
                                        · rw [if_pos c93] at H
                                          have c93b0 : decide (1 < (t20002.length : Int)) = true := decide_eq_true c93
                                          have c93b1 : decide (1 < t20002.length) = true := decide_eq_true (by omega)
                                          clear c93
                                          by_cases c94 : ((((t20005 ++ (t20001.extract 1 2)) ++ (⟨#[58]⟩ : ByteArray)) ++ (rdOf ByteArray.empty t20002 0)) ++ (⟨#[62]⟩ : ByteArray)).size + (rdOf ByteArray.empty t20002 1).size ≤ 9223372036854775807
                                          · rw [if_pos c94] at H
                                            have c94b0 := eq_true c94
                                            have c94b1 : decide (((((t20005 ++ (t20001.extract 1 2)) ++ (⟨#[58]⟩ : ByteArray)) ++ (rdOf ByteArray.empty t20002 0)) ++ (⟨#[62]⟩ : ByteArray)).size + (rdOf ByteArray.empty t20002 1).size ≤ 9223372036854775807) = true := decide_eq_true c94
                                            try have c94b2 : (9223372036854775807 < ((((t20005 ++ (t20001.extract 1 2)) ++ (⟨#[58]⟩ : ByteArray)) ++ (rdOf ByteArray.empty t20002 0)) ++ (⟨#[62]⟩ : ByteArray)).size + (rdOf ByteArray.empty t20002 1).size) = False := eq_false (Nat.not_lt.2 c94)
                                            have c94n := c94; (try simp only [ByteArray.size_append, ba1_size, ByteArray.size_extract] at c94n)
                                            obtain ⟨ji95, hji95⟩ : ∃ j_ : Int, (wrap64 ((t20001.size : Int) - 1)) = j_ := ⟨_, rfl⟩
                                            replace H : (if 0 ≤ (ji95) then (if (ji95) ≤ (t20001.size : Int) then (if (((((t20005 ++ (t20001.extract 1 2)) ++ (⟨#[58]⟩ : ByteArray)) ++ (rdOf ByteArray.empty t20002 0)) ++ (⟨#[62]⟩ : ByteArray)) ++ (rdOf ByteArray.empty t20002 1)).size + (t20001.extract ((ji95) : Int).toNat t20001.size).size ≤ 9223372036854775807 then (if ((((((t20005 ++ (t20001.extract 1 2)) ++ (⟨#[58]⟩ : ByteArray)) ++ (rdOf ByteArray.empty t20002 0)) ++ (⟨#[62]⟩ : ByteArray)) ++ (rdOf ByteArray.empty t20002 1)) ++ (t20001.extract ((ji95) : Int).toNat t20001.size)).toList = t20001.toList then ((impl_SizeOfTerm.f t20001).bind fun t20027 => (if t20027 = x6_3 then ((impl_LevelsOf.f t20001).bind fun t20028 => (some (t20028 == x7_3))) else (none))) else (none)) else (none)) else (none)) else (none)) = some r := by first | (rw [hji95] at H; exact H) | (simp only [hji95] at H ⊢; exact H)
                                            have hji95w : (IntKind.i64.wrap ((t20001.size : Int) - 1)) = ji95 := (i64_w _).trans hji95
                                            by_cases c96 : 0 ≤ (ji95)
                                            · rw [if_pos c96] at H
                                              have c96b0 := eq_true c96
                                              have c96b1 : decide (0 ≤ (ji95)) = true := decide_eq_true c96
                                              clear c96
                                              by_cases c97 : (ji95) ≤ (t20001.size : Int)
                                              · rw [if_pos c97] at H
                                                have c97b0 := eq_true c97
                                                have c97b1 : decide ((ji95) ≤ (t20001.size : Int)) = true := decide_eq_true c97
                                                clear c97
                                                by_cases c98 : (((((t20005 ++ (t20001.extract 1 2)) ++ (⟨#[58]⟩ : ByteArray)) ++ (rdOf ByteArray.empty t20002 0)) ++ (⟨#[62]⟩ : ByteArray)) ++ (rdOf ByteArray.empty t20002 1)).size + (t20001.extract ((ji95) : Int).toNat t20001.size).size ≤ 9223372036854775807
                                                · rw [if_pos c98] at H
                                                  have c98b0 := eq_true c98
                                                  have c98b1 : decide ((((((t20005 ++ (t20001.extract 1 2)) ++ (⟨#[58]⟩ : ByteArray)) ++ (rdOf ByteArray.empty t20002 0)) ++ (⟨#[62]⟩ : ByteArray)) ++ (rdOf ByteArray.empty t20002 1)).size + (t20001.extract ((ji95) : Int).toNat t20001.size).size ≤ 9223372036854775807) = true := decide_eq_true c98
                                                  try have c98b2 : (9223372036854775807 < (((((t20005 ++ (t20001.extract 1 2)) ++ (⟨#[58]⟩ : ByteArray)) ++ (rdOf ByteArray.empty t20002 0)) ++ (⟨#[62]⟩ : ByteArray)) ++ (rdOf ByteArray.empty t20002 1)).size + (t20001.extract ((ji95) : Int).toNat t20001.size).size) = False := eq_false (Nat.not_lt.2 c98)
                                                  have c98n := c98; (try simp only [ByteArray.size_append, ba1_size, ByteArray.size_extract] at c98n)
                                                  by_cases c99 : ((((((t20005 ++ (t20001.extract 1 2)) ++ (⟨#[58]⟩ : ByteArray)) ++ (rdOf ByteArray.empty t20002 0)) ++ (⟨#[62]⟩ : ByteArray)) ++ (rdOf ByteArray.empty t20002 1)) ++ (t20001.extract ((ji95) : Int).toNat t20001.size)).toList = t20001.toList
                                                  · rw [if_pos c99] at H
                                                    have c99b0 : (((((((t20005 ++ (t20001.extract 1 2)) ++ (⟨#[58]⟩ : ByteArray)) ++ (rdOf ByteArray.empty t20002 0)) ++ (⟨#[62]⟩ : ByteArray)) ++ (rdOf ByteArray.empty t20002 1)) ++ (t20001.extract ((ji95) : Int).toNat t20001.size)).toList == t20001.toList) = true := beq_iff_eq.mpr c99
                                                    have c99b1 : (((((((t20005 ++ (t20001.extract 1 2)) ++ (⟨#[58]⟩ : ByteArray)) ++ (rdOf ByteArray.empty t20002 0)) ++ (⟨#[62]⟩ : ByteArray)) ++ (rdOf ByteArray.empty t20002 1)) ++ (t20001.extract ((ji95) : Int).toNat t20001.size)).toList != t20001.toList) = false := bne_eq_false_iff_eq.mpr c99
                                                    clear c99
                                                    replace H := Option.bind_eq_some_iff.mp H
                                                    obtain ⟨t20027, A1000, H⟩ := H
                                                    replace H : (if t20027 = x6_3 then ((impl_LevelsOf.f t20001).bind fun t20028 => (some (t20028 == x7_3))) else (none)) = some r := H
                                                    have A100 := Aside0.mk A1000
                                                    clear A1000
                                                    by_cases c101 : t20027 = x6_3
                                                    · rw [if_pos c101] at H
                                                      have c101b0 : (t20027 == x6_3) = true := beq_iff_eq.mpr c101
                                                      have c101b1 : (t20027 != x6_3) = false := bne_eq_false_iff_eq.mpr c101
                                                      clear c101
                                                      replace H := Option.bind_eq_some_iff.mp H
                                                      obtain ⟨t20028, A1020, H⟩ := H
                                                      replace H : (some (t20028 == x7_3)) = some r := H
                                                      have A102 := Aside0.mk A1020
                                                      clear A1020
                                                      obtain rfl := Option.some.inj H
                                                      have p20025 : 0 ≤ (0 : Int) := (by omega)
                                                      have q20025 : 0 < (t20002.length : Int) := of_decide_eq_true (by first | (with_reducible assumption) | assumption)
                                                      obtain ⟨ad20025, e20025, hx20025_0⟩ := Kd.at_string (Kd.R_reads' HO_4.out).2.2 0 p20025 q20025
                                                      cases e20025
                                                      have qi20025 : (0 < t20002.length) = True := eq_true (by omega)
                                                      (try rw [show ((0 : Int)).toNat = 0 from rfl] at hx20025_0)
                                                      (try rw [Addr.add_zero'] at hx20025_0)
                                                      replace p20025 := eq_true p20025
                                                      replace q20025 := eq_true q20025
                                                      have p20026 : 0 ≤ (1 : Int) := (by omega)
                                                      have q20026 : 1 < (t20002.length : Int) := of_decide_eq_true (by first | (with_reducible assumption) | assumption)
                                                      obtain ⟨ad20026, e20026, hx20026_0⟩ := Kd.at_string (Kd.R_reads' HO_4.out).2.2 1 p20026 q20026
                                                      obtain rfl : ad20025 = ad20026 := (by injection e20026)
                                                      (try simp only [show (1 : Int).toNat = 1 from rfl, Nat.reduceMul, Nat.reduceEqDiff, Go.Addr.add, ↓reduceIte] at hx20026_0)
                                                      have qi20026 : (1 < t20002.length) = True := eq_true (by omega)
                                                      (try rw [show ((1 : Int)).toNat = 1 from rfl] at hx20026_0)
                                                      replace p20026 := eq_true p20026
                                                      replace q20026 := eq_true q20026
                                                      go_wp2_with (first | (go_at_call 19; (with_reducible refine (impl_SizeOfTerm.calls t20001 t20027 _ A100.out).mono ?_); rintro e w103 ⟨rfl, hb⟩; have n0_ := Aside0.mk (Kd.R_below (by (with_reducible repeat (first | apply Kd.R_alloc | apply Kd.R_drewN | apply Kd.R_drew)); exact HO_4.out) hb); have n1_ := Aside0.mk (Kd.R_below (by (with_reducible repeat (first | apply Kd.R_alloc | apply Kd.R_drewN | apply Kd.R_drew)); exact HO_75.out) hb); have n2_ := Aside0.mk (below_step (by repeat (first | (with_reducible first | exact HB.out | apply below_alloc | apply pw_below_drewN | apply below_drew1) | exact HB.out)) hb); clear HO_4; clear HO_75; clear HB; have HO_4 := n0_; have HO_75 := n1_; have HB := n2_; clear n0_ n1_ n2_; (try clear hb); (try clear hb2); (try clear hk); (try clear hi)) | (go_at_call 21; (with_reducible refine (impl_LevelsOf.calls t20001 t20028 _ A102.out).mono ?_); rintro e w104 ⟨rfl, hb⟩; have n0_ := Aside0.mk (Kd.R_below (by (with_reducible repeat (first | apply Kd.R_alloc | apply Kd.R_drewN | apply Kd.R_drew)); exact HO_4.out) hb); have n1_ := Aside0.mk (Kd.R_below (by (with_reducible repeat (first | apply Kd.R_alloc | apply Kd.R_drewN | apply Kd.R_drew)); exact HO_75.out) hb); have n2_ := Aside0.mk (below_step (by repeat (first | (with_reducible first | exact HB.out | apply below_alloc | apply pw_below_drewN | apply below_drew1) | exact HB.out)) hb); clear HO_4; clear HO_75; clear HB; have HO_4 := n0_; have HO_75 := n1_; have HB := n2_; clear n0_ n1_ n2_; (try clear hb); (try clear hb2); (try clear hk); (try clear hi)))
                                                      repeat (go_quiet (first | (go_at_call 19; (with_reducible refine (impl_SizeOfTerm.calls t20001 t20027 _ A100.out).mono ?_); rintro e w103 ⟨rfl, hb⟩; have n0_ := Aside0.mk (Kd.R_below (by (with_reducible repeat (first | apply Kd.R_alloc | apply Kd.R_drewN | apply Kd.R_drew)); exact HO_4.out) hb); have n1_ := Aside0.mk (Kd.R_below (by (with_reducible repeat (first | apply Kd.R_alloc | apply Kd.R_drewN | apply Kd.R_drew)); exact HO_75.out) hb); have n2_ := Aside0.mk (below_step (by repeat (first | (with_reducible first | exact HB.out | apply below_alloc | apply pw_below_drewN | apply below_drew1) | exact HB.out)) hb); clear HO_4; clear HO_75; clear HB; have HO_4 := n0_; have HO_75 := n1_; have HB := n2_; clear n0_ n1_ n2_; (try clear hb); (try clear hb2); (try clear hk); (try clear hi)) | (go_at_call 21; (with_reducible refine (impl_LevelsOf.calls t20001 t20028 _ A102.out).mono ?_); rintro e w104 ⟨rfl, hb⟩; have n0_ := Aside0.mk (Kd.R_below (by (with_reducible repeat (first | apply Kd.R_alloc | apply Kd.R_drewN | apply Kd.R_drew)); exact HO_4.out) hb); have n1_ := Aside0.mk (Kd.R_below (by (with_reducible repeat (first | apply Kd.R_alloc | apply Kd.R_drewN | apply Kd.R_drew)); exact HO_75.out) hb); have n2_ := Aside0.mk (below_step (by repeat (first | (with_reducible first | exact HB.out | apply below_alloc | apply pw_below_drewN | apply below_drew1) | exact HB.out)) hb); clear HO_4; clear HO_75; clear HB; have HO_4 := n0_; have HO_75 := n1_; have HB := n2_; clear n0_ n1_ n2_; (try clear hb); (try clear hb2); (try clear hk); (try clear hi))); try go_wp2_with (first | (go_at_call 19; (with_reducible refine (impl_SizeOfTerm.calls t20001 t20027 _ A100.out).mono ?_); rintro e w103 ⟨rfl, hb⟩; have n0_ := Aside0.mk (Kd.R_below (by (with_reducible repeat (first | apply Kd.R_alloc | apply Kd.R_drewN | apply Kd.R_drew)); exact HO_4.out) hb); have n1_ := Aside0.mk (Kd.R_below (by (with_reducible repeat (first | apply Kd.R_alloc | apply Kd.R_drewN | apply Kd.R_drew)); exact HO_75.out) hb); have n2_ := Aside0.mk (below_step (by repeat (first | (with_reducible first | exact HB.out | apply below_alloc | apply pw_below_drewN | apply below_drew1) | exact HB.out)) hb); clear HO_4; clear HO_75; clear HB; have HO_4 := n0_; have HO_75 := n1_; have HB := n2_; clear n0_ n1_ n2_; (try clear hb); (try clear hb2); (try clear hk); (try clear hi)) | (go_at_call 21; (with_reducible refine (impl_LevelsOf.calls t20001 t20028 _ A102.out).mono ?_); rintro e w104 ⟨rfl, hb⟩; have n0_ := Aside0.mk (Kd.R_below (by (with_reducible repeat (first | apply Kd.R_alloc | apply Kd.R_drewN | apply Kd.R_drew)); exact HO_4.out) hb); have n1_ := Aside0.mk (Kd.R_below (by (with_reducible repeat (first | apply Kd.R_alloc | apply Kd.R_drewN | apply Kd.R_drew)); exact HO_75.out) hb); have n2_ := Aside0.mk (below_step (by repeat (first | (with_reducible first | exact HB.out | apply below_alloc | apply pw_below_drewN | apply below_drew1) | exact HB.out)) hb); clear HO_4; clear HO_75; clear HB; have HO_4 := n0_; have HO_75 := n1_; have HB := n2_; clear n0_ n1_ n2_; (try clear hb); (try clear hb2); (try clear hk); (try clear hi))))
                                                      go_ret
                                                      exact ⟨by first | rfl | (simp [errW_none, errW_some] <;> rfl) | (simp only [← hji95]; first | rfl | (simp [errW_none, errW_some] <;> rfl)) | (simp [*, errW_none, errW_some] <;> rfl), by repeat (first | (with_reducible first | exact HB.out | apply below_alloc | apply pw_below_drewN | apply below_drew1) | exact HB.out)⟩
                                                    · rw [if_neg c101] at H
                                                      exact absurd H (by simp)
                                                  · rw [if_neg c99] at H
                                                    exact absurd H (by simp)
                                                · rw [if_neg c98] at H
                                                  exact absurd H (by simp)
                                              · rw [if_neg c97] at H
                                                exact absurd H (by simp)
                                            · rw [if_neg c96] at H
                                              exact absurd H (by simp)
                                          · rw [if_neg c94] at H
                                            exact absurd H (by simp)
                                        · rw [if_neg c93] at H
                                          exact absurd H (by simp)
                                      · rw [if_neg c92] at H
                                        exact absurd H (by simp)
                                    · rw [if_neg c91] at H
                                      exact absurd H (by simp)
                                  · rw [if_neg c90] at H
                                    exact absurd H (by simp)
                                · rw [if_neg c89] at H
                                  exact absurd H (by simp)
                              · rw [if_neg c88] at H
                                exact absurd H (by simp)
                            · rw [if_neg c87] at H
                              exact absurd H (by simp)
                          · rw [if_neg c86] at H
                            exact absurd H (by simp)
                        · replace c85 := Bool.eq_false_iff.mpr c85
                          subst c85
                          have H1 : (if (t20002.length : Int) = 2 then (if 0 < (t20002.length : Int) then (if 1 + (rdOf ByteArray.empty t20002 0).size ≤ 9223372036854775807 then (if ((⟨#[40]⟩ : ByteArray) ++ (rdOf ByteArray.empty t20002 0)).size + t20005.size ≤ 9223372036854775807 then (if 1 < (t20002.length : Int) then (if (((⟨#[40]⟩ : ByteArray) ++ (rdOf ByteArray.empty t20002 0)) ++ t20005).size + (rdOf ByteArray.empty t20002 1).size ≤ 9223372036854775807 then (if ((((⟨#[40]⟩ : ByteArray) ++ (rdOf ByteArray.empty t20002 0)) ++ t20005) ++ (rdOf ByteArray.empty t20002 1)).size + 1 ≤ 9223372036854775807 then (if (((((⟨#[40]⟩ : ByteArray) ++ (rdOf ByteArray.empty t20002 0)) ++ t20005) ++ (rdOf ByteArray.empty t20002 1)) ++ (⟨#[41]⟩ : ByteArray)).toList = t20001.toList then ((impl_SizeOfTerm.f t20001).bind fun t20031 => (if t20031 = x6_3 then ((impl_LevelsOf.f t20001).bind fun t20032 => (some (t20032 == x7_3))) else (none))) else (none)) else (none)) else (none)) else (none)) else (none)) else (none)) else (none)) else (if t20005.toList = t20001.toList then ((impl_SizeOfTerm.f t20001).bind fun t20033 => (if t20033 = x6_3 then ((impl_LevelsOf.f t20001).bind fun t20034 => (some (t20034 == x7_3))) else (none))) else (none))) = some r := by rw [if_neg (show ¬ (false = true) by decide)] at H; exact H
                          clear H
                          have H := H1
                          clear H1
                          by_cases c105 : (t20002.length : Int) = 2
                          · rw [if_pos c105] at H
                            have c105b0 : ((t20002.length : Int) == 2) = true := beq_iff_eq.mpr c105
                            have c105b1 : ((t20002.length : Int) != 2) = false := bne_eq_false_iff_eq.mpr c105
                            clear c105
                            by_cases c106 : 0 < (t20002.length : Int)
                            · rw [if_pos c106] at H
                              have c106b0 : decide (0 < (t20002.length : Int)) = true := decide_eq_true c106
                              have c106b1 : decide (0 < t20002.length) = true := decide_eq_true (by omega)
                              clear c106
                              by_cases c107 : 1 + (rdOf ByteArray.empty t20002 0).size ≤ 9223372036854775807
                              · rw [if_pos c107] at H
                                have c107b0 := eq_true c107
                                have c107b1 : decide (1 + (rdOf ByteArray.empty t20002 0).size ≤ 9223372036854775807) = true := decide_eq_true c107
                                try have c107b2 : (9223372036854775807 < 1 + (rdOf ByteArray.empty t20002 0).size) = False := eq_false (Nat.not_lt.2 c107)
                                have c107n := c107; (try simp only [ByteArray.size_append, ba1_size, ByteArray.size_extract] at c107n)
                                by_cases c108 : ((⟨#[40]⟩ : ByteArray) ++ (rdOf ByteArray.empty t20002 0)).size + t20005.size ≤ 9223372036854775807
                                · rw [if_pos c108] at H
                                  have c108b0 := eq_true c108
                                  have c108b1 : decide (((⟨#[40]⟩ : ByteArray) ++ (rdOf ByteArray.empty t20002 0)).size + t20005.size ≤ 9223372036854775807) = true := decide_eq_true c108
                                  try have c108b2 : (9223372036854775807 < ((⟨#[40]⟩ : ByteArray) ++ (rdOf ByteArray.empty t20002 0)).size + t20005.size) = False := eq_false (Nat.not_lt.2 c108)
                                  have c108n := c108; (try simp only [ByteArray.size_append, ba1_size, ByteArray.size_extract] at c108n)
                                  by_cases c109 : 1 < (t20002.length : Int)
                                  · rw [if_pos c109] at H
                                    have c109b0 : decide (1 < (t20002.length : Int)) = true := decide_eq_true c109
                                    have c109b1 : decide (1 < t20002.length) = true := decide_eq_true (by omega)
                                    clear c109
                                    by_cases c110 : (((⟨#[40]⟩ : ByteArray) ++ (rdOf ByteArray.empty t20002 0)) ++ t20005).size + (rdOf ByteArray.empty t20002 1).size ≤ 9223372036854775807
                                    · rw [if_pos c110] at H
                                      have c110b0 := eq_true c110
                                      have c110b1 : decide ((((⟨#[40]⟩ : ByteArray) ++ (rdOf ByteArray.empty t20002 0)) ++ t20005).size + (rdOf ByteArray.empty t20002 1).size ≤ 9223372036854775807) = true := decide_eq_true c110
                                      try have c110b2 : (9223372036854775807 < (((⟨#[40]⟩ : ByteArray) ++ (rdOf ByteArray.empty t20002 0)) ++ t20005).size + (rdOf ByteArray.empty t20002 1).size) = False := eq_false (Nat.not_lt.2 c110)
                                      have c110n := c110; (try simp only [ByteArray.size_append, ba1_size, ByteArray.size_extract] at c110n)
                                      by_cases c111 : ((((⟨#[40]⟩ : ByteArray) ++ (rdOf ByteArray.empty t20002 0)) ++ t20005) ++ (rdOf ByteArray.empty t20002 1)).size + 1 ≤ 9223372036854775807
                                      · rw [if_pos c111] at H
                                        have c111b0 := eq_true c111
                                        have c111b1 : decide (((((⟨#[40]⟩ : ByteArray) ++ (rdOf ByteArray.empty t20002 0)) ++ t20005) ++ (rdOf ByteArray.empty t20002 1)).size + 1 ≤ 9223372036854775807) = true := decide_eq_true c111
                                        try have c111b2 : (9223372036854775807 < ((((⟨#[40]⟩ : ByteArray) ++ (rdOf ByteArray.empty t20002 0)) ++ t20005) ++ (rdOf ByteArray.empty t20002 1)).size + 1) = False := eq_false (Nat.not_lt.2 c111)
                                        have c111n := c111; (try simp only [ByteArray.size_append, ba1_size, ByteArray.size_extract] at c111n)
                                        by_cases c112 : (((((⟨#[40]⟩ : ByteArray) ++ (rdOf ByteArray.empty t20002 0)) ++ t20005) ++ (rdOf ByteArray.empty t20002 1)) ++ (⟨#[41]⟩ : ByteArray)).toList = t20001.toList
                                        · rw [if_pos c112] at H
                                          have c112b0 : ((((((⟨#[40]⟩ : ByteArray) ++ (rdOf ByteArray.empty t20002 0)) ++ t20005) ++ (rdOf ByteArray.empty t20002 1)) ++ (⟨#[41]⟩ : ByteArray)).toList == t20001.toList) = true := beq_iff_eq.mpr c112
                                          have c112b1 : ((((((⟨#[40]⟩ : ByteArray) ++ (rdOf ByteArray.empty t20002 0)) ++ t20005) ++ (rdOf ByteArray.empty t20002 1)) ++ (⟨#[41]⟩ : ByteArray)).toList != t20001.toList) = false := bne_eq_false_iff_eq.mpr c112
                                          clear c112
                                          replace H := Option.bind_eq_some_iff.mp H
                                          obtain ⟨t20031, A1130, H⟩ := H
                                          replace H : (if t20031 = x6_3 then ((impl_LevelsOf.f t20001).bind fun t20032 => (some (t20032 == x7_3))) else (none)) = some r := H
                                          have A113 := Aside0.mk A1130
                                          clear A1130
                                          by_cases c114 : t20031 = x6_3
                                          · rw [if_pos c114] at H
                                            have c114b0 : (t20031 == x6_3) = true := beq_iff_eq.mpr c114
                                            have c114b1 : (t20031 != x6_3) = false := bne_eq_false_iff_eq.mpr c114
                                            clear c114
                                            replace H := Option.bind_eq_some_iff.mp H
                                            obtain ⟨t20032, A1150, H⟩ := H
                                            replace H : (some (t20032 == x7_3)) = some r := H
                                            have A115 := Aside0.mk A1150
                                            clear A1150
                                            obtain rfl := Option.some.inj H
                                            have p20029 : 0 ≤ (0 : Int) := (by omega)
                                            have q20029 : 0 < (t20002.length : Int) := of_decide_eq_true (by first | (with_reducible assumption) | assumption)
                                            obtain ⟨ad20029, e20029, hx20029_0⟩ := Kd.at_string (Kd.R_reads' HO_4.out).2.2 0 p20029 q20029
                                            cases e20029
                                            have qi20029 : (0 < t20002.length) = True := eq_true (by omega)
                                            (try rw [show ((0 : Int)).toNat = 0 from rfl] at hx20029_0)
                                            (try rw [Addr.add_zero'] at hx20029_0)
                                            replace p20029 := eq_true p20029
                                            replace q20029 := eq_true q20029
                                            have p20030 : 0 ≤ (1 : Int) := (by omega)
                                            have q20030 : 1 < (t20002.length : Int) := of_decide_eq_true (by first | (with_reducible assumption) | assumption)
                                            obtain ⟨ad20030, e20030, hx20030_0⟩ := Kd.at_string (Kd.R_reads' HO_4.out).2.2 1 p20030 q20030
                                            obtain rfl : ad20029 = ad20030 := (by injection e20030)
                                            (try simp only [show (1 : Int).toNat = 1 from rfl, Nat.reduceMul, Nat.reduceEqDiff, Go.Addr.add, ↓reduceIte] at hx20030_0)
                                            have qi20030 : (1 < t20002.length) = True := eq_true (by omega)
                                            (try rw [show ((1 : Int)).toNat = 1 from rfl] at hx20030_0)
                                            replace p20030 := eq_true p20030
                                            replace q20030 := eq_true q20030
                                            go_wp2_with (first | (go_at_call 19; (with_reducible refine (impl_SizeOfTerm.calls t20001 t20031 _ A113.out).mono ?_); rintro e w116 ⟨rfl, hb⟩; have n0_ := Aside0.mk (Kd.R_below (by (with_reducible repeat (first | apply Kd.R_alloc | apply Kd.R_drewN | apply Kd.R_drew)); exact HO_4.out) hb); have n1_ := Aside0.mk (Kd.R_below (by (with_reducible repeat (first | apply Kd.R_alloc | apply Kd.R_drewN | apply Kd.R_drew)); exact HO_75.out) hb); have n2_ := Aside0.mk (below_step (by repeat (first | (with_reducible first | exact HB.out | apply below_alloc | apply pw_below_drewN | apply below_drew1) | exact HB.out)) hb); clear HO_4; clear HO_75; clear HB; have HO_4 := n0_; have HO_75 := n1_; have HB := n2_; clear n0_ n1_ n2_; (try clear hb); (try clear hb2); (try clear hk); (try clear hi)) | (go_at_call 21; (with_reducible refine (impl_LevelsOf.calls t20001 t20032 _ A115.out).mono ?_); rintro e w117 ⟨rfl, hb⟩; have n0_ := Aside0.mk (Kd.R_below (by (with_reducible repeat (first | apply Kd.R_alloc | apply Kd.R_drewN | apply Kd.R_drew)); exact HO_4.out) hb); have n1_ := Aside0.mk (Kd.R_below (by (with_reducible repeat (first | apply Kd.R_alloc | apply Kd.R_drewN | apply Kd.R_drew)); exact HO_75.out) hb); have n2_ := Aside0.mk (below_step (by repeat (first | (with_reducible first | exact HB.out | apply below_alloc | apply pw_below_drewN | apply below_drew1) | exact HB.out)) hb); clear HO_4; clear HO_75; clear HB; have HO_4 := n0_; have HO_75 := n1_; have HB := n2_; clear n0_ n1_ n2_; (try clear hb); (try clear hb2); (try clear hk); (try clear hi)))
                                            repeat (go_quiet (first | (go_at_call 19; (with_reducible refine (impl_SizeOfTerm.calls t20001 t20031 _ A113.out).mono ?_); rintro e w116 ⟨rfl, hb⟩; have n0_ := Aside0.mk (Kd.R_below (by (with_reducible repeat (first | apply Kd.R_alloc | apply Kd.R_drewN | apply Kd.R_drew)); exact HO_4.out) hb); have n1_ := Aside0.mk (Kd.R_below (by (with_reducible repeat (first | apply Kd.R_alloc | apply Kd.R_drewN | apply Kd.R_drew)); exact HO_75.out) hb); have n2_ := Aside0.mk (below_step (by repeat (first | (with_reducible first | exact HB.out | apply below_alloc | apply pw_below_drewN | apply below_drew1) | exact HB.out)) hb); clear HO_4; clear HO_75; clear HB; have HO_4 := n0_; have HO_75 := n1_; have HB := n2_; clear n0_ n1_ n2_; (try clear hb); (try clear hb2); (try clear hk); (try clear hi)) | (go_at_call 21; (with_reducible refine (impl_LevelsOf.calls t20001 t20032 _ A115.out).mono ?_); rintro e w117 ⟨rfl, hb⟩; have n0_ := Aside0.mk (Kd.R_below (by (with_reducible repeat (first | apply Kd.R_alloc | apply Kd.R_drewN | apply Kd.R_drew)); exact HO_4.out) hb); have n1_ := Aside0.mk (Kd.R_below (by (with_reducible repeat (first | apply Kd.R_alloc | apply Kd.R_drewN | apply Kd.R_drew)); exact HO_75.out) hb); have n2_ := Aside0.mk (below_step (by repeat (first | (with_reducible first | exact HB.out | apply below_alloc | apply pw_below_drewN | apply below_drew1) | exact HB.out)) hb); clear HO_4; clear HO_75; clear HB; have HO_4 := n0_; have HO_75 := n1_; have HB := n2_; clear n0_ n1_ n2_; (try clear hb); (try clear hb2); (try clear hk); (try clear hi))); try go_wp2_with (first | (go_at_call 19; (with_reducible refine (impl_SizeOfTerm.calls t20001 t20031 _ A113.out).mono ?_); rintro e w116 ⟨rfl, hb⟩; have n0_ := Aside0.mk (Kd.R_below (by (with_reducible repeat (first | apply Kd.R_alloc | apply Kd.R_drewN | apply Kd.R_drew)); exact HO_4.out) hb); have n1_ := Aside0.mk (Kd.R_below (by (with_reducible repeat (first | apply Kd.R_alloc | apply Kd.R_drewN | apply Kd.R_drew)); exact HO_75.out) hb); have n2_ := Aside0.mk (below_step (by repeat (first | (with_reducible first | exact HB.out | apply below_alloc | apply pw_below_drewN | apply below_drew1) | exact HB.out)) hb); clear HO_4; clear HO_75; clear HB; have HO_4 := n0_; have HO_75 := n1_; have HB := n2_; clear n0_ n1_ n2_; (try clear hb); (try clear hb2); (try clear hk); (try clear hi)) | (go_at_call 21; (with_reducible refine (impl_LevelsOf.calls t20001 t20032 _ A115.out).mono ?_); rintro e w117 ⟨rfl, hb⟩; have n0_ := Aside0.mk (Kd.R_below (by (with_reducible repeat (first | apply Kd.R_alloc | apply Kd.R_drewN | apply Kd.R_drew)); exact HO_4.out) hb); have n1_ := Aside0.mk (Kd.R_below (by (with_reducible repeat (first | apply Kd.R_alloc | apply Kd.R_drewN | apply Kd.R_drew)); exact HO_75.out) hb); have n2_ := Aside0.mk (below_step (by repeat (first | (with_reducible first | exact HB.out | apply below_alloc | apply pw_below_drewN | apply below_drew1) | exact HB.out)) hb); clear HO_4; clear HO_75; clear HB; have HO_4 := n0_; have HO_75 := n1_; have HB := n2_; clear n0_ n1_ n2_; (try clear hb); (try clear hb2); (try clear hk); (try clear hi))))
                                            go_ret
                                            exact ⟨by first | rfl | (simp [errW_none, errW_some] <;> rfl) | (simp [*, errW_none, errW_some] <;> rfl), by repeat (first | (with_reducible first | exact HB.out | apply below_alloc | apply pw_below_drewN | apply below_drew1) | exact HB.out)⟩
                                          · rw [if_neg c114] at H
                                            exact absurd H (by simp)
                                        · rw [if_neg c112] at H
                                          exact absurd H (by simp)
                                      · rw [if_neg c111] at H
                                        exact absurd H (by simp)
                                    · rw [if_neg c110] at H
                                      exact absurd H (by simp)
                                  · rw [if_neg c109] at H
                                    exact absurd H (by simp)
                                · rw [if_neg c108] at H
                                  exact absurd H (by simp)
                              · rw [if_neg c107] at H
                                exact absurd H (by simp)
                            · rw [if_neg c106] at H
                              exact absurd H (by simp)
                          · rw [if_neg c105] at H
                            have c105b0 : ((t20002.length : Int) == 2) = false := beq_eq_false_iff_ne.mpr c105
                            have c105b1 : ((t20002.length : Int) != 2) = true := bne_iff_ne.mpr c105
                            by_cases c118 : t20005.toList = t20001.toList
                            · rw [if_pos c118] at H
                              have c118b0 : (t20005.toList == t20001.toList) = true := beq_iff_eq.mpr c118
                              have c118b1 : (t20005.toList != t20001.toList) = false := bne_eq_false_iff_eq.mpr c118
                              clear c118
                              replace H := Option.bind_eq_some_iff.mp H
                              obtain ⟨t20033, A1190, H⟩ := H
                              replace H : (if t20033 = x6_3 then ((impl_LevelsOf.f t20001).bind fun t20034 => (some (t20034 == x7_3))) else (none)) = some r := H
                              have A119 := Aside0.mk A1190
                              clear A1190
                              by_cases c120 : t20033 = x6_3
                              · rw [if_pos c120] at H
                                have c120b0 : (t20033 == x6_3) = true := beq_iff_eq.mpr c120
                                have c120b1 : (t20033 != x6_3) = false := bne_eq_false_iff_eq.mpr c120
                                clear c120
                                replace H := Option.bind_eq_some_iff.mp H
                                obtain ⟨t20034, A1210, H⟩ := H
                                replace H : (some (t20034 == x7_3)) = some r := H
                                have A121 := Aside0.mk A1210
                                clear A1210
                                obtain rfl := Option.some.inj H
                                go_wp2_with (first | (go_at_call 19; (with_reducible refine (impl_SizeOfTerm.calls t20001 t20033 _ A119.out).mono ?_); rintro e w122 ⟨rfl, hb⟩; have n0_ := Aside0.mk (Kd.R_below (by (with_reducible repeat (first | apply Kd.R_alloc | apply Kd.R_drewN | apply Kd.R_drew)); exact HO_4.out) hb); have n1_ := Aside0.mk (Kd.R_below (by (with_reducible repeat (first | apply Kd.R_alloc | apply Kd.R_drewN | apply Kd.R_drew)); exact HO_75.out) hb); have n2_ := Aside0.mk (below_step (by repeat (first | (with_reducible first | exact HB.out | apply below_alloc | apply pw_below_drewN | apply below_drew1) | exact HB.out)) hb); clear HO_4; clear HO_75; clear HB; have HO_4 := n0_; have HO_75 := n1_; have HB := n2_; clear n0_ n1_ n2_; (try clear hb); (try clear hb2); (try clear hk); (try clear hi)) | (go_at_call 21; (with_reducible refine (impl_LevelsOf.calls t20001 t20034 _ A121.out).mono ?_); rintro e w123 ⟨rfl, hb⟩; have n0_ := Aside0.mk (Kd.R_below (by (with_reducible repeat (first | apply Kd.R_alloc | apply Kd.R_drewN | apply Kd.R_drew)); exact HO_4.out) hb); have n1_ := Aside0.mk (Kd.R_below (by (with_reducible repeat (first | apply Kd.R_alloc | apply Kd.R_drewN | apply Kd.R_drew)); exact HO_75.out) hb); have n2_ := Aside0.mk (below_step (by repeat (first | (with_reducible first | exact HB.out | apply below_alloc | apply pw_below_drewN | apply below_drew1) | exact HB.out)) hb); clear HO_4; clear HO_75; clear HB; have HO_4 := n0_; have HO_75 := n1_; have HB := n2_; clear n0_ n1_ n2_; (try clear hb); (try clear hb2); (try clear hk); (try clear hi)))
                                repeat (go_quiet (first | (go_at_call 19; (with_reducible refine (impl_SizeOfTerm.calls t20001 t20033 _ A119.out).mono ?_); rintro e w122 ⟨rfl, hb⟩; have n0_ := Aside0.mk (Kd.R_below (by (with_reducible repeat (first | apply Kd.R_alloc | apply Kd.R_drewN | apply Kd.R_drew)); exact HO_4.out) hb); have n1_ := Aside0.mk (Kd.R_below (by (with_reducible repeat (first | apply Kd.R_alloc | apply Kd.R_drewN | apply Kd.R_drew)); exact HO_75.out) hb); have n2_ := Aside0.mk (below_step (by repeat (first | (with_reducible first | exact HB.out | apply below_alloc | apply pw_below_drewN | apply below_drew1) | exact HB.out)) hb); clear HO_4; clear HO_75; clear HB; have HO_4 := n0_; have HO_75 := n1_; have HB := n2_; clear n0_ n1_ n2_; (try clear hb); (try clear hb2); (try clear hk); (try clear hi)) | (go_at_call 21; (with_reducible refine (impl_LevelsOf.calls t20001 t20034 _ A121.out).mono ?_); rintro e w123 ⟨rfl, hb⟩; have n0_ := Aside0.mk (Kd.R_below (by (with_reducible repeat (first | apply Kd.R_alloc | apply Kd.R_drewN | apply Kd.R_drew)); exact HO_4.out) hb); have n1_ := Aside0.mk (Kd.R_below (by (with_reducible repeat (first | apply Kd.R_alloc | apply Kd.R_drewN | apply Kd.R_drew)); exact HO_75.out) hb); have n2_ := Aside0.mk (below_step (by repeat (first | (with_reducible first | exact HB.out | apply below_alloc | apply pw_below_drewN | apply below_drew1) | exact HB.out)) hb); clear HO_4; clear HO_75; clear HB; have HO_4 := n0_; have HO_75 := n1_; have HB := n2_; clear n0_ n1_ n2_; (try clear hb); (try clear hb2); (try clear hk); (try clear hi))); try go_wp2_with (first | (go_at_call 19; (with_reducible refine (impl_SizeOfTerm.calls t20001 t20033 _ A119.out).mono ?_); rintro e w122 ⟨rfl, hb⟩; have n0_ := Aside0.mk (Kd.R_below (by (with_reducible repeat (first | apply Kd.R_alloc | apply Kd.R_drewN | apply Kd.R_drew)); exact HO_4.out) hb); have n1_ := Aside0.mk (Kd.R_below (by (with_reducible repeat (first | apply Kd.R_alloc | apply Kd.R_drewN | apply Kd.R_drew)); exact HO_75.out) hb); have n2_ := Aside0.mk (below_step (by repeat (first | (with_reducible first | exact HB.out | apply below_alloc | apply pw_below_drewN | apply below_drew1) | exact HB.out)) hb); clear HO_4; clear HO_75; clear HB; have HO_4 := n0_; have HO_75 := n1_; have HB := n2_; clear n0_ n1_ n2_; (try clear hb); (try clear hb2); (try clear hk); (try clear hi)) | (go_at_call 21; (with_reducible refine (impl_LevelsOf.calls t20001 t20034 _ A121.out).mono ?_); rintro e w123 ⟨rfl, hb⟩; have n0_ := Aside0.mk (Kd.R_below (by (with_reducible repeat (first | apply Kd.R_alloc | apply Kd.R_drewN | apply Kd.R_drew)); exact HO_4.out) hb); have n1_ := Aside0.mk (Kd.R_below (by (with_reducible repeat (first | apply Kd.R_alloc | apply Kd.R_drewN | apply Kd.R_drew)); exact HO_75.out) hb); have n2_ := Aside0.mk (below_step (by repeat (first | (with_reducible first | exact HB.out | apply below_alloc | apply pw_below_drewN | apply below_drew1) | exact HB.out)) hb); clear HO_4; clear HO_75; clear HB; have HO_4 := n0_; have HO_75 := n1_; have HB := n2_; clear n0_ n1_ n2_; (try clear hb); (try clear hb2); (try clear hk); (try clear hi))))
                                go_ret
                                exact ⟨by first | rfl | (simp [errW_none, errW_some] <;> rfl) | (simp [*, errW_none, errW_some] <;> rfl), by repeat (first | (with_reducible first | exact HB.out | apply below_alloc | apply pw_below_drewN | apply below_drew1) | exact HB.out)⟩
                              · rw [if_neg c120] at H
                                exact absurd H (by simp)
                            · rw [if_neg c118] at H
                              exact absurd H (by simp)
/-- THE ONE PURE STATEMENT of laws_FnParts: yours. -/
def laws_FnParts.Pure : Prop := ∀ (l0 : List Int), l0.length ≤ maxLen → l0.length * 1 ≤ 140737488351232 → (∀ x ∈ l0, (Lit.int .u8 x).wf = true) → ∃ k, laws_FnParts.f k l0 = some true
theorem laws_FnParts.walk (P : laws_FnParts.Pure) (a0 : Option Addr) (len0 cap0 : Nat) (z0 : List Int) (w : World) (w0 : (a0 = none ∧ len0 = 0 ∧ cap0 = 0 ∧ z0 = []) ∨ ∃ x, a0 = some x ∧ len0 ≤ cap0 ∧ cap0 ≤ maxLen ∧ z0.length = cap0 ∧ (∀ i, i < z0.length → w.cell? (x.add i) = some (.int .u8 (z0.getD i 0))) ∧ ∀ n ∈ z0, (Lit.int .u8 n).wf = true) (y0 : len0 * 1 ≤ 140737488351232) :
    Calls Try.prog 12 #[.slice a0 len0 cap0] w fun e w' => e = .returned (.bool true) ∧ Below w.heap.size w w' := by
  obtain ⟨l0, rfl, hr0, hm0, hw0, hc0⟩ := ReadsInt.ofRowC w0
  obtain ⟨k, h⟩ := P l0 hm0 y0 hw0
  refine (laws_FnParts.calls k _ _ l0 true w (Kd.C_of_reads (d := (0 : Int)) (h1 := fun _ => rfl) hr0) hc0 h).mono ?_
  rintro e w' ⟨rfl, hd⟩
  exact ⟨rfl, hd⟩
end Go.Proofs.Ytjelhemaohjkdaa.Vn
