/-
  Cut to what this claim uses.
-/
import Derived.Test.YtpklhagedifglaaQVq0
import Derived.Test.YtpklhagedifglaaQVq1
import Derived.Test.YtpklhagedifglaaQVq3
namespace Go.Proofs.Ytpklhagedifglaa.Vq
open Go.RowKit Go.Proofs.YtpklhagedifglaaW.PrintWords Go.Proofs.YtpklhagedifglaaW.PrintLast Go.Proofs.YtpklhagedifglaaW.PrintMore
attribute [local go_sem] max2_int min2_int max_two min_two max_three min_three max_four min_four   -- for this text's walks alone
set_option linter.unusedVariables false
set_option linter.unusedSimpArgs false
mutual
def laws_FnReplace.j0 : Nat → List Int → List Int → Bool → Option (Bool)
  | 0, _, _, _ => none
  | k + 1, x0, x1, x32 => if x32 = true then (some true) else ((spec_DrawReplaceVar.f k x0).bind fun bt20001 => ((impl_ReplaceVar.f bt20001.1 bt20001.2.1 bt20001.2.2).bind fun bt20004 => ((spec_ReplaceVar.f bt20001.1 bt20001.2.1 bt20001.2.2).bind fun bt20006 => ((spec_DrawFreeVars.f k x1).bind fun t20008 => (if bt20004.1.toList = bt20006.1.toList then (if (bt20004.2 != bt20006.2) = true then (none) else ((impl_FreeVars.f t20008).bind fun t20009 => ((spec_FreeVars.f t20008).bind fun t20010 => (if t20009.toList = t20010.toList then (laws_FnReplace.j1 k bt20001.1 bt20001.2.1 bt20001.2.2 bt20004.1 bt20004.2 bt20006.1 bt20006.2 t20008 (!bt20004.2)) else (laws_FnReplace.j1 k bt20001.1 bt20001.2.1 bt20001.2.2 bt20004.1 bt20004.2 bt20006.1 bt20006.2 t20008 true))))) else (laws_FnReplace.j1 k bt20001.1 bt20001.2.1 bt20001.2.2 bt20004.1 bt20004.2 bt20006.1 bt20006.2 t20008 true))))))
def laws_FnReplace.j1 : Nat → ByteArray → ByteArray → ByteArray → ByteArray → Bool → ByteArray → Bool → ByteArray → Bool → Option (Bool)
  | 0, _, _, _, _, _, _, _, _, _ => none
  | k + 1, x5, x6, x7, x8, x9, x10, x11, x12, x73 => if x73 = true then (if x8.toList = x10.toList then (if (x9 == x11) = true then ((impl_FreeVars.f x12).bind fun t20011 => ((spec_FreeVars.f x12).bind fun t20012 => (some (t20011.toList == t20012.toList)))) else (none)) else (none)) else ((impl_FreeVars.f x5).bind fun t20013 => ((impl_FreeVars.f x8).bind fun t20014 => ((impl_FreeVars.f x7).bind fun t20015 => (laws_FnReplace.l0 k x5 x6 x7 x8 t20013 t20014 t20015 false (t20013.size : Int) 0))))
def laws_FnReplace.l0 : Nat → ByteArray → ByteArray → ByteArray → ByteArray → ByteArray → ByteArray → ByteArray → Bool → Int → Int → Option (Bool)
  | 0, _, _, _, _, _, _, _, _, _, _ => none
  | k + 1, x5, x6, x7, x8, x13, x14, x15, x16, x96, x97 => if x97 < x96 then (if x16 = true then (laws_FnReplace.l0 k x5 x6 x7 x8 x13 x14 x15 true x96 (wrap64 (x97 + 1))) else (if 0 ≤ x97 then (if x97 ≤ (wrap64 (x97 + 1)) then (if (wrap64 (x97 + 1)) ≤ (x13.size : Int) then (laws_FnReplace.l0 k x5 x6 x7 x8 x13 x14 x15 ((x13.extract (x97 : Int).toNat ((wrap64 (x97 + 1)) : Int).toNat).toList == x6.toList) x96 (wrap64 (x97 + 1))) else (none)) else (none)) else (none))) else (if x16 = true then (laws_FnReplace.l1 k x5 x6 x7 x8 x13 x14 x15 (x14.size : Int) 0) else (some (x8.toList == x5.toList)))
def laws_FnReplace.l1 : Nat → ByteArray → ByteArray → ByteArray → ByteArray → ByteArray → ByteArray → ByteArray → Int → Int → Option (Bool)
  | 0, _, _, _, _, _, _, _, _, _ => none
  | k + 1, x5, x6, x7, x8, x13, x14, x15, x117, x118 => if x118 < x117 then (if 0 ≤ x118 then (if x118 ≤ (wrap64 (x118 + 1)) then (if (wrap64 (x118 + 1)) ≤ (x14.size : Int) then (laws_FnReplace.l2 k x5 x6 x7 x8 x13 x14 x15 (x14.extract (x118 : Int).toNat ((wrap64 (x118 + 1)) : Int).toNat) false x117 x118 (x15.size : Int) 0) else (none)) else (none)) else (none)) else ((impl_ReplaceVar.f x5 x6 x6).bind fun bt20016 => (if x6.toList = ([97] : List UInt8) then ((impl_DepthOfTerm.f x7).bind fun t20018 => (if t20018 = 1 then ((impl_DepthOfTerm.f x5).bind fun t20019 => ((impl_DepthOfTerm.f x8).bind fun t20020 => (if t20019 = t20020 then (some (bt20016.1.toList == x5.toList)) else ((impl_FreeVars.f x7).bind fun t20021 => (if t20021.toList = ([] : List UInt8) then (some (bt20016.1.toList == x5.toList)) else ((impl_DepthOfTerm.f x5).bind fun t20022 => (some (decide (t20022 < 0))))))))) else (some (bt20016.1.toList == x5.toList)))) else (some (bt20016.1.toList == x5.toList))))
def laws_FnReplace.l2 : Nat → ByteArray → ByteArray → ByteArray → ByteArray → ByteArray → ByteArray → ByteArray → ByteArray → Bool → Int → Int → Int → Int → Option (Bool)
  | 0, _, _, _, _, _, _, _, _, _, _, _, _, _ => none
  | k + 1, x5, x6, x7, x8, x13, x14, x15, x19, x20, x117, x118, x127, x128 => if x128 < x127 then (if x20 = true then (laws_FnReplace.l2 k x5 x6 x7 x8 x13 x14 x15 x19 true x117 x118 x127 (wrap64 (x128 + 1))) else (if 0 ≤ x128 then (if x128 ≤ (wrap64 (x128 + 1)) then (if (wrap64 (x128 + 1)) ≤ (x15.size : Int) then (laws_FnReplace.l2 k x5 x6 x7 x8 x13 x14 x15 x19 ((x15.extract (x128 : Int).toNat ((wrap64 (x128 + 1)) : Int).toNat).toList == x19.toList) x117 x118 x127 (wrap64 (x128 + 1))) else (none)) else (none)) else (none))) else (laws_FnReplace.l3 k x5 x6 x7 x8 x13 x14 x15 x19 x20 x117 x118 (x13.size : Int) 0)
def laws_FnReplace.l3 : Nat → ByteArray → ByteArray → ByteArray → ByteArray → ByteArray → ByteArray → ByteArray → ByteArray → Bool → Int → Int → Int → Int → Option (Bool)
  | 0, _, _, _, _, _, _, _, _, _, _, _, _, _ => none
  | k + 1, x5, x6, x7, x8, x13, x14, x15, x19, x20, x117, x118, x143, x144 => if x144 < x143 then (if x20 = true then (laws_FnReplace.l3 k x5 x6 x7 x8 x13 x14 x15 x19 true x117 x118 x143 (wrap64 (x144 + 1))) else (if 0 ≤ x144 then (if x144 ≤ (wrap64 (x144 + 1)) then (if (wrap64 (x144 + 1)) ≤ (x13.size : Int) then (if (x13.extract (x144 : Int).toNat ((wrap64 (x144 + 1)) : Int).toNat).toList = x19.toList then (laws_FnReplace.l3 k x5 x6 x7 x8 x13 x14 x15 x19 (x19.toList != x6.toList) x117 x118 x143 (wrap64 (x144 + 1))) else (laws_FnReplace.l3 k x5 x6 x7 x8 x13 x14 x15 x19 false x117 x118 x143 (wrap64 (x144 + 1)))) else (none)) else (none)) else (none))) else (if x20 = true then (laws_FnReplace.l1 k x5 x6 x7 x8 x13 x14 x15 x117 (wrap64 (x118 + 1))) else (none))
end
def laws_FnReplace.f (k : Nat) (l0 : List Int) (l1 : List Int) : Option (Bool) := if (l0.length : Int) > 1048576 then (laws_FnReplace.j0 k l0 l1 true) else (laws_FnReplace.j0 k l0 l1 (decide ((l1.length : Int) > 1048576)))
theorem laws_FnReplace.mono_l : ∀ k, (∀ y0 y1 y2, LeO (laws_FnReplace.j0 k y0 y1 y2) (laws_FnReplace.j0 (k + 1) y0 y1 y2)) ∧ (∀ y0 y1 y2 y3 y4 y5 y6 y7 y8, LeO (laws_FnReplace.j1 k y0 y1 y2 y3 y4 y5 y6 y7 y8) (laws_FnReplace.j1 (k + 1) y0 y1 y2 y3 y4 y5 y6 y7 y8)) ∧ (∀ y0 y1 y2 y3 y4 y5 y6 y7 y8 y9, LeO (laws_FnReplace.l0 k y0 y1 y2 y3 y4 y5 y6 y7 y8 y9) (laws_FnReplace.l0 (k + 1) y0 y1 y2 y3 y4 y5 y6 y7 y8 y9)) ∧ (∀ y0 y1 y2 y3 y4 y5 y6 y7 y8, LeO (laws_FnReplace.l1 k y0 y1 y2 y3 y4 y5 y6 y7 y8) (laws_FnReplace.l1 (k + 1) y0 y1 y2 y3 y4 y5 y6 y7 y8)) ∧ (∀ y0 y1 y2 y3 y4 y5 y6 y7 y8 y9 y10 y11 y12, LeO (laws_FnReplace.l2 k y0 y1 y2 y3 y4 y5 y6 y7 y8 y9 y10 y11 y12) (laws_FnReplace.l2 (k + 1) y0 y1 y2 y3 y4 y5 y6 y7 y8 y9 y10 y11 y12)) ∧ (∀ y0 y1 y2 y3 y4 y5 y6 y7 y8 y9 y10 y11 y12, LeO (laws_FnReplace.l3 k y0 y1 y2 y3 y4 y5 y6 y7 y8 y9 y10 y11 y12) (laws_FnReplace.l3 (k + 1) y0 y1 y2 y3 y4 y5 y6 y7 y8 y9 y10 y11 y12))
  | 0 => ⟨fun _ _ _ r h => by simp [laws_FnReplace.j0] at h, fun _ _ _ _ _ _ _ _ _ r h => by simp [laws_FnReplace.j1] at h, fun _ _ _ _ _ _ _ _ _ _ r h => by simp [laws_FnReplace.l0] at h, fun _ _ _ _ _ _ _ _ _ r h => by simp [laws_FnReplace.l1] at h, fun _ _ _ _ _ _ _ _ _ _ _ _ _ r h => by simp [laws_FnReplace.l2] at h, fun _ _ _ _ _ _ _ _ _ _ _ _ _ r h => by simp [laws_FnReplace.l3] at h⟩
  | k + 1 => by
    obtain ⟨ih0, ih1, ih2, ih3, ih4, ih5⟩ := laws_FnReplace.mono_l k
    refine ⟨?_, ?_, ?_, ?_, ?_, ?_⟩
    · intro y0 y1 y2
      unfold laws_FnReplace.j0
      repeat' first
      | (with_reducible exact ih0 _ _ _)
      | (with_reducible exact ih1 _ _ _ _ _ _ _ _ _)
      | (with_reducible exact ih2 _ _ _ _ _ _ _ _ _ _)
      | (with_reducible exact ih3 _ _ _ _ _ _ _ _ _)
      | (with_reducible exact ih4 _ _ _ _ _ _ _ _ _ _ _ _ _)
      | (with_reducible exact ih5 _ _ _ _ _ _ _ _ _ _ _ _ _)
      | (with_reducible exact spec_DrawFreeVars.mono _ _)
      | (with_reducible exact spec_DrawReplaceVar.mono _ _)
      | (with_reducible exact LeO.refl _)
      | (with_reducible exact LeO.none _)
      | (with_reducible refine LeO.ite ?_ ?_)
      | (with_reducible refine LeO.bind ?_ (fun _ => ?_))
      | exact ih0 _ _ _
      | exact ih1 _ _ _ _ _ _ _ _ _
      | exact ih2 _ _ _ _ _ _ _ _ _ _
      | exact ih3 _ _ _ _ _ _ _ _ _
      | exact ih4 _ _ _ _ _ _ _ _ _ _ _ _ _
      | exact ih5 _ _ _ _ _ _ _ _ _ _ _ _ _
      | exact spec_DrawFreeVars.mono _ _
      | exact spec_DrawReplaceVar.mono _ _
      | exact LeO.none _
      | refine LeO.ite ?_ ?_
      | refine LeO.bind ?_ (fun _ => ?_)
    · intro y0 y1 y2 y3 y4 y5 y6 y7 y8
      unfold laws_FnReplace.j1
      repeat' first
      | (with_reducible exact ih0 _ _ _)
      | (with_reducible exact ih1 _ _ _ _ _ _ _ _ _)
      | (with_reducible exact ih2 _ _ _ _ _ _ _ _ _ _)
      | (with_reducible exact ih3 _ _ _ _ _ _ _ _ _)
      | (with_reducible exact ih4 _ _ _ _ _ _ _ _ _ _ _ _ _)
      | (with_reducible exact ih5 _ _ _ _ _ _ _ _ _ _ _ _ _)
      | (with_reducible exact spec_DrawFreeVars.mono _ _)
      | (with_reducible exact spec_DrawReplaceVar.mono _ _)
      | (with_reducible exact LeO.refl _)
      | (with_reducible exact LeO.none _)
      | (with_reducible refine LeO.ite ?_ ?_)
      | (with_reducible refine LeO.bind ?_ (fun _ => ?_))
      | exact ih0 _ _ _
      | exact ih1 _ _ _ _ _ _ _ _ _
      | exact ih2 _ _ _ _ _ _ _ _ _ _
      | exact ih3 _ _ _ _ _ _ _ _ _
      | exact ih4 _ _ _ _ _ _ _ _ _ _ _ _ _
      | exact ih5 _ _ _ _ _ _ _ _ _ _ _ _ _
      | exact spec_DrawFreeVars.mono _ _
      | exact spec_DrawReplaceVar.mono _ _
      | exact LeO.none _
      | refine LeO.ite ?_ ?_
      | refine LeO.bind ?_ (fun _ => ?_)
    · intro y0 y1 y2 y3 y4 y5 y6 y7 y8 y9
      unfold laws_FnReplace.l0
      repeat' first
      | (with_reducible exact ih0 _ _ _)
      | (with_reducible exact ih1 _ _ _ _ _ _ _ _ _)
      | (with_reducible exact ih2 _ _ _ _ _ _ _ _ _ _)
      | (with_reducible exact ih3 _ _ _ _ _ _ _ _ _)
      | (with_reducible exact ih4 _ _ _ _ _ _ _ _ _ _ _ _ _)
      | (with_reducible exact ih5 _ _ _ _ _ _ _ _ _ _ _ _ _)
      | (with_reducible exact spec_DrawFreeVars.mono _ _)
      | (with_reducible exact spec_DrawReplaceVar.mono _ _)
      | (with_reducible exact LeO.refl _)
      | (with_reducible exact LeO.none _)
      | (with_reducible refine LeO.ite ?_ ?_)
      | (with_reducible refine LeO.bind ?_ (fun _ => ?_))
      | exact ih0 _ _ _
      | exact ih1 _ _ _ _ _ _ _ _ _
      | exact ih2 _ _ _ _ _ _ _ _ _ _
      | exact ih3 _ _ _ _ _ _ _ _ _
      | exact ih4 _ _ _ _ _ _ _ _ _ _ _ _ _
      | exact ih5 _ _ _ _ _ _ _ _ _ _ _ _ _
      | exact spec_DrawFreeVars.mono _ _
      | exact spec_DrawReplaceVar.mono _ _
      | exact LeO.none _
      | refine LeO.ite ?_ ?_
      | refine LeO.bind ?_ (fun _ => ?_)
    · intro y0 y1 y2 y3 y4 y5 y6 y7 y8
      unfold laws_FnReplace.l1
      repeat' first
      | (with_reducible exact ih0 _ _ _)
      | (with_reducible exact ih1 _ _ _ _ _ _ _ _ _)
      | (with_reducible exact ih2 _ _ _ _ _ _ _ _ _ _)
      | (with_reducible exact ih3 _ _ _ _ _ _ _ _ _)
      | (with_reducible exact ih4 _ _ _ _ _ _ _ _ _ _ _ _ _)
      | (with_reducible exact ih5 _ _ _ _ _ _ _ _ _ _ _ _ _)
      | (with_reducible exact spec_DrawFreeVars.mono _ _)
      | (with_reducible exact spec_DrawReplaceVar.mono _ _)
      | (with_reducible exact LeO.refl _)
      | (with_reducible exact LeO.none _)
      | (with_reducible refine LeO.ite ?_ ?_)
      | (with_reducible refine LeO.bind ?_ (fun _ => ?_))
      | exact ih0 _ _ _
      | exact ih1 _ _ _ _ _ _ _ _ _
      | exact ih2 _ _ _ _ _ _ _ _ _ _
      | exact ih3 _ _ _ _ _ _ _ _ _
      | exact ih4 _ _ _ _ _ _ _ _ _ _ _ _ _
      | exact ih5 _ _ _ _ _ _ _ _ _ _ _ _ _
      | exact spec_DrawFreeVars.mono _ _
      | exact spec_DrawReplaceVar.mono _ _
      | exact LeO.none _
      | refine LeO.ite ?_ ?_
      | refine LeO.bind ?_ (fun _ => ?_)
    · intro y0 y1 y2 y3 y4 y5 y6 y7 y8 y9 y10 y11 y12
      unfold laws_FnReplace.l2
      repeat' first
      | (with_reducible exact ih0 _ _ _)
      | (with_reducible exact ih1 _ _ _ _ _ _ _ _ _)
      | (with_reducible exact ih2 _ _ _ _ _ _ _ _ _ _)
      | (with_reducible exact ih3 _ _ _ _ _ _ _ _ _)
      | (with_reducible exact ih4 _ _ _ _ _ _ _ _ _ _ _ _ _)
      | (with_reducible exact ih5 _ _ _ _ _ _ _ _ _ _ _ _ _)
      | (with_reducible exact spec_DrawFreeVars.mono _ _)
      | (with_reducible exact spec_DrawReplaceVar.mono _ _)
      | (with_reducible exact LeO.refl _)
      | (with_reducible exact LeO.none _)
      | (with_reducible refine LeO.ite ?_ ?_)
      | (with_reducible refine LeO.bind ?_ (fun _ => ?_))
      | exact ih0 _ _ _
      | exact ih1 _ _ _ _ _ _ _ _ _
      | exact ih2 _ _ _ _ _ _ _ _ _ _
      | exact ih3 _ _ _ _ _ _ _ _ _
      | exact ih4 _ _ _ _ _ _ _ _ _ _ _ _ _
      | exact ih5 _ _ _ _ _ _ _ _ _ _ _ _ _
      | exact spec_DrawFreeVars.mono _ _
      | exact spec_DrawReplaceVar.mono _ _
      | exact LeO.none _
      | refine LeO.ite ?_ ?_
      | refine LeO.bind ?_ (fun _ => ?_)
    · intro y0 y1 y2 y3 y4 y5 y6 y7 y8 y9 y10 y11 y12
      unfold laws_FnReplace.l3
      repeat' first
      | (with_reducible exact ih0 _ _ _)
      | (with_reducible exact ih1 _ _ _ _ _ _ _ _ _)
      | (with_reducible exact ih2 _ _ _ _ _ _ _ _ _ _)
      | (with_reducible exact ih3 _ _ _ _ _ _ _ _ _)
      | (with_reducible exact ih4 _ _ _ _ _ _ _ _ _ _ _ _ _)
      | (with_reducible exact ih5 _ _ _ _ _ _ _ _ _ _ _ _ _)
      | (with_reducible exact spec_DrawFreeVars.mono _ _)
      | (with_reducible exact spec_DrawReplaceVar.mono _ _)
      | (with_reducible exact LeO.refl _)
      | (with_reducible exact LeO.none _)
      | (with_reducible refine LeO.ite ?_ ?_)
      | (with_reducible refine LeO.bind ?_ (fun _ => ?_))
      | exact ih0 _ _ _
      | exact ih1 _ _ _ _ _ _ _ _ _
      | exact ih2 _ _ _ _ _ _ _ _ _ _
      | exact ih3 _ _ _ _ _ _ _ _ _
      | exact ih4 _ _ _ _ _ _ _ _ _ _ _ _ _
      | exact ih5 _ _ _ _ _ _ _ _ _ _ _ _ _
      | exact spec_DrawFreeVars.mono _ _
      | exact spec_DrawReplaceVar.mono _ _
      | exact LeO.none _
      | refine LeO.ite ?_ ?_
      | refine LeO.bind ?_ (fun _ => ?_)
theorem laws_FnReplace.mono : ∀ a0 a1 k, LeO (laws_FnReplace.f k a0 a1) (laws_FnReplace.f (k + 1) a0 a1) := by
  intro a0 a1 k
  obtain ⟨ih0, ih1, ih2, ih3, ih4, ih5⟩ := laws_FnReplace.mono_l k
  unfold laws_FnReplace.f
  repeat' first
      | (with_reducible exact ih0 _ _ _)
      | (with_reducible exact ih1 _ _ _ _ _ _ _ _ _)
      | (with_reducible exact ih2 _ _ _ _ _ _ _ _ _ _)
      | (with_reducible exact ih3 _ _ _ _ _ _ _ _ _)
      | (with_reducible exact ih4 _ _ _ _ _ _ _ _ _ _ _ _ _)
      | (with_reducible exact ih5 _ _ _ _ _ _ _ _ _ _ _ _ _)
      | (with_reducible exact spec_DrawFreeVars.mono _ _)
      | (with_reducible exact spec_DrawReplaceVar.mono _ _)
      | (with_reducible exact LeO.refl _)
      | (with_reducible exact LeO.none _)
      | (with_reducible refine LeO.ite ?_ ?_)
      | (with_reducible refine LeO.bind ?_ (fun _ => ?_))
      | exact ih0 _ _ _
      | exact ih1 _ _ _ _ _ _ _ _ _
      | exact ih2 _ _ _ _ _ _ _ _ _ _
      | exact ih3 _ _ _ _ _ _ _ _ _
      | exact ih4 _ _ _ _ _ _ _ _ _ _ _ _ _
      | exact ih5 _ _ _ _ _ _ _ _ _ _ _ _ _
      | exact spec_DrawFreeVars.mono _ _
      | exact spec_DrawReplaceVar.mono _ _
      | exact LeO.none _
      | refine LeO.ite ?_ ?_
      | refine LeO.bind ?_ (fun _ => ?_)
set_option maxHeartbeats 8000000 in
set_option maxRecDepth 100000 in
theorem laws_FnReplace.calls (k : Nat) (A0 : Option Addr) (c0 : Nat) (l0 : List Int) (A1 : Option Addr) (c1 : Nat) (l1 : List Int) (r : Bool) (w : World) (hr0 : Kd.C (Kd.int .u8) w A0 l0.length l0) (hc0 : l0.length ≤ c0) (hr1 : Kd.C (Kd.int .u8) w A1 l1.length l1) (hc1 : l1.length ≤ c1) (h : laws_FnReplace.f k l0 l1 = some r) :
    Calls Try.prog 4 #[.slice A0 l0.length c0, .slice A1 l1.length c1] w fun e w' => e = .returned (.bool r) ∧ Below w.heap.size w w' := by
  have HR0 := Aside0.mk hr0
  have HC0 := Aside0.mk hc0
  clear hr0 hc0
  have HR1 := Aside0.mk hr1
  have HC1 := Aside0.mk hc1
  clear hr1 hc1
  have HB := Aside0.mk (Below.refl w.heap.size w)
  have H : (if (l0.length : Int) > 1048576 then (laws_FnReplace.j0 k l0 l1 true) else (laws_FnReplace.j0 k l0 l1 (decide ((l1.length : Int) > 1048576)))) = some r := h
  clear h
  have HC3 := Aside0.mk H
  clear H
  go_enter Try.func4, Try.ntmps4
  go_upto_region 1 with (fail)
  go_cut [32] (fun v32 wc => ∃ (kq : Nat) (x32_2 : Bool), v32 = .bool x32_2 ∧ Aside0 (laws_FnReplace.j0 kq l0 l1 x32_2 = some r) ∧ Aside0 (kq ≤ k) ∧ Aside0 (Below w.heap.size w wc))
  case first =>
    have H := HC3.out
    clear HC3
    by_cases c4 : (l0.length : Int) > 1048576
    · rw [if_pos c4] at H
      have c4b0 : decide (1048576 < (l0.length : Int)) = true := decide_eq_true c4
      have c4b1 : decide (1048576 < l0.length) = true := decide_eq_true (by omega)
      clear c4
      (first | rw [c4b0] | (simp only [i64_w, i32_w]; rw [c4b0]) | skip)
      have H' := Aside0.mk H
      clear H
      go_wp2
      go_meet
      case rel => exact ⟨_, (true), (by first | rfl | (simp; done) | (simp [*]; done)), H', ⟨by first | omega | exact Nat.le_refl _⟩, ⟨by repeat (first | (with_reducible first | exact HB.out | apply below_alloc | apply pw_below_drewN | apply below_drew1) | exact HB.out)⟩⟩
    · rw [if_neg c4] at H
      have c4b0 : decide (1048576 < (l0.length : Int)) = false := decide_eq_false c4
      have c4b1 : decide (1048576 < l0.length) = false := decide_eq_false (by omega)
      clear c4
      (first | rw [c4b0] | (simp only [i64_w, i32_w]; rw [c4b0]) | skip)
      have H' := Aside0.mk H
      clear H
      go_wp2
      go_meet
      case rel => exact ⟨_, (decide ((l1.length : Int) > 1048576)), (by first | rfl | (simp; done) | (simp [*]; done)), H', ⟨by first | omega | exact Nat.le_refl _⟩, ⟨by repeat (first | (with_reducible first | exact HB.out | apply below_alloc | apply pw_below_drewN | apply below_drew1) | exact HB.out)⟩⟩
  case rest =>
    clear HC3
    try clear c1
    try clear p2
    try clear c4
    try clear c4b0
    try clear c4b1
    obtain ⟨kq, x32_2, rfl, HA, HJ2, HB⟩ := hcut
    cases kq with
    | zero => exact absurd HA.out (by simp [laws_FnReplace.j0])
    | succ kj2 =>
      have H := HA.out
      clear HA
      simp only [laws_FnReplace.j0] at H
      by_cases c5 : x32_2 = true
      · subst c5
        have H1 : (some true) = some r := by rw [if_pos rfl] at H; exact H
        clear H
        have H := H1
        clear H1
        obtain rfl := Option.some.inj H
        go_wp2
        all_goals (try (exfalso; omega))
        go_ret
        exact ⟨by first | rfl | (simp [errW_none, errW_some] <;> rfl) | (simp [*, errW_none, errW_some] <;> rfl), by repeat (first | (with_reducible first | exact HB.out | apply below_alloc | apply pw_below_drewN | apply below_drew1) | exact HB.out)⟩
      · replace c5 := Bool.eq_false_iff.mpr c5
        subst c5
        have H1 : ((spec_DrawReplaceVar.f kj2 l0).bind fun bt20001 => ((impl_ReplaceVar.f bt20001.1 bt20001.2.1 bt20001.2.2).bind fun bt20004 => ((spec_ReplaceVar.f bt20001.1 bt20001.2.1 bt20001.2.2).bind fun bt20006 => ((spec_DrawFreeVars.f kj2 l1).bind fun t20008 => (if bt20004.1.toList = bt20006.1.toList then (if (bt20004.2 != bt20006.2) = true then (none) else ((impl_FreeVars.f t20008).bind fun t20009 => ((spec_FreeVars.f t20008).bind fun t20010 => (if t20009.toList = t20010.toList then (laws_FnReplace.j1 kj2 bt20001.1 bt20001.2.1 bt20001.2.2 bt20004.1 bt20004.2 bt20006.1 bt20006.2 t20008 (!bt20004.2)) else (laws_FnReplace.j1 kj2 bt20001.1 bt20001.2.1 bt20001.2.2 bt20004.1 bt20004.2 bt20006.1 bt20006.2 t20008 true))))) else (laws_FnReplace.j1 kj2 bt20001.1 bt20001.2.1 bt20001.2.2 bt20004.1 bt20004.2 bt20006.1 bt20006.2 t20008 true)))))) = some r := by rw [if_neg (show ¬ (false = true) by decide)] at H; exact H
        clear H
        have H := H1
        clear H1
        replace H := Option.bind_eq_some_iff.mp H
        obtain ⟨⟨t20001, t20002, t20003⟩, A60, H⟩ := H
        replace H : ((impl_ReplaceVar.f t20001 t20002 t20003).bind fun bt20004 => ((spec_ReplaceVar.f t20001 t20002 t20003).bind fun bt20006 => ((spec_DrawFreeVars.f kj2 l1).bind fun t20008 => (if bt20004.1.toList = bt20006.1.toList then (if (bt20004.2 != bt20006.2) = true then (none) else ((impl_FreeVars.f t20008).bind fun t20009 => ((spec_FreeVars.f t20008).bind fun t20010 => (if t20009.toList = t20010.toList then (laws_FnReplace.j1 kj2 t20001 t20002 t20003 bt20004.1 bt20004.2 bt20006.1 bt20006.2 t20008 (!bt20004.2)) else (laws_FnReplace.j1 kj2 t20001 t20002 t20003 bt20004.1 bt20004.2 bt20006.1 bt20006.2 t20008 true))))) else (laws_FnReplace.j1 kj2 t20001 t20002 t20003 bt20004.1 bt20004.2 bt20006.1 bt20006.2 t20008 true))))) = some r := H
        have A6 := Aside0.mk A60
        clear A60
        replace H := Option.bind_eq_some_iff.mp H
        obtain ⟨⟨t20004, t20005⟩, A70, H⟩ := H
        replace H : ((spec_ReplaceVar.f t20001 t20002 t20003).bind fun bt20006 => ((spec_DrawFreeVars.f kj2 l1).bind fun t20008 => (if t20004.toList = bt20006.1.toList then (if (t20005 != bt20006.2) = true then (none) else ((impl_FreeVars.f t20008).bind fun t20009 => ((spec_FreeVars.f t20008).bind fun t20010 => (if t20009.toList = t20010.toList then (laws_FnReplace.j1 kj2 t20001 t20002 t20003 t20004 t20005 bt20006.1 bt20006.2 t20008 (!t20005)) else (laws_FnReplace.j1 kj2 t20001 t20002 t20003 t20004 t20005 bt20006.1 bt20006.2 t20008 true))))) else (laws_FnReplace.j1 kj2 t20001 t20002 t20003 t20004 t20005 bt20006.1 bt20006.2 t20008 true)))) = some r := H
        have A7 := Aside0.mk A70
        clear A70
        replace H := Option.bind_eq_some_iff.mp H
        obtain ⟨⟨t20006, t20007⟩, A80, H⟩ := H
        replace H : ((spec_DrawFreeVars.f kj2 l1).bind fun t20008 => (if t20004.toList = t20006.toList then (if (t20005 != t20007) = true then (none) else ((impl_FreeVars.f t20008).bind fun t20009 => ((spec_FreeVars.f t20008).bind fun t20010 => (if t20009.toList = t20010.toList then (laws_FnReplace.j1 kj2 t20001 t20002 t20003 t20004 t20005 t20006 t20007 t20008 (!t20005)) else (laws_FnReplace.j1 kj2 t20001 t20002 t20003 t20004 t20005 t20006 t20007 t20008 true))))) else (laws_FnReplace.j1 kj2 t20001 t20002 t20003 t20004 t20005 t20006 t20007 t20008 true))) = some r := H
        have A8 := Aside0.mk A80
        clear A80
        replace H := Option.bind_eq_some_iff.mp H
        obtain ⟨t20008, A90, H⟩ := H
        replace H : (if t20004.toList = t20006.toList then (if (t20005 != t20007) = true then (none) else ((impl_FreeVars.f t20008).bind fun t20009 => ((spec_FreeVars.f t20008).bind fun t20010 => (if t20009.toList = t20010.toList then (laws_FnReplace.j1 kj2 t20001 t20002 t20003 t20004 t20005 t20006 t20007 t20008 (!t20005)) else (laws_FnReplace.j1 kj2 t20001 t20002 t20003 t20004 t20005 t20006 t20007 t20008 true))))) else (laws_FnReplace.j1 kj2 t20001 t20002 t20003 t20004 t20005 t20006 t20007 t20008 true)) = some r := H
        have A9 := Aside0.mk A90
        clear A90
        have HC10 := Aside0.mk H
        clear H
        go_upto_region 7 with (first | ((with_reducible refine gate_callee (f := 13) rfl ?_); refine goesL_ (some 35) rfl rfl Try.func13 (by kernel_rfl) rfl #[.slice A0 l0.length c0] rfl (by (try simp only [List.map_toArray, List.map_cons, List.map_nil]); first | done | rfl | (simp only [List.length_drop, List.length_take]; rfl)) ?_; (with_reducible refine (spec_DrawReplaceVar.calls kj2 _ _ l0 t20001 t20002 t20003 _ ?side1 ?side2 A6.out).mono ?_); (case side1 => repeat (first | exact (Kd.C_below HR0.out HB.out) | (with_reducible refine Kd.C_alloc ?_ _) | (with_reducible refine Kd.C_drewN ?_ _) | (with_reducible refine Kd.C_drew ?_))); (case side2 => exact HC0.out); rintro e w11 ⟨rfl, hb⟩; refine ⟨_, rfl, ?_⟩; have n0_ := Aside0.mk (below_step (by repeat (first | (with_reducible first | exact HB.out | apply below_alloc | apply pw_below_drewN | apply below_drew1) | exact HB.out)) hb); clear HB; have HB := n0_; clear n0_; (try clear hb); (try clear hb2); (try clear hk); (try clear hi)) | ((with_reducible refine gate_callee (f := 14) rfl ?_); refine goesL_ (some 43) rfl rfl Try.func14 (by kernel_rfl) rfl #[.string t20001, .string t20002, .string t20003] rfl (by (try simp only [List.map_toArray, List.map_cons, List.map_nil]); first | done | rfl | (simp only [List.length_drop, List.length_take]; rfl)) ?_; (with_reducible refine (impl_ReplaceVar.calls t20001 t20002 t20003 t20004 t20005 _ A7.out).mono ?_); rintro e w12 ⟨rfl, hb⟩; refine ⟨_, rfl, ?_⟩; have n0_ := Aside0.mk (below_step (by repeat (first | (with_reducible first | exact HB.out | apply below_alloc | apply pw_below_drewN | apply below_drew1) | exact HB.out)) hb); clear HB; have HB := n0_; clear n0_; (try clear hb); (try clear hb2); (try clear hk); (try clear hi)) | ((with_reducible refine gate_callee (f := 15) rfl ?_); refine goesL_ (some 50) rfl rfl Try.func15 (by kernel_rfl) rfl #[.string t20001, .string t20002, .string t20003] rfl (by (try simp only [List.map_toArray, List.map_cons, List.map_nil]); first | done | rfl | (simp only [List.length_drop, List.length_take]; rfl)) ?_; (with_reducible refine (spec_ReplaceVar.calls t20001 t20002 t20003 t20006 t20007 _ A8.out).mono ?_); rintro e w13 ⟨rfl, hb⟩; refine ⟨_, rfl, ?_⟩; have n0_ := Aside0.mk (below_step (by repeat (first | (with_reducible first | exact HB.out | apply below_alloc | apply pw_below_drewN | apply below_drew1) | exact HB.out)) hb); clear HB; have HB := n0_; clear n0_; (try clear hb); (try clear hb2); (try clear hk); (try clear hi)) | ((with_reducible refine gate_callee (f := 16) rfl ?_); refine goesL_ (some 54) rfl rfl Try.func16 (by kernel_rfl) rfl #[.slice A1 l1.length c1] rfl (by (try simp only [List.map_toArray, List.map_cons, List.map_nil]); first | done | rfl | (simp only [List.length_drop, List.length_take]; rfl)) ?_; (with_reducible refine (spec_DrawFreeVars.calls kj2 _ _ l1 t20008 _ ?side1 ?side2 A9.out).mono ?_); (case side1 => repeat (first | exact (Kd.C_below HR1.out HB.out) | (with_reducible refine Kd.C_alloc ?_ _) | (with_reducible refine Kd.C_drewN ?_ _) | (with_reducible refine Kd.C_drew ?_))); (case side2 => exact HC1.out); rintro e w14 ⟨rfl, hb⟩; refine ⟨_, rfl, ?_⟩; have n0_ := Aside0.mk (below_step (by repeat (first | (with_reducible first | exact HB.out | apply below_alloc | apply pw_below_drewN | apply below_drew1) | exact HB.out)) hb); clear HB; have HB := n0_; clear n0_; (try clear hb); (try clear hb2); (try clear hk); (try clear hi)))
        (try simp only [Act.put, List.setIfInBounds_toArray, List.set_cons_zero, List.set_cons_succ])
        go_cut [73] (fun v73 wc => ∃ (kq : Nat) (x73_9 : Bool), v73 = .bool x73_9 ∧ Aside0 (laws_FnReplace.j1 kq t20001 t20002 t20003 t20004 t20005 t20006 t20007 t20008 x73_9 = some r) ∧ Aside0 (kq ≤ kj2) ∧ Aside0 (Below w.heap.size w wc))
        case first =>
          have H := HC10.out
          clear HC10
          by_cases c15 : t20004.toList = t20006.toList
          · rw [if_pos c15] at H
            have c15b0 : (t20004.toList == t20006.toList) = true := beq_iff_eq.mpr c15
            have c15b1 : (t20004.toList != t20006.toList) = false := bne_eq_false_iff_eq.mpr c15
            clear c15
            (first | rw [c15b0] | (simp only [i64_w, i32_w]; rw [c15b0]) | skip)
            by_cases c16 : (t20005 != t20007) = true
            · rw [if_pos c16] at H
              exact absurd H (by simp)
            · rw [if_neg c16] at H
              have c16b0 : (t20005 != t20007) = false := by simpa using c16
              (try (have c16b1 : decide (t20005 = t20007) = true := by simpa using c16))
              (try (have c16b2 : (t20005 == t20007) = true := by simpa using c16))
              clear c16
              replace H := Option.bind_eq_some_iff.mp H
              obtain ⟨t20009, A170, H⟩ := H
              replace H : ((spec_FreeVars.f t20008).bind fun t20010 => (if t20009.toList = t20010.toList then (laws_FnReplace.j1 kj2 t20001 t20002 t20003 t20004 t20005 t20006 t20007 t20008 (!t20005)) else (laws_FnReplace.j1 kj2 t20001 t20002 t20003 t20004 t20005 t20006 t20007 t20008 true))) = some r := H
              have A17 := Aside0.mk A170
              clear A170
              replace H := Option.bind_eq_some_iff.mp H
              obtain ⟨t20010, A180, H⟩ := H
              replace H : (if t20009.toList = t20010.toList then (laws_FnReplace.j1 kj2 t20001 t20002 t20003 t20004 t20005 t20006 t20007 t20008 (!t20005)) else (laws_FnReplace.j1 kj2 t20001 t20002 t20003 t20004 t20005 t20006 t20007 t20008 true)) = some r := H
              have A18 := Aside0.mk A180
              clear A180
              by_cases c19 : t20009.toList = t20010.toList
              · rw [if_pos c19] at H
                have c19b0 : (t20009.toList == t20010.toList) = true := beq_iff_eq.mpr c19
                have c19b1 : (t20009.toList != t20010.toList) = false := bne_eq_false_iff_eq.mpr c19
                clear c19
                have H' := Aside0.mk H
                clear H
                go_wp2_with (first | (go_at_call 10; (with_reducible refine (impl_FreeVars.calls t20008 t20009 _ A17.out).mono ?_); rintro e w20 ⟨rfl, hb⟩; have n0_ := Aside0.mk (below_step (by repeat (first | (with_reducible first | exact HB.out | apply below_alloc | apply pw_below_drewN | apply below_drew1) | exact HB.out)) hb); clear HB; have HB := n0_; clear n0_; (try clear hb); (try clear hb2); (try clear hk); (try clear hi)) | (go_at_call 17; (with_reducible refine (spec_FreeVars.calls t20008 t20010 _ A18.out).mono ?_); rintro e w21 ⟨rfl, hb⟩; have n0_ := Aside0.mk (below_step (by repeat (first | (with_reducible first | exact HB.out | apply below_alloc | apply pw_below_drewN | apply below_drew1) | exact HB.out)) hb); clear HB; have HB := n0_; clear n0_; (try clear hb); (try clear hb2); (try clear hk); (try clear hi)))
                go_meet
                case rel => exact ⟨_, (!t20005), (by first | rfl | (simp; done) | (simp [*]; done)), H', ⟨by have := HJ2.out; first | omega | exact Nat.le_refl _⟩, ⟨by repeat (first | (with_reducible first | exact HB.out | apply below_alloc | apply pw_below_drewN | apply below_drew1) | exact HB.out)⟩⟩
              · rw [if_neg c19] at H
                have c19b0 : (t20009.toList == t20010.toList) = false := beq_eq_false_iff_ne.mpr c19
                have c19b1 : (t20009.toList != t20010.toList) = true := bne_iff_ne.mpr c19
                have H' := Aside0.mk H
                clear H
                go_wp2_with (first | (go_at_call 10; (with_reducible refine (impl_FreeVars.calls t20008 t20009 _ A17.out).mono ?_); rintro e w22 ⟨rfl, hb⟩; have n0_ := Aside0.mk (below_step (by repeat (first | (with_reducible first | exact HB.out | apply below_alloc | apply pw_below_drewN | apply below_drew1) | exact HB.out)) hb); clear HB; have HB := n0_; clear n0_; (try clear hb); (try clear hb2); (try clear hk); (try clear hi)) | (go_at_call 17; (with_reducible refine (spec_FreeVars.calls t20008 t20010 _ A18.out).mono ?_); rintro e w23 ⟨rfl, hb⟩; have n0_ := Aside0.mk (below_step (by repeat (first | (with_reducible first | exact HB.out | apply below_alloc | apply pw_below_drewN | apply below_drew1) | exact HB.out)) hb); clear HB; have HB := n0_; clear n0_; (try clear hb); (try clear hb2); (try clear hk); (try clear hi)))
                go_meet
                case rel => exact ⟨_, (true), (by first | rfl | (simp; done) | (simp [*]; done)), H', ⟨by have := HJ2.out; first | omega | exact Nat.le_refl _⟩, ⟨by repeat (first | (with_reducible first | exact HB.out | apply below_alloc | apply pw_below_drewN | apply below_drew1) | exact HB.out)⟩⟩
          · rw [if_neg c15] at H
            have c15b0 : (t20004.toList == t20006.toList) = false := beq_eq_false_iff_ne.mpr c15
            have c15b1 : (t20004.toList != t20006.toList) = true := bne_iff_ne.mpr c15
            (first | rw [c15b0] | (simp only [i64_w, i32_w]; rw [c15b0]) | skip)
            have H' := Aside0.mk H
            clear H
            go_wp2
            go_meet
            case rel => exact ⟨_, (true), (by first | rfl | (simp; done) | (simp [*]; done)), H', ⟨by have := HJ2.out; first | omega | exact Nat.le_refl _⟩, ⟨by repeat (first | (with_reducible first | exact HB.out | apply below_alloc | apply pw_below_drewN | apply below_drew1) | exact HB.out)⟩⟩
        case rest =>
          clear HC10
          try clear c1
          try clear p2
          try clear c4
          try clear c4b0
          try clear c4b1
          try clear c5
          try clear c13
          try clear c14
          try clear c15
          try clear c15b0
          try clear c15b1
          try clear c16
          try clear c16b0
          try clear c16b1
          try clear c16b2
          try clear c19
          try clear c19b0
          try clear c19b1
          try clear p2
          obtain ⟨kq, x73_9, rfl, HA, HJ9, HB⟩ := hcut
          cases kq with
          | zero => exact absurd HA.out (by simp [laws_FnReplace.j1])
          | succ kj9 =>
            have H := HA.out
            clear HA
            simp only [laws_FnReplace.j1] at H
            by_cases c24 : x73_9 = true
            · subst c24
              have H1 : (if t20004.toList = t20006.toList then (if (t20005 == t20007) = true then ((impl_FreeVars.f t20008).bind fun t20011 => ((spec_FreeVars.f t20008).bind fun t20012 => (some (t20011.toList == t20012.toList)))) else (none)) else (none)) = some r := by rw [if_pos rfl] at H; exact H
              clear H
              have H := H1
              clear H1
              by_cases c25 : t20004.toList = t20006.toList
              · rw [if_pos c25] at H
                have c25b0 : (t20004.toList == t20006.toList) = true := beq_iff_eq.mpr c25
                have c25b1 : (t20004.toList != t20006.toList) = false := bne_eq_false_iff_eq.mpr c25
                clear c25
                by_cases c26 : (t20005 == t20007) = true
                · rw [if_pos c26] at H
                  have c26b0 : (t20005 == t20007) = true := c26
                  (try (have c26b1 : decide (t20005 = t20007) = true := by simpa using c26))
                  (try (have c26b2 : (t20005 == t20007) = true := by simpa using c26))
                  clear c26
                  replace H := Option.bind_eq_some_iff.mp H
                  obtain ⟨t20011, A270, H⟩ := H
                  replace H : ((spec_FreeVars.f t20008).bind fun t20012 => (some (t20011.toList == t20012.toList))) = some r := H
                  have A27 := Aside0.mk A270
                  clear A270
                  replace H := Option.bind_eq_some_iff.mp H
                  obtain ⟨t20012, A280, H⟩ := H
                  replace H : (some (t20011.toList == t20012.toList)) = some r := H
                  have A28 := Aside0.mk A280
                  clear A280
                  obtain rfl := Option.some.inj H
                  go_wp2_with (first | (go_at_call 10; (with_reducible refine (impl_FreeVars.calls t20008 t20011 _ A27.out).mono ?_); rintro e w29 ⟨rfl, hb⟩; have n0_ := Aside0.mk (below_step (by repeat (first | (with_reducible first | exact HB.out | apply below_alloc | apply pw_below_drewN | apply below_drew1) | exact HB.out)) hb); clear HB; have HB := n0_; clear n0_; (try clear hb); (try clear hb2); (try clear hk); (try clear hi)) | (go_at_call 17; (with_reducible refine (spec_FreeVars.calls t20008 t20012 _ A28.out).mono ?_); rintro e w30 ⟨rfl, hb⟩; have n0_ := Aside0.mk (below_step (by repeat (first | (with_reducible first | exact HB.out | apply below_alloc | apply pw_below_drewN | apply below_drew1) | exact HB.out)) hb); clear HB; have HB := n0_; clear n0_; (try clear hb); (try clear hb2); (try clear hk); (try clear hi)))
                  all_goals (try (exfalso; omega))
                  go_ret
                  exact ⟨by first | rfl | (simp [errW_none, errW_some] <;> rfl) | (simp [*, errW_none, errW_some] <;> rfl), by repeat (first | (with_reducible first | exact HB.out | apply below_alloc | apply pw_below_drewN | apply below_drew1) | exact HB.out)⟩
                · rw [if_neg c26] at H
                  exact absurd H (by simp)
              · rw [if_neg c25] at H
                exact absurd H (by simp)
            · replace c24 := Bool.eq_false_iff.mpr c24
              subst c24
              have H1 : ((impl_FreeVars.f t20001).bind fun t20013 => ((impl_FreeVars.f t20004).bind fun t20014 => ((impl_FreeVars.f t20003).bind fun t20015 => (laws_FnReplace.l0 kj9 t20001 t20002 t20003 t20004 t20013 t20014 t20015 false (t20013.size : Int) 0)))) = some r := by rw [if_neg (show ¬ (false = true) by decide)] at H; exact H
              clear H
              have H := H1
              clear H1
              replace H := Option.bind_eq_some_iff.mp H
              obtain ⟨t20013, A310, H⟩ := H
              replace H : ((impl_FreeVars.f t20004).bind fun t20014 => ((impl_FreeVars.f t20003).bind fun t20015 => (laws_FnReplace.l0 kj9 t20001 t20002 t20003 t20004 t20013 t20014 t20015 false (t20013.size : Int) 0))) = some r := H
              have A31 := Aside0.mk A310
              clear A310
              replace H := Option.bind_eq_some_iff.mp H
              obtain ⟨t20014, A320, H⟩ := H
              replace H : ((impl_FreeVars.f t20003).bind fun t20015 => (laws_FnReplace.l0 kj9 t20001 t20002 t20003 t20004 t20013 t20014 t20015 false (t20013.size : Int) 0)) = some r := H
              have A32 := Aside0.mk A320
              clear A320
              replace H := Option.bind_eq_some_iff.mp H
              obtain ⟨t20015, A330, H⟩ := H
              replace H : (laws_FnReplace.l0 kj9 t20001 t20002 t20003 t20004 t20013 t20014 t20015 false (t20013.size : Int) 0) = some r := H
              have A33 := Aside0.mk A330
              clear A330
              have H' := Aside0.mk H
              clear H
              go_wp2_with (first | ((with_reducible refine gate_callee (f := 10) rfl ?_); refine goesL_ (some 90) rfl rfl Try.func10 (by kernel_rfl) rfl #[.string t20001] rfl (by (try simp only [List.map_toArray, List.map_cons, List.map_nil]); first | done | rfl | (simp only [List.length_drop, List.length_take]; rfl)) ?_; (with_reducible refine (impl_FreeVars.calls t20001 t20013 _ A31.out).mono ?_); rintro e w34 ⟨rfl, hb⟩; refine ⟨_, rfl, ?_⟩; have n0_ := Aside0.mk (below_step (by repeat (first | (with_reducible first | exact HB.out | apply below_alloc | apply pw_below_drewN | apply below_drew1) | exact HB.out)) hb); clear HB; have HB := n0_; clear n0_; (try clear hb); (try clear hb2); (try clear hk); (try clear hi)) | ((with_reducible refine gate_callee (f := 10) rfl ?_); refine goesL_ (some 92) rfl rfl Try.func10 (by kernel_rfl) rfl #[.string t20004] rfl (by (try simp only [List.map_toArray, List.map_cons, List.map_nil]); first | done | rfl | (simp only [List.length_drop, List.length_take]; rfl)) ?_; (with_reducible refine (impl_FreeVars.calls t20004 t20014 _ A32.out).mono ?_); rintro e w35 ⟨rfl, hb⟩; refine ⟨_, rfl, ?_⟩; have n0_ := Aside0.mk (below_step (by repeat (first | (with_reducible first | exact HB.out | apply below_alloc | apply pw_below_drewN | apply below_drew1) | exact HB.out)) hb); clear HB; have HB := n0_; clear n0_; (try clear hb); (try clear hb2); (try clear hk); (try clear hi)) | ((with_reducible refine gate_callee (f := 10) rfl ?_); refine goesL_ (some 94) rfl rfl Try.func10 (by kernel_rfl) rfl #[.string t20003] rfl (by (try simp only [List.map_toArray, List.map_cons, List.map_nil]); first | done | rfl | (simp only [List.length_drop, List.length_take]; rfl)) ?_; (with_reducible refine (impl_FreeVars.calls t20003 t20015 _ A33.out).mono ?_); rintro e w36 ⟨rfl, hb⟩; refine ⟨_, rfl, ?_⟩; have n0_ := Aside0.mk (below_step (by repeat (first | (with_reducible first | exact HB.out | apply below_alloc | apply pw_below_drewN | apply below_drew1) | exact HB.out)) hb); clear HB; have HB := n0_; clear n0_; (try clear hb); (try clear hb2); (try clear hk); (try clear hi)))
              go_loopg [16, 97] kj9 (fun kq v16 v97 w' => ∃ (x16_3 : Bool) (x97_3 : Int), v16 = .bool x16_3 ∧ v97 = .int .i64 x97_3 ∧ Aside0 (laws_FnReplace.l0 kq t20001 t20002 t20003 t20004 t20013 t20014 t20015 x16_3 (t20013.size : Int) x97_3 = some r) ∧ Aside0 (kq ≤ kj9) ∧ Aside0 (Below w.heap.size w w'))
              case atStart => exact ⟨(false), (0), (by first | rfl | (simp; done) | (simp [*]; done)), (by first | rfl | (simp; done) | (simp [*]; done)), H', ⟨Nat.le_refl _⟩, ⟨by repeat (first | (with_reducible first | exact HB.out | apply below_alloc | apply pw_below_drewN | apply below_drew1) | exact HB.out)⟩⟩
              case round =>
                clear H'
                try clear c1
                try clear c2
                try clear p2
                try clear c4
                try clear c4b0
                try clear c4b1
                try clear c5
                try clear c10
                try clear c13
                try clear c14
                try clear c15
                try clear c15b0
                try clear c15b1
                try clear c16
                try clear c16b0
                try clear c16b1
                try clear c16b2
                try clear c19
                try clear c19b0
                try clear c19b1
                try clear c24
                try clear c25
                try clear c25b0
                try clear c25b1
                try clear c26
                try clear c26b0
                try clear c26b1
                try clear c26b2
                try clear p2
                obtain ⟨x16_3, x97_3, rfl, rfl, HA, HK3, HB⟩ := hrel
                cases gk with
                | zero => exact absurd HA.out (by simp [laws_FnReplace.l0])
                | succ k3 =>
                  have H := HA.out
                  clear HA
                  simp only [laws_FnReplace.l0] at H
                  by_cases c37 : x97_3 < (t20013.size : Int)
                  · rw [if_pos c37] at H
                    have c37b0 : decide (x97_3 < (t20013.size : Int)) = true := decide_eq_true c37
                    clear c37
                    by_cases c38 : x16_3 = true
                    · subst c38
                      have H1 : (laws_FnReplace.l0 k3 t20001 t20002 t20003 t20004 t20013 t20014 t20015 true (t20013.size : Int) (wrap64 (x97_3 + 1))) = some r := by rw [if_pos rfl] at H; exact H
                      clear H
                      have H := H1
                      clear H1
                      have H' := Aside0.mk H
                      clear H
                      go_wp2
                      go_roundg k3
                      case measure => have := HJ2.out; have := HJ9.out; have := HK3.out; omega
                      case rel => exact ⟨(true), (wrap64 (x97_3 + 1)), (by first | rfl | (simp; done) | (simp [*]; done)), (by first | rfl | (simp; done) | (simp [*]; done)), H', ⟨by have := HJ2.out; have := HJ9.out; have := HK3.out; omega⟩, ⟨by repeat (first | (with_reducible first | exact HB.out | apply below_alloc | apply pw_below_drewN | apply below_drew1) | exact HB.out)⟩⟩
                    · replace c38 := Bool.eq_false_iff.mpr c38
                      subst c38
                      have H1 : (if 0 ≤ x97_3 then (if x97_3 ≤ (wrap64 (x97_3 + 1)) then (if (wrap64 (x97_3 + 1)) ≤ (t20013.size : Int) then (laws_FnReplace.l0 k3 t20001 t20002 t20003 t20004 t20013 t20014 t20015 ((t20013.extract (x97_3 : Int).toNat ((wrap64 (x97_3 + 1)) : Int).toNat).toList == t20002.toList) (t20013.size : Int) (wrap64 (x97_3 + 1))) else (none)) else (none)) else (none)) = some r := by rw [if_neg (show ¬ (false = true) by decide)] at H; exact H
                      clear H
                      have H := H1
                      clear H1
                      by_cases c39 : 0 ≤ x97_3
                      · rw [if_pos c39] at H
                        have c39b0 := eq_true c39
                        have c39b1 : decide (0 ≤ x97_3) = true := decide_eq_true c39
                        clear c39
                        by_cases c40 : x97_3 ≤ (wrap64 (x97_3 + 1))
                        · rw [if_pos c40] at H
                          have c40b0 := eq_true c40
                          have c40b1 : decide (x97_3 ≤ (wrap64 (x97_3 + 1))) = true := decide_eq_true c40
                          by_cases c41 : (wrap64 (x97_3 + 1)) ≤ (t20013.size : Int)
                          · rw [if_pos c41] at H
                            have c41b0 := eq_true c41
                            have c41b1 : decide ((wrap64 (x97_3 + 1)) ≤ (t20013.size : Int)) = true := decide_eq_true c41
                            have H' := Aside0.mk H
                            clear H
                            go_wp2
                            go_roundg k3
                            case measure => have := HJ2.out; have := HJ9.out; have := HK3.out; omega
                            case rel => exact ⟨(((t20013.extract (x97_3 : Int).toNat ((wrap64 (x97_3 + 1)) : Int).toNat).toList == t20002.toList)), (wrap64 (x97_3 + 1)), (by first | rfl | (simp; done) | (simp [*]; done)), (by first | rfl | (simp; done) | (simp [*]; done)), H', ⟨by have := HJ2.out; have := HJ9.out; have := HK3.out; omega⟩, ⟨by repeat (first | (with_reducible first | exact HB.out | apply below_alloc | apply pw_below_drewN | apply below_drew1) | exact HB.out)⟩⟩
                          · rw [if_neg c41] at H
                            exact absurd H (by simp)
                        · rw [if_neg c40] at H
                          exact absurd H (by simp)
                      · rw [if_neg c39] at H
                        exact absurd H (by simp)
                  · rw [if_neg c37] at H
                    have c37b0 : decide (x97_3 < (t20013.size : Int)) = false := decide_eq_false c37
                    clear c37
                    by_cases c42 : x16_3 = true
                    · subst c42
                      have H1 : (laws_FnReplace.l1 k3 t20001 t20002 t20003 t20004 t20013 t20014 t20015 (t20014.size : Int) 0) = some r := by rw [if_pos rfl] at H; exact H
                      clear H
                      have H := H1
                      clear H1
                      have H' := Aside0.mk H
                      clear H
                      go_wp2
                      go_loopg [118] k3 (fun kq v118 w' => ∃ (x118_4 : Int), v118 = .int .i64 x118_4 ∧ Aside0 (laws_FnReplace.l1 kq t20001 t20002 t20003 t20004 t20013 t20014 t20015 (t20014.size : Int) x118_4 = some r) ∧ Aside0 (kq ≤ k3) ∧ Aside0 (Below w.heap.size w w'))
                      case atStart => exact ⟨(0), (by first | rfl | (simp; done) | (simp [*]; done)), H', ⟨Nat.le_refl _⟩, ⟨by repeat (first | (with_reducible first | exact HB.out | apply below_alloc | apply pw_below_drewN | apply below_drew1) | exact HB.out)⟩⟩
                      case round =>
                        clear H'
                        try clear c1
                        try clear c2
                        try clear p2
                        try clear c3
                        try clear c4
                        try clear c4b0
                        try clear c4b1
                        try clear c5
                        try clear p6
                        try clear c10
                        try clear c13
                        try clear c14
                        try clear c15
                        try clear c15b0
                        try clear c15b1
                        try clear c16
                        try clear c16b0
                        try clear c16b1
                        try clear c16b2
                        try clear c19
                        try clear c19b0
                        try clear c19b1
                        try clear c24
                        try clear c25
                        try clear c25b0
                        try clear c25b1
                        try clear c26
                        try clear c26b0
                        try clear c26b1
                        try clear c26b2
                        try clear c37
                        try clear c37b0
                        try clear c38
                        try clear c39
                        try clear c39b0
                        try clear c39b1
                        try clear c40
                        try clear c40b0
                        try clear c40b1
                        try clear c41
                        try clear c41b0
                        try clear c41b1
                        try clear c42
                        try clear p2
                        obtain ⟨x118_4, rfl, HA, HK4, HB⟩ := hrel
                        cases gk with
                        | zero => exact absurd HA.out (by simp [laws_FnReplace.l1])
                        | succ k4 =>
                          have H := HA.out
                          clear HA
                          simp only [laws_FnReplace.l1] at H
                          by_cases c43 : x118_4 < (t20014.size : Int)
                          · rw [if_pos c43] at H
                            have c43b0 : decide (x118_4 < (t20014.size : Int)) = true := decide_eq_true c43
                            clear c43
                            by_cases c44 : 0 ≤ x118_4
                            · rw [if_pos c44] at H
                              have c44b0 := eq_true c44
                              have c44b1 : decide (0 ≤ x118_4) = true := decide_eq_true c44
                              clear c44
                              by_cases c45 : x118_4 ≤ (wrap64 (x118_4 + 1))
                              · rw [if_pos c45] at H
                                have c45b0 := eq_true c45
                                have c45b1 : decide (x118_4 ≤ (wrap64 (x118_4 + 1))) = true := decide_eq_true c45
                                by_cases c46 : (wrap64 (x118_4 + 1)) ≤ (t20014.size : Int)
                                · rw [if_pos c46] at H
                                  have c46b0 := eq_true c46
                                  have c46b1 : decide ((wrap64 (x118_4 + 1)) ≤ (t20014.size : Int)) = true := decide_eq_true c46
                                  have H' := Aside0.mk H
                                  clear H
                                  go_wp2
                                  go_loopg [20, 128] k4 (fun kq v20 v128 w' => ∃ (x20_5 : Bool) (x128_5 : Int), v20 = .bool x20_5 ∧ v128 = .int .i64 x128_5 ∧ Aside0 (laws_FnReplace.l2 kq t20001 t20002 t20003 t20004 t20013 t20014 t20015 (t20014.extract (x118_4 : Int).toNat ((wrap64 (x118_4 + 1)) : Int).toNat) x20_5 (t20014.size : Int) x118_4 (t20015.size : Int) x128_5 = some r) ∧ Aside0 (kq ≤ k4) ∧ Aside0 (Below w.heap.size w w'))
                                  case atStart => exact ⟨(false), (0), (by first | rfl | (simp; done) | (simp [*]; done)), (by first | rfl | (simp; done) | (simp [*]; done)), H', ⟨Nat.le_refl _⟩, ⟨by repeat (first | (with_reducible first | exact HB.out | apply below_alloc | apply pw_below_drewN | apply below_drew1) | exact HB.out)⟩⟩
                                  case round =>
                                    clear H'
                                    try clear c1
                                    try clear c2
                                    try clear p2
                                    try clear c3
                                    try clear c4
                                    try clear c4b0
                                    try clear c4b1
                                    try clear c5
                                    try clear p6
                                    try clear c10
                                    try clear c13
                                    try clear c14
                                    try clear c15
                                    try clear c15b0
                                    try clear c15b1
                                    try clear c16
                                    try clear c16b0
                                    try clear c16b1
                                    try clear c16b2
                                    try clear c19
                                    try clear c19b0
                                    try clear c19b1
                                    try clear c24
                                    try clear c25
                                    try clear c25b0
                                    try clear c25b1
                                    try clear c26
                                    try clear c26b0
                                    try clear c26b1
                                    try clear c26b2
                                    try clear c37
                                    try clear c37b0
                                    try clear c38
                                    try clear c39
                                    try clear c39b0
                                    try clear c39b1
                                    try clear c40
                                    try clear c40b0
                                    try clear c40b1
                                    try clear c41
                                    try clear c41b0
                                    try clear c41b1
                                    try clear c42
                                    try clear c43
                                    try clear c43b0
                                    try clear c44
                                    try clear c44b0
                                    try clear c44b1
                                    try clear c45
                                    try clear c45b0
                                    try clear c45b1
                                    try clear c46
                                    try clear c46b0
                                    try clear c46b1
                                    try clear p2
                                    try clear p6
                                    obtain ⟨x20_5, x128_5, rfl, rfl, HA, HK5, HB⟩ := hrel
                                    cases gk with
                                    | zero => exact absurd HA.out (by simp [laws_FnReplace.l2])
                                    | succ k5 =>
                                      have H := HA.out
                                      clear HA
                                      simp only [laws_FnReplace.l2] at H
                                      by_cases c47 : x128_5 < (t20015.size : Int)
                                      · rw [if_pos c47] at H
                                        have c47b0 : decide (x128_5 < (t20015.size : Int)) = true := decide_eq_true c47
                                        clear c47
                                        by_cases c48 : x20_5 = true
                                        · subst c48
                                          have H1 : (laws_FnReplace.l2 k5 t20001 t20002 t20003 t20004 t20013 t20014 t20015 (t20014.extract (x118_4 : Int).toNat ((wrap64 (x118_4 + 1)) : Int).toNat) true (t20014.size : Int) x118_4 (t20015.size : Int) (wrap64 (x128_5 + 1))) = some r := by rw [if_pos rfl] at H; exact H
                                          clear H
                                          have H := H1
                                          clear H1
                                          have H' := Aside0.mk H
                                          clear H
                                          go_wp2
                                          go_roundg k5
                                          case measure => have := HJ2.out; have := HJ9.out; have := HK3.out; have := HK4.out; have := HK5.out; omega
                                          case rel => exact ⟨(true), (wrap64 (x128_5 + 1)), (by first | rfl | (simp; done) | (simp [*]; done)), (by first | rfl | (simp; done) | (simp [*]; done)), H', ⟨by have := HJ2.out; have := HJ9.out; have := HK3.out; have := HK4.out; have := HK5.out; omega⟩, ⟨by repeat (first | (with_reducible first | exact HB.out | apply below_alloc | apply pw_below_drewN | apply below_drew1) | exact HB.out)⟩⟩
                                        · replace c48 := Bool.eq_false_iff.mpr c48
                                          subst c48
                                          have H1 : (if 0 ≤ x128_5 then (if x128_5 ≤ (wrap64 (x128_5 + 1)) then (if (wrap64 (x128_5 + 1)) ≤ (t20015.size : Int) then (laws_FnReplace.l2 k5 t20001 t20002 t20003 t20004 t20013 t20014 t20015 (t20014.extract (x118_4 : Int).toNat ((wrap64 (x118_4 + 1)) : Int).toNat) ((t20015.extract (x128_5 : Int).toNat ((wrap64 (x128_5 + 1)) : Int).toNat).toList == (t20014.extract (x118_4 : Int).toNat ((wrap64 (x118_4 + 1)) : Int).toNat).toList) (t20014.size : Int) x118_4 (t20015.size : Int) (wrap64 (x128_5 + 1))) else (none)) else (none)) else (none)) = some r := by rw [if_neg (show ¬ (false = true) by decide)] at H; exact H
                                          clear H
                                          have H := H1
                                          clear H1
                                          by_cases c49 : 0 ≤ x128_5
                                          · rw [if_pos c49] at H
                                            have c49b0 := eq_true c49
                                            have c49b1 : decide (0 ≤ x128_5) = true := decide_eq_true c49
                                            clear c49
                                            by_cases c50 : x128_5 ≤ (wrap64 (x128_5 + 1))
                                            · rw [if_pos c50] at H
                                              have c50b0 := eq_true c50
                                              have c50b1 : decide (x128_5 ≤ (wrap64 (x128_5 + 1))) = true := decide_eq_true c50
                                              by_cases c51 : (wrap64 (x128_5 + 1)) ≤ (t20015.size : Int)
                                              · rw [if_pos c51] at H
                                                have c51b0 := eq_true c51
                                                have c51b1 : decide ((wrap64 (x128_5 + 1)) ≤ (t20015.size : Int)) = true := decide_eq_true c51
                                                have H' := Aside0.mk H
                                                clear H
                                                go_wp2
                                                go_roundg k5
                                                case measure => have := HJ2.out; have := HJ9.out; have := HK3.out; have := HK4.out; have := HK5.out; omega
                                                case rel => exact ⟨(((t20015.extract (x128_5 : Int).toNat ((wrap64 (x128_5 + 1)) : Int).toNat).toList == (t20014.extract (x118_4 : Int).toNat ((wrap64 (x118_4 + 1)) : Int).toNat).toList)), (wrap64 (x128_5 + 1)), (by first | rfl | (simp; done) | (simp [*]; done)), (by first | rfl | (simp; done) | (simp [*]; done)), H', ⟨by have := HJ2.out; have := HJ9.out; have := HK3.out; have := HK4.out; have := HK5.out; omega⟩, ⟨by repeat (first | (with_reducible first | exact HB.out | apply below_alloc | apply pw_below_drewN | apply below_drew1) | exact HB.out)⟩⟩
                                              · rw [if_neg c51] at H
                                                exact absurd H (by simp)
                                            · rw [if_neg c50] at H
                                              exact absurd H (by simp)
                                          · rw [if_neg c49] at H
                                            exact absurd H (by simp)
                                      · rw [if_neg c47] at H
                                        have c47b0 : decide (x128_5 < (t20015.size : Int)) = false := decide_eq_false c47
                                        clear c47
                                        have H' := Aside0.mk H
                                        clear H
                                        go_wp2
                                        go_loopg [20, 144] k5 (fun kq v20 v144 w' => ∃ (x20_6 : Bool) (x144_6 : Int), v20 = .bool x20_6 ∧ v144 = .int .i64 x144_6 ∧ Aside0 (laws_FnReplace.l3 kq t20001 t20002 t20003 t20004 t20013 t20014 t20015 (t20014.extract (x118_4 : Int).toNat ((wrap64 (x118_4 + 1)) : Int).toNat) x20_6 (t20014.size : Int) x118_4 (t20013.size : Int) x144_6 = some r) ∧ Aside0 (kq ≤ k5) ∧ Aside0 (Below w.heap.size w w'))
                                        case atStart => exact ⟨(x20_5), (0), (by first | rfl | (simp; done) | (simp [*]; done)), (by first | rfl | (simp; done) | (simp [*]; done)), H', ⟨Nat.le_refl _⟩, ⟨by repeat (first | (with_reducible first | exact HB.out | apply below_alloc | apply pw_below_drewN | apply below_drew1) | exact HB.out)⟩⟩
                                        case round =>
                                          clear H'
                                          try clear c1
                                          try clear c2
                                          try clear p2
                                          try clear c3
                                          try clear c4
                                          try clear c4b0
                                          try clear c4b1
                                          try clear c5
                                          try clear p6
                                          try clear c10
                                          try clear c13
                                          try clear c14
                                          try clear c15
                                          try clear c15b0
                                          try clear c15b1
                                          try clear c16
                                          try clear c16b0
                                          try clear c16b1
                                          try clear c16b2
                                          try clear c19
                                          try clear c19b0
                                          try clear c19b1
                                          try clear c24
                                          try clear c25
                                          try clear c25b0
                                          try clear c25b1
                                          try clear c26
                                          try clear c26b0
                                          try clear c26b1
                                          try clear c26b2
                                          try clear c37
                                          try clear c37b0
                                          try clear c38
                                          try clear c39
                                          try clear c39b0
                                          try clear c39b1
                                          try clear c40
                                          try clear c40b0
                                          try clear c40b1
                                          try clear c41
                                          try clear c41b0
                                          try clear c41b1
                                          try clear c42
                                          try clear c43
                                          try clear c43b0
                                          try clear c44
                                          try clear c44b0
                                          try clear c44b1
                                          try clear c45
                                          try clear c45b0
                                          try clear c45b1
                                          try clear c46
                                          try clear c46b0
                                          try clear c46b1
                                          try clear c47
                                          try clear c47b0
                                          try clear c48
                                          try clear c49
                                          try clear c49b0
                                          try clear c49b1
                                          try clear c50
                                          try clear c50b0
                                          try clear c50b1
                                          try clear c51
                                          try clear c51b0
                                          try clear c51b1
                                          try clear p2
                                          try clear p6
                                          obtain ⟨x20_6, x144_6, rfl, rfl, HA, HK6, HB⟩ := hrel
                                          cases gk with
                                          | zero => exact absurd HA.out (by simp [laws_FnReplace.l3])
                                          | succ k6 =>
                                            have H := HA.out
                                            clear HA
                                            simp only [laws_FnReplace.l3] at H
                                            by_cases c52 : x144_6 < (t20013.size : Int)
                                            · rw [if_pos c52] at H
                                              have c52b0 : decide (x144_6 < (t20013.size : Int)) = true := decide_eq_true c52
                                              clear c52
                                              by_cases c53 : x20_6 = true
                                              · subst c53
                                                have H1 : (laws_FnReplace.l3 k6 t20001 t20002 t20003 t20004 t20013 t20014 t20015 (t20014.extract (x118_4 : Int).toNat ((wrap64 (x118_4 + 1)) : Int).toNat) true (t20014.size : Int) x118_4 (t20013.size : Int) (wrap64 (x144_6 + 1))) = some r := by rw [if_pos rfl] at H; exact H
                                                clear H
                                                have H := H1
                                                clear H1
                                                have H' := Aside0.mk H
                                                clear H
                                                go_wp2
                                                go_roundg k6
                                                case measure => have := HJ2.out; have := HJ9.out; have := HK3.out; have := HK4.out; have := HK5.out; have := HK6.out; omega
                                                case rel => exact ⟨(true), (wrap64 (x144_6 + 1)), (by first | rfl | (simp; done) | (simp [*]; done)), (by first | rfl | (simp; done) | (simp [*]; done)), H', ⟨by have := HJ2.out; have := HJ9.out; have := HK3.out; have := HK4.out; have := HK5.out; have := HK6.out; omega⟩, ⟨by repeat (first | (with_reducible first | exact HB.out | apply below_alloc | apply pw_below_drewN | apply below_drew1) | exact HB.out)⟩⟩
                                              · replace c53 := Bool.eq_false_iff.mpr c53
                                                subst c53
                                                have H1 : (if 0 ≤ x144_6 then (if x144_6 ≤ (wrap64 (x144_6 + 1)) then (if (wrap64 (x144_6 + 1)) ≤ (t20013.size : Int) then (if (t20013.extract (x144_6 : Int).toNat ((wrap64 (x144_6 + 1)) : Int).toNat).toList = (t20014.extract (x118_4 : Int).toNat ((wrap64 (x118_4 + 1)) : Int).toNat).toList then (laws_FnReplace.l3 k6 t20001 t20002 t20003 t20004 t20013 t20014 t20015 (t20014.extract (x118_4 : Int).toNat ((wrap64 (x118_4 + 1)) : Int).toNat) ((t20014.extract (x118_4 : Int).toNat ((wrap64 (x118_4 + 1)) : Int).toNat).toList != t20002.toList) (t20014.size : Int) x118_4 (t20013.size : Int) (wrap64 (x144_6 + 1))) else (laws_FnReplace.l3 k6 t20001 t20002 t20003 t20004 t20013 t20014 t20015 (t20014.extract (x118_4 : Int).toNat ((wrap64 (x118_4 + 1)) : Int).toNat) false (t20014.size : Int) x118_4 (t20013.size : Int) (wrap64 (x144_6 + 1)))) else (none)) else (none)) else (none)) = some r := by rw [if_neg (show ¬ (false = true) by decide)] at H; exact H
                                                clear H
                                                have H := H1
                                                clear H1
                                                by_cases c54 : 0 ≤ x144_6
                                                · rw [if_pos c54] at H
                                                  have c54b0 := eq_true c54
                                                  have c54b1 : decide (0 ≤ x144_6) = true := decide_eq_true c54
                                                  clear c54
                                                  by_cases c55 : x144_6 ≤ (wrap64 (x144_6 + 1))
                                                  · rw [if_pos c55] at H
                                                    have c55b0 := eq_true c55
                                                    have c55b1 : decide (x144_6 ≤ (wrap64 (x144_6 + 1))) = true := decide_eq_true c55
                                                    by_cases c56 : (wrap64 (x144_6 + 1)) ≤ (t20013.size : Int)
                                                    · rw [if_pos c56] at H
                                                      have c56b0 := eq_true c56
                                                      have c56b1 : decide ((wrap64 (x144_6 + 1)) ≤ (t20013.size : Int)) = true := decide_eq_true c56
                                                      by_cases c57 : (t20013.extract (x144_6 : Int).toNat ((wrap64 (x144_6 + 1)) : Int).toNat).toList = (t20014.extract (x118_4 : Int).toNat ((wrap64 (x118_4 + 1)) : Int).toNat).toList
                                                      · rw [if_pos c57] at H
                                                        have c57b0 : ((t20013.extract (x144_6 : Int).toNat ((wrap64 (x144_6 + 1)) : Int).toNat).toList == (t20014.extract (x118_4 : Int).toNat ((wrap64 (x118_4 + 1)) : Int).toNat).toList) = true := beq_iff_eq.mpr c57
                                                        have c57b1 : ((t20013.extract (x144_6 : Int).toNat ((wrap64 (x144_6 + 1)) : Int).toNat).toList != (t20014.extract (x118_4 : Int).toNat ((wrap64 (x118_4 + 1)) : Int).toNat).toList) = false := bne_eq_false_iff_eq.mpr c57
                                                        clear c57
                                                        have H' := Aside0.mk H
                                                        clear H
                                                        go_wp2
                                                        go_roundg k6
                                                        case measure => have := HJ2.out; have := HJ9.out; have := HK3.out; have := HK4.out; have := HK5.out; have := HK6.out; omega
                                                        case rel => exact ⟨(((t20014.extract (x118_4 : Int).toNat ((wrap64 (x118_4 + 1)) : Int).toNat).toList != t20002.toList)), (wrap64 (x144_6 + 1)), (by first | rfl | (simp; done) | (simp [*]; done)), (by first | rfl | (simp; done) | (simp [*]; done)), H', ⟨by have := HJ2.out; have := HJ9.out; have := HK3.out; have := HK4.out; have := HK5.out; have := HK6.out; omega⟩, ⟨by repeat (first | (with_reducible first | exact HB.out | apply below_alloc | apply pw_below_drewN | apply below_drew1) | exact HB.out)⟩⟩
                                                      · rw [if_neg c57] at H
                                                        have c57b0 : ((t20013.extract (x144_6 : Int).toNat ((wrap64 (x144_6 + 1)) : Int).toNat).toList == (t20014.extract (x118_4 : Int).toNat ((wrap64 (x118_4 + 1)) : Int).toNat).toList) = false := beq_eq_false_iff_ne.mpr c57
                                                        have c57b1 : ((t20013.extract (x144_6 : Int).toNat ((wrap64 (x144_6 + 1)) : Int).toNat).toList != (t20014.extract (x118_4 : Int).toNat ((wrap64 (x118_4 + 1)) : Int).toNat).toList) = true := bne_iff_ne.mpr c57
                                                        have H' := Aside0.mk H
                                                        clear H
                                                        go_wp2
                                                        go_roundg k6
                                                        case measure => have := HJ2.out; have := HJ9.out; have := HK3.out; have := HK4.out; have := HK5.out; have := HK6.out; omega
                                                        case rel => exact ⟨(false), (wrap64 (x144_6 + 1)), (by first | rfl | (simp; done) | (simp [*]; done)), (by first | rfl | (simp; done) | (simp [*]; done)), H', ⟨by have := HJ2.out; have := HJ9.out; have := HK3.out; have := HK4.out; have := HK5.out; have := HK6.out; omega⟩, ⟨by repeat (first | (with_reducible first | exact HB.out | apply below_alloc | apply pw_below_drewN | apply below_drew1) | exact HB.out)⟩⟩
                                                    · rw [if_neg c56] at H
                                                      exact absurd H (by simp)
                                                  · rw [if_neg c55] at H
                                                    exact absurd H (by simp)
                                                · rw [if_neg c54] at H
                                                  exact absurd H (by simp)
                                            · rw [if_neg c52] at H
                                              have c52b0 : decide (x144_6 < (t20013.size : Int)) = false := decide_eq_false c52
                                              clear c52
                                              by_cases c58 : x20_6 = true
                                              · subst c58
                                                have H1 : (laws_FnReplace.l1 k6 t20001 t20002 t20003 t20004 t20013 t20014 t20015 (t20014.size : Int) (wrap64 (x118_4 + 1))) = some r := by rw [if_pos rfl] at H; exact H
                                                clear H
                                                have H := H1
                                                clear H1
                                                have H' := Aside0.mk H
                                                clear H
                                                go_wp2
                                                go_roundg k6
                                                case measure => have := HJ2.out; have := HJ9.out; have := HK3.out; have := HK4.out; have := HK5.out; have := HK6.out; omega
                                                case rel => exact ⟨(wrap64 (x118_4 + 1)), (by first | rfl | (simp; done) | (simp [*]; done)), H', ⟨by have := HJ2.out; have := HJ9.out; have := HK3.out; have := HK4.out; have := HK5.out; have := HK6.out; omega⟩, ⟨by repeat (first | (with_reducible first | exact HB.out | apply below_alloc | apply pw_below_drewN | apply below_drew1) | exact HB.out)⟩⟩
                                              · replace c58 := Bool.eq_false_iff.mpr c58
                                                subst c58
                                                have H1 : (none) = some r := by rw [if_neg (show ¬ (false = true) by decide)] at H; exact H
                                                clear H
                                                have H := H1
                                                clear H1
                                                exact absurd H (by simp)
                                · rw [if_neg c46] at H
                                  exact absurd H (by simp)
                              · rw [if_neg c45] at H
                                exact absurd H (by simp)
                            · rw [if_neg c44] at H
                              exact absurd H (by simp)
                          · rw [if_neg c43] at H
                            have c43b0 : decide (x118_4 < (t20014.size : Int)) = false := decide_eq_false c43
                            clear c43
                            replace H := Option.bind_eq_some_iff.mp H
                            obtain ⟨⟨t20016, t20017⟩, A590, H⟩ := H
                            replace H : (if t20002.toList = ([97] : List UInt8) then ((impl_DepthOfTerm.f t20003).bind fun t20018 => (if t20018 = 1 then ((impl_DepthOfTerm.f t20001).bind fun t20019 => ((impl_DepthOfTerm.f t20004).bind fun t20020 => (if t20019 = t20020 then (some (t20016.toList == t20001.toList)) else ((impl_FreeVars.f t20003).bind fun t20021 => (if t20021.toList = ([] : List UInt8) then (some (t20016.toList == t20001.toList)) else ((impl_DepthOfTerm.f t20001).bind fun t20022 => (some (decide (t20022 < 0))))))))) else (some (t20016.toList == t20001.toList)))) else (some (t20016.toList == t20001.toList))) = some r := H
                            have A59 := Aside0.mk A590
                            clear A590
                            by_cases c60 : t20002.toList = ([97] : List UInt8)
                            · rw [if_pos c60] at H
                              have c60b0 : (t20002.toList == ([97] : List UInt8)) = true := beq_iff_eq.mpr c60
                              have c60b1 : (t20002.toList != ([97] : List UInt8)) = false := bne_eq_false_iff_eq.mpr c60
                              clear c60
                              replace H := Option.bind_eq_some_iff.mp H
                              obtain ⟨t20018, A610, H⟩ := H
                              replace H : (if t20018 = 1 then ((impl_DepthOfTerm.f t20001).bind fun t20019 => ((impl_DepthOfTerm.f t20004).bind fun t20020 => (if t20019 = t20020 then (some (t20016.toList == t20001.toList)) else ((impl_FreeVars.f t20003).bind fun t20021 => (if t20021.toList = ([] : List UInt8) then (some (t20016.toList == t20001.toList)) else ((impl_DepthOfTerm.f t20001).bind fun t20022 => (some (decide (t20022 < 0))))))))) else (some (t20016.toList == t20001.toList))) = some r := H
                              have A61 := Aside0.mk A610
                              clear A610
                              by_cases c62 : t20018 = 1
                              · rw [if_pos c62] at H
                                have c62b0 : (t20018 == 1) = true := beq_iff_eq.mpr c62
                                have c62b1 : (t20018 != 1) = false := bne_eq_false_iff_eq.mpr c62
                                clear c62
                                replace H := Option.bind_eq_some_iff.mp H
                                obtain ⟨t20019, A630, H⟩ := H
                                replace H : ((impl_DepthOfTerm.f t20004).bind fun t20020 => (if t20019 = t20020 then (some (t20016.toList == t20001.toList)) else ((impl_FreeVars.f t20003).bind fun t20021 => (if t20021.toList = ([] : List UInt8) then (some (t20016.toList == t20001.toList)) else ((impl_DepthOfTerm.f t20001).bind fun t20022 => (some (decide (t20022 < 0)))))))) = some r := H
                                have A63 := Aside0.mk A630
                                clear A630
                                replace H := Option.bind_eq_some_iff.mp H
                                obtain ⟨t20020, A640, H⟩ := H
                                replace H : (if t20019 = t20020 then (some (t20016.toList == t20001.toList)) else ((impl_FreeVars.f t20003).bind fun t20021 => (if t20021.toList = ([] : List UInt8) then (some (t20016.toList == t20001.toList)) else ((impl_DepthOfTerm.f t20001).bind fun t20022 => (some (decide (t20022 < 0))))))) = some r := H
                                have A64 := Aside0.mk A640
                                clear A640
                                by_cases c65 : t20019 = t20020
                                · rw [if_pos c65] at H
                                  have c65b0 : (t20019 == t20020) = true := beq_iff_eq.mpr c65
                                  have c65b1 : (t20019 != t20020) = false := bne_eq_false_iff_eq.mpr c65
                                  clear c65
                                  obtain rfl := Option.some.inj H
                                  go_wp2_with (first | ((with_reducible refine gate_callee (f := 14) rfl ?_); refine goesL_ (some 170) rfl rfl Try.func14 (by kernel_rfl) rfl #[.string t20001, .string t20002, .string t20002] rfl (by (try simp only [List.map_toArray, List.map_cons, List.map_nil]); first | done | rfl | (simp only [List.length_drop, List.length_take]; rfl)) ?_; (with_reducible refine (impl_ReplaceVar.calls t20001 t20002 t20002 t20016 t20017 _ A59.out).mono ?_); rintro e w66 ⟨rfl, hb⟩; refine ⟨_, rfl, ?_⟩; have n0_ := Aside0.mk (below_step (by repeat (first | (with_reducible first | exact HB.out | apply below_alloc | apply pw_below_drewN | apply below_drew1) | exact HB.out)) hb); clear HB; have HB := n0_; clear n0_; (try clear hb); (try clear hb2); (try clear hk); (try clear hi)) | (go_at_call 6; (with_reducible refine (impl_DepthOfTerm.calls t20003 t20018 _ A61.out).mono ?_); rintro e w67 ⟨rfl, hb⟩; have n0_ := Aside0.mk (below_step (by repeat (first | (with_reducible first | exact HB.out | apply below_alloc | apply pw_below_drewN | apply below_drew1) | exact HB.out)) hb); clear HB; have HB := n0_; clear n0_; (try clear hb); (try clear hb2); (try clear hk); (try clear hi)) | (go_at_call 6; (with_reducible refine (impl_DepthOfTerm.calls t20001 t20019 _ A63.out).mono ?_); rintro e w68 ⟨rfl, hb⟩; have n0_ := Aside0.mk (below_step (by repeat (first | (with_reducible first | exact HB.out | apply below_alloc | apply pw_below_drewN | apply below_drew1) | exact HB.out)) hb); clear HB; have HB := n0_; clear n0_; (try clear hb); (try clear hb2); (try clear hk); (try clear hi)) | (go_at_call 6; (with_reducible refine (impl_DepthOfTerm.calls t20004 t20020 _ A64.out).mono ?_); rintro e w69 ⟨rfl, hb⟩; have n0_ := Aside0.mk (below_step (by repeat (first | (with_reducible first | exact HB.out | apply below_alloc | apply pw_below_drewN | apply below_drew1) | exact HB.out)) hb); clear HB; have HB := n0_; clear n0_; (try clear hb); (try clear hb2); (try clear hk); (try clear hi)))
                                  all_goals (try (exfalso; omega))
                                  go_ret
                                  exact ⟨by first | rfl | (simp [errW_none, errW_some] <;> rfl) | (simp [*, errW_none, errW_some] <;> rfl), by repeat (first | (with_reducible first | exact HB.out | apply below_alloc | apply pw_below_drewN | apply below_drew1) | exact HB.out)⟩
                                · rw [if_neg c65] at H
                                  have c65b0 : (t20019 == t20020) = false := beq_eq_false_iff_ne.mpr c65
                                  have c65b1 : (t20019 != t20020) = true := bne_iff_ne.mpr c65
                                  replace H := Option.bind_eq_some_iff.mp H
                                  obtain ⟨t20021, A700, H⟩ := H
                                  replace H : (if t20021.toList = ([] : List UInt8) then (some (t20016.toList == t20001.toList)) else ((impl_DepthOfTerm.f t20001).bind fun t20022 => (some (decide (t20022 < 0))))) = some r := H
                                  have A70 := Aside0.mk A700
                                  clear A700
                                  by_cases c71 : t20021.toList = ([] : List UInt8)
                                  · rw [if_pos c71] at H
                                    have c71b0 : (t20021.toList == ([] : List UInt8)) = true := beq_iff_eq.mpr c71
                                    have c71b1 : (t20021.toList != ([] : List UInt8)) = false := bne_eq_false_iff_eq.mpr c71
                                    clear c71
                                    obtain rfl := Option.some.inj H
                                    go_wp2_with (first | ((with_reducible refine gate_callee (f := 14) rfl ?_); refine goesL_ (some 170) rfl rfl Try.func14 (by kernel_rfl) rfl #[.string t20001, .string t20002, .string t20002] rfl (by (try simp only [List.map_toArray, List.map_cons, List.map_nil]); first | done | rfl | (simp only [List.length_drop, List.length_take]; rfl)) ?_; (with_reducible refine (impl_ReplaceVar.calls t20001 t20002 t20002 t20016 t20017 _ A59.out).mono ?_); rintro e w72 ⟨rfl, hb⟩; refine ⟨_, rfl, ?_⟩; have n0_ := Aside0.mk (below_step (by repeat (first | (with_reducible first | exact HB.out | apply below_alloc | apply pw_below_drewN | apply below_drew1) | exact HB.out)) hb); clear HB; have HB := n0_; clear n0_; (try clear hb); (try clear hb2); (try clear hk); (try clear hi)) | (go_at_call 6; (with_reducible refine (impl_DepthOfTerm.calls t20003 t20018 _ A61.out).mono ?_); rintro e w73 ⟨rfl, hb⟩; have n0_ := Aside0.mk (below_step (by repeat (first | (with_reducible first | exact HB.out | apply below_alloc | apply pw_below_drewN | apply below_drew1) | exact HB.out)) hb); clear HB; have HB := n0_; clear n0_; (try clear hb); (try clear hb2); (try clear hk); (try clear hi)) | (go_at_call 6; (with_reducible refine (impl_DepthOfTerm.calls t20001 t20019 _ A63.out).mono ?_); rintro e w74 ⟨rfl, hb⟩; have n0_ := Aside0.mk (below_step (by repeat (first | (with_reducible first | exact HB.out | apply below_alloc | apply pw_below_drewN | apply below_drew1) | exact HB.out)) hb); clear HB; have HB := n0_; clear n0_; (try clear hb); (try clear hb2); (try clear hk); (try clear hi)) | (go_at_call 6; (with_reducible refine (impl_DepthOfTerm.calls t20004 t20020 _ A64.out).mono ?_); rintro e w75 ⟨rfl, hb⟩; have n0_ := Aside0.mk (below_step (by repeat (first | (with_reducible first | exact HB.out | apply below_alloc | apply pw_below_drewN | apply below_drew1) | exact HB.out)) hb); clear HB; have HB := n0_; clear n0_; (try clear hb); (try clear hb2); (try clear hk); (try clear hi)) | (go_at_call 10; (with_reducible refine (impl_FreeVars.calls t20003 t20021 _ A70.out).mono ?_); rintro e w76 ⟨rfl, hb⟩; have n0_ := Aside0.mk (below_step (by repeat (first | (with_reducible first | exact HB.out | apply below_alloc | apply pw_below_drewN | apply below_drew1) | exact HB.out)) hb); clear HB; have HB := n0_; clear n0_; (try clear hb); (try clear hb2); (try clear hk); (try clear hi)))
                                    all_goals (try (exfalso; omega))
                                    go_ret
                                    exact ⟨by first | rfl | (simp [errW_none, errW_some] <;> rfl) | (simp [*, errW_none, errW_some] <;> rfl), by repeat (first | (with_reducible first | exact HB.out | apply below_alloc | apply pw_below_drewN | apply below_drew1) | exact HB.out)⟩
                                  · rw [if_neg c71] at H
                                    have c71b0 : (t20021.toList == ([] : List UInt8)) = false := beq_eq_false_iff_ne.mpr c71
                                    have c71b1 : (t20021.toList != ([] : List UInt8)) = true := bne_iff_ne.mpr c71
                                    replace H := Option.bind_eq_some_iff.mp H
                                    obtain ⟨t20022, A770, H⟩ := H
                                    replace H : (some (decide (t20022 < 0))) = some r := H
                                    have A77 := Aside0.mk A770
                                    clear A770
                                    obtain rfl := Option.some.inj H
                                    go_wp2_with (first | ((with_reducible refine gate_callee (f := 14) rfl ?_); refine goesL_ (some 170) rfl rfl Try.func14 (by kernel_rfl) rfl #[.string t20001, .string t20002, .string t20002] rfl (by (try simp only [List.map_toArray, List.map_cons, List.map_nil]); first | done | rfl | (simp only [List.length_drop, List.length_take]; rfl)) ?_; (with_reducible refine (impl_ReplaceVar.calls t20001 t20002 t20002 t20016 t20017 _ A59.out).mono ?_); rintro e w78 ⟨rfl, hb⟩; refine ⟨_, rfl, ?_⟩; have n0_ := Aside0.mk (below_step (by repeat (first | (with_reducible first | exact HB.out | apply below_alloc | apply pw_below_drewN | apply below_drew1) | exact HB.out)) hb); clear HB; have HB := n0_; clear n0_; (try clear hb); (try clear hb2); (try clear hk); (try clear hi)) | (go_at_call 6; (with_reducible refine (impl_DepthOfTerm.calls t20003 t20018 _ A61.out).mono ?_); rintro e w79 ⟨rfl, hb⟩; have n0_ := Aside0.mk (below_step (by repeat (first | (with_reducible first | exact HB.out | apply below_alloc | apply pw_below_drewN | apply below_drew1) | exact HB.out)) hb); clear HB; have HB := n0_; clear n0_; (try clear hb); (try clear hb2); (try clear hk); (try clear hi)) | (go_at_call 6; (with_reducible refine (impl_DepthOfTerm.calls t20001 t20019 _ A63.out).mono ?_); rintro e w80 ⟨rfl, hb⟩; have n0_ := Aside0.mk (below_step (by repeat (first | (with_reducible first | exact HB.out | apply below_alloc | apply pw_below_drewN | apply below_drew1) | exact HB.out)) hb); clear HB; have HB := n0_; clear n0_; (try clear hb); (try clear hb2); (try clear hk); (try clear hi)) | (go_at_call 6; (with_reducible refine (impl_DepthOfTerm.calls t20004 t20020 _ A64.out).mono ?_); rintro e w81 ⟨rfl, hb⟩; have n0_ := Aside0.mk (below_step (by repeat (first | (with_reducible first | exact HB.out | apply below_alloc | apply pw_below_drewN | apply below_drew1) | exact HB.out)) hb); clear HB; have HB := n0_; clear n0_; (try clear hb); (try clear hb2); (try clear hk); (try clear hi)) | (go_at_call 10; (with_reducible refine (impl_FreeVars.calls t20003 t20021 _ A70.out).mono ?_); rintro e w82 ⟨rfl, hb⟩; have n0_ := Aside0.mk (below_step (by repeat (first | (with_reducible first | exact HB.out | apply below_alloc | apply pw_below_drewN | apply below_drew1) | exact HB.out)) hb); clear HB; have HB := n0_; clear n0_; (try clear hb); (try clear hb2); (try clear hk); (try clear hi)) | ((with_reducible refine gate_callee (f := 6) rfl ?_); refine goesL_ (some 193) rfl rfl Try.func6 (by kernel_rfl) rfl #[.string t20001] rfl (by (try simp only [List.map_toArray, List.map_cons, List.map_nil]); first | done | rfl | (simp only [List.length_drop, List.length_take]; rfl)) ?_; (with_reducible refine (impl_DepthOfTerm.calls t20001 t20022 _ A77.out).mono ?_); rintro e w83 ⟨rfl, hb⟩; refine ⟨_, rfl, ?_⟩; have n0_ := Aside0.mk (below_step (by repeat (first | (with_reducible first | exact HB.out | apply below_alloc | apply pw_below_drewN | apply below_drew1) | exact HB.out)) hb); clear HB; have HB := n0_; clear n0_; (try clear hb); (try clear hb2); (try clear hk); (try clear hi)))
                                    all_goals (try (exfalso; omega))
                                    go_ret
                                    exact ⟨by first | rfl | (simp [errW_none, errW_some] <;> rfl) | (simp [*, errW_none, errW_some] <;> rfl), by repeat (first | (with_reducible first | exact HB.out | apply below_alloc | apply pw_below_drewN | apply below_drew1) | exact HB.out)⟩
                              · rw [if_neg c62] at H
                                have c62b0 : (t20018 == 1) = false := beq_eq_false_iff_ne.mpr c62
                                have c62b1 : (t20018 != 1) = true := bne_iff_ne.mpr c62
                                obtain rfl := Option.some.inj H
                                go_wp2_with (first | ((with_reducible refine gate_callee (f := 14) rfl ?_); refine goesL_ (some 170) rfl rfl Try.func14 (by kernel_rfl) rfl #[.string t20001, .string t20002, .string t20002] rfl (by (try simp only [List.map_toArray, List.map_cons, List.map_nil]); first | done | rfl | (simp only [List.length_drop, List.length_take]; rfl)) ?_; (with_reducible refine (impl_ReplaceVar.calls t20001 t20002 t20002 t20016 t20017 _ A59.out).mono ?_); rintro e w84 ⟨rfl, hb⟩; refine ⟨_, rfl, ?_⟩; have n0_ := Aside0.mk (below_step (by repeat (first | (with_reducible first | exact HB.out | apply below_alloc | apply pw_below_drewN | apply below_drew1) | exact HB.out)) hb); clear HB; have HB := n0_; clear n0_; (try clear hb); (try clear hb2); (try clear hk); (try clear hi)) | (go_at_call 6; (with_reducible refine (impl_DepthOfTerm.calls t20003 t20018 _ A61.out).mono ?_); rintro e w85 ⟨rfl, hb⟩; have n0_ := Aside0.mk (below_step (by repeat (first | (with_reducible first | exact HB.out | apply below_alloc | apply pw_below_drewN | apply below_drew1) | exact HB.out)) hb); clear HB; have HB := n0_; clear n0_; (try clear hb); (try clear hb2); (try clear hk); (try clear hi)))
                                all_goals (try (exfalso; omega))
                                go_ret
                                exact ⟨by first | rfl | (simp [errW_none, errW_some] <;> rfl) | (simp [*, errW_none, errW_some] <;> rfl), by repeat (first | (with_reducible first | exact HB.out | apply below_alloc | apply pw_below_drewN | apply below_drew1) | exact HB.out)⟩
                            · rw [if_neg c60] at H
                              have c60b0 : (t20002.toList == ([97] : List UInt8)) = false := beq_eq_false_iff_ne.mpr c60
                              have c60b1 : (t20002.toList != ([97] : List UInt8)) = true := bne_iff_ne.mpr c60
                              obtain rfl := Option.some.inj H
                              go_wp2_with (first | ((with_reducible refine gate_callee (f := 14) rfl ?_); refine goesL_ (some 170) rfl rfl Try.func14 (by kernel_rfl) rfl #[.string t20001, .string t20002, .string t20002] rfl (by (try simp only [List.map_toArray, List.map_cons, List.map_nil]); first | done | rfl | (simp only [List.length_drop, List.length_take]; rfl)) ?_; (with_reducible refine (impl_ReplaceVar.calls t20001 t20002 t20002 t20016 t20017 _ A59.out).mono ?_); rintro e w86 ⟨rfl, hb⟩; refine ⟨_, rfl, ?_⟩; have n0_ := Aside0.mk (below_step (by repeat (first | (with_reducible first | exact HB.out | apply below_alloc | apply pw_below_drewN | apply below_drew1) | exact HB.out)) hb); clear HB; have HB := n0_; clear n0_; (try clear hb); (try clear hb2); (try clear hk); (try clear hi)))
                              all_goals (try (exfalso; omega))
                              go_ret
                              exact ⟨by first | rfl | (simp [errW_none, errW_some] <;> rfl) | (simp [*, errW_none, errW_some] <;> rfl), by repeat (first | (with_reducible first | exact HB.out | apply below_alloc | apply pw_below_drewN | apply below_drew1) | exact HB.out)⟩
                    · replace c42 := Bool.eq_false_iff.mpr c42
                      subst c42
                      have H1 : (some (t20004.toList == t20001.toList)) = some r := by rw [if_neg (show ¬ (false = true) by decide)] at H; exact H
                      clear H
                      have H := H1
                      clear H1
                      obtain rfl := Option.some.inj H
                      go_wp2
                      all_goals (try (exfalso; omega))
                      go_ret
                      exact ⟨by first | rfl | (simp [errW_none, errW_some] <;> rfl) | (simp [*, errW_none, errW_some] <;> rfl), by repeat (first | (with_reducible first | exact HB.out | apply below_alloc | apply pw_below_drewN | apply below_drew1) | exact HB.out)⟩
/-- THE ONE PURE STATEMENT of laws_FnReplace: yours. -/
def laws_FnReplace.Pure : Prop := ∀ (l0 : List Int) (l1 : List Int), l0.length ≤ maxLen → l0.length * 1 ≤ 140737488351232 → (∀ x ∈ l0, (Lit.int .u8 x).wf = true) → l1.length ≤ maxLen → l1.length * 1 ≤ 140737488351232 → (∀ x ∈ l1, (Lit.int .u8 x).wf = true) → ∃ k, laws_FnReplace.f k l0 l1 = some true
theorem laws_FnReplace.walk (P : laws_FnReplace.Pure) (a0 : Option Addr) (len0 cap0 : Nat) (z0 : List Int) (a1 : Option Addr) (len1 cap1 : Nat) (z1 : List Int) (w : World) (w0 : (a0 = none ∧ len0 = 0 ∧ cap0 = 0 ∧ z0 = []) ∨ ∃ x, a0 = some x ∧ len0 ≤ cap0 ∧ cap0 ≤ maxLen ∧ z0.length = cap0 ∧ (∀ i, i < z0.length → w.cell? (x.add i) = some (.int .u8 (z0.getD i 0))) ∧ ∀ n ∈ z0, (Lit.int .u8 n).wf = true) (y0 : len0 * 1 ≤ 140737488351232) (w1 : (a1 = none ∧ len1 = 0 ∧ cap1 = 0 ∧ z1 = []) ∨ ∃ x, a1 = some x ∧ len1 ≤ cap1 ∧ cap1 ≤ maxLen ∧ z1.length = cap1 ∧ (∀ i, i < z1.length → w.cell? (x.add i) = some (.int .u8 (z1.getD i 0))) ∧ ∀ n ∈ z1, (Lit.int .u8 n).wf = true) (y1 : len1 * 1 ≤ 140737488351232) :
    Calls Try.prog 4 #[.slice a0 len0 cap0, .slice a1 len1 cap1] w fun e w' => e = .returned (.bool true) ∧ Below w.heap.size w w' := by
  obtain ⟨l0, rfl, hr0, hm0, hw0, hc0⟩ := ReadsInt.ofRowC w0
  obtain ⟨l1, rfl, hr1, hm1, hw1, hc1⟩ := ReadsInt.ofRowC w1
  obtain ⟨k, h⟩ := P l0 l1 hm0 y0 hw0 hm1 y1 hw1
  refine (laws_FnReplace.calls k _ _ l0 _ _ l1 true w (Kd.C_of_reads (d := (0 : Int)) (h1 := fun _ => rfl) hr0) hc0 (Kd.C_of_reads (d := (0 : Int)) (h1 := fun _ => rfl) hr1) hc1 h).mono ?_
  rintro e w' ⟨rfl, hd⟩
  exact ⟨rfl, hd⟩
end Go.Proofs.Ytpklhagedifglaa.Vq
