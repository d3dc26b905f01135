/-
  Cut to what this claim uses.
-/
import Derived.Test.YtpklhagedifglaaQVq0
import Derived.Test.YtpklhagedifglaaQVq1
import Derived.Test.YtpklhagedifglaaQVq2
import Derived.Test.YtpklhagedifglaaQVqZ
namespace Go.Proofs.Ytpklhagedifglaa.Vq
open Go.RowKit Go.Proofs.YtpklhagedifglaaW.PrintWords Go.Proofs.YtpklhagedifglaaW.PrintLast Go.Proofs.YtpklhagedifglaaW.PrintMore
attribute [local go_sem] max2_int min2_int max_two min_two max_three min_three max_four min_four   -- for this text's walks alone
set_option linter.unusedVariables false
set_option linter.unusedSimpArgs false
mutual
def spec_l5Some.j0 : Nat → ByteArray → List Int → Int → Option (ByteArray × Int)
  | 0, _, _, _ => none
  | k + 1, x3, x1000, x1001 => if (x3.size : Int) > 80 then (spec_l5Some.j1 k (⟨#[83, 97]⟩ : ByteArray) x1000 x1001) else (spec_l5Some.j1 k x3 x1000 x1001)
def spec_l5Some.j1 : Nat → ByteArray → List Int → Int → Option (ByteArray × Int)
  | 0, _, _, _ => none
  | k + 1, x3, x1000, x1001 => (spec_l13Rd_pick.f k x1000 x1001 18).bind fun bt20012 => (if bt20012.1 > 0 then (some (x3, bt20012.2)) else ((spec_l13Rd_pick.f k x1000 bt20012.2 (x3.size : Int)).bind fun bt20014 => (if 0 ≤ bt20014.1 then (if bt20014.1 ≤ (x3.size : Int) then ((spec_l13Rd_of.f k x1000 bt20014.2 (([(⟨#[]⟩ : ByteArray), (⟨#[97]⟩ : ByteArray), (⟨#[120]⟩ : ByteArray), (⟨#[83]⟩ : ByteArray), (⟨#[40]⟩ : ByteArray), (⟨#[93]⟩ : ByteArray), (⟨#[113]⟩ : ByteArray)] : List ByteArray))).bind fun bt20019 => (if (x3.extract 0 (bt20014.1 : Int).toNat).size + bt20019.1.size ≤ 9223372036854775807 then ((spec_l13Rd_pick.f k x1000 bt20019.2 2).bind fun bt20021 => (if 0 ≤ (wrap64 (bt20014.1 + bt20021.1)) then (if (wrap64 (bt20014.1 + bt20021.1)) ≤ (x3.size : Int) then (if ((x3.extract 0 (bt20014.1 : Int).toNat) ++ bt20019.1).size + (x3.extract ((wrap64 (bt20014.1 + bt20021.1)) : Int).toNat x3.size).size ≤ 9223372036854775807 then (some (((x3.extract 0 (bt20014.1 : Int).toNat) ++ bt20019.1) ++ (x3.extract ((wrap64 (bt20014.1 + bt20021.1)) : Int).toNat x3.size), bt20021.2)) else (none)) else (none)) else (none))) else (none))) else (none)) else (none))))
end
def spec_l5Some.f (k : Nat) (s0_0 : List Int) (s0_1 : Int) : Option (ByteArray × Int) := (spec_l13Rd_pick.f k s0_0 s0_1 16).bind fun bt20001 => ((spec_l5Known.f bt20001.1).bind fun t20003 => ((spec_l13Rd_pick.f k s0_0 bt20001.2 3).bind fun bt20004 => (if bt20004.1 > 0 then ((spec_l13Rd_pick.f k s0_0 bt20004.2 3).bind fun bt20006 => ((spec_l13Rd_pick.f k s0_0 bt20006.2 5).bind fun bt20008 => ((spec_l5Draw.f k s0_0 bt20008.2 bt20006.1 (wrap64 (2 + bt20008.1)) (⟨#[]⟩ : ByteArray) (⟨#[]⟩ : ByteArray)).bind fun bt20010 => (spec_l5Some.j0 k bt20010.1 s0_0 bt20010.2)))) else (spec_l5Some.j0 k t20003 s0_0 bt20004.2))))
theorem spec_l5Some.mono_l : ∀ k, (∀ y0 y1 y2, LeO (spec_l5Some.j0 k y0 y1 y2) (spec_l5Some.j0 (k + 1) y0 y1 y2)) ∧ (∀ y0 y1 y2, LeO (spec_l5Some.j1 k y0 y1 y2) (spec_l5Some.j1 (k + 1) y0 y1 y2))
  | 0 => ⟨fun _ _ _ r h => by simp [spec_l5Some.j0] at h, fun _ _ _ r h => by simp [spec_l5Some.j1] at h⟩
  | k + 1 => by
    obtain ⟨ih0, ih1⟩ := spec_l5Some.mono_l k
    refine ⟨?_, ?_⟩
    · intro y0 y1 y2
      unfold spec_l5Some.j0
      repeat' first
      | (with_reducible exact ih0 _ _ _)
      | (with_reducible exact ih1 _ _ _)
      | (with_reducible exact spec_l13Rd_of.mono _ _ _ _)
      | (with_reducible exact spec_l13Rd_pick.mono _ _ _ _)
      | (with_reducible exact spec_l5Draw.mono _ _ _ _ _ _ _)
      | (with_reducible exact LeO.refl _)
      | (with_reducible exact LeO.none _)
      | (with_reducible refine LeO.ite ?_ ?_)
      | (with_reducible refine LeO.bind ?_ (fun _ => ?_))
      | exact ih0 _ _ _
      | exact ih1 _ _ _
      | exact spec_l13Rd_of.mono _ _ _ _
      | exact spec_l13Rd_pick.mono _ _ _ _
      | exact spec_l5Draw.mono _ _ _ _ _ _ _
      | exact LeO.none _
      | refine LeO.ite ?_ ?_
      | refine LeO.bind ?_ (fun _ => ?_)
    · intro y0 y1 y2
      unfold spec_l5Some.j1
      repeat' first
      | (with_reducible exact ih0 _ _ _)
      | (with_reducible exact ih1 _ _ _)
      | (with_reducible exact spec_l13Rd_of.mono _ _ _ _)
      | (with_reducible exact spec_l13Rd_pick.mono _ _ _ _)
      | (with_reducible exact spec_l5Draw.mono _ _ _ _ _ _ _)
      | (with_reducible exact LeO.refl _)
      | (with_reducible exact LeO.none _)
      | (with_reducible refine LeO.ite ?_ ?_)
      | (with_reducible refine LeO.bind ?_ (fun _ => ?_))
      | exact ih0 _ _ _
      | exact ih1 _ _ _
      | exact spec_l13Rd_of.mono _ _ _ _
      | exact spec_l13Rd_pick.mono _ _ _ _
      | exact spec_l5Draw.mono _ _ _ _ _ _ _
      | exact LeO.none _
      | refine LeO.ite ?_ ?_
      | refine LeO.bind ?_ (fun _ => ?_)
theorem spec_l5Some.mono : ∀ a0 a1 k, LeO (spec_l5Some.f k a0 a1) (spec_l5Some.f (k + 1) a0 a1) := by
  intro a0 a1 k
  obtain ⟨ih0, ih1⟩ := spec_l5Some.mono_l k
  unfold spec_l5Some.f
  repeat' first
      | (with_reducible exact ih0 _ _ _)
      | (with_reducible exact ih1 _ _ _)
      | (with_reducible exact spec_l13Rd_of.mono _ _ _ _)
      | (with_reducible exact spec_l13Rd_pick.mono _ _ _ _)
      | (with_reducible exact spec_l5Draw.mono _ _ _ _ _ _ _)
      | (with_reducible exact LeO.refl _)
      | (with_reducible exact LeO.none _)
      | (with_reducible refine LeO.ite ?_ ?_)
      | (with_reducible refine LeO.bind ?_ (fun _ => ?_))
      | exact ih0 _ _ _
      | exact ih1 _ _ _
      | exact spec_l13Rd_of.mono _ _ _ _
      | exact spec_l13Rd_pick.mono _ _ _ _
      | exact spec_l5Draw.mono _ _ _ _ _ _ _
      | exact LeO.none _
      | refine LeO.ite ?_ ?_
      | refine LeO.bind ?_ (fun _ => ?_)
def spec_l5Some.T9 : Bool × List (List Nat × List Nat) := (true, [([], []), ([], []), ([0, 1], [0, 1]), ([], []), ([], []), ([3, 4], [3, 4]), ([2, 5], [2, 5]), ([], []), ([], []), ([], []), ([9, 5], [9]), ([8, 10], [8, 10]), ([7, 11], [7, 11]), ([6, 12], [6, 12]), ([13, 10, 0, 1, 2, 3, 4, 5, 6, 7, 8, 9, 10, 11, 12, 13], [13])])
def spec_l5Some.B9 : List Nat := [0, 0, 3, 0, 0, 24, 63, 0, 0, 0, 568, 1848, 4024, 8191, 16383]
theorem spec_l5Some.tab9 : rtab .any (opsOf Try.f18 9) = spec_l5Some.T9 := by kernel_rfl
theorem spec_l5Some.bits9 : waitsOk spec_l5Some.T9.2 spec_l5Some.B9 = true := by kernel_rfl
set_option maxHeartbeats 8000000 in
set_option maxRecDepth 100000 in
theorem spec_l5Some.calls (k : Nat) (g : Nat) (s0_0 : List Int) (s0_1 : Int) (r1 : ByteArray) (r2 : Int) (w0 w : World) (hI : IsS69 w0 w g s0_0 s0_1) (hB : Below w0.heap.size w0 w) (h : spec_l5Some.f k s0_0 s0_1 = some (r1, r2)) :
    Calls Try.prog 18 #[.pointer (some ⟨g, 0, none⟩)] w fun e w' => e = .returned (.string r1) ∧ IsS69 w0 w' g s0_0 r2 ∧ Below w0.heap.size w0 w' ∧ KeepBut w w' g none := by
  have HI0 := Aside0.mk hI
  have HK := Aside0.mk (KeepBut.refl w g none)
  have HL := Aside0.mk hB.size
  clear hI
  have HW0 := Aside0.mk hB.size
  have HB := Aside0.mk hB
  clear hB
  have H : ((spec_l13Rd_pick.f k s0_0 s0_1 16).bind fun bt20001 => ((spec_l5Known.f bt20001.1).bind fun t20003 => ((spec_l13Rd_pick.f k s0_0 bt20001.2 3).bind fun bt20004 => (if bt20004.1 > 0 then ((spec_l13Rd_pick.f k s0_0 bt20004.2 3).bind fun bt20006 => ((spec_l13Rd_pick.f k s0_0 bt20006.2 5).bind fun bt20008 => ((spec_l5Draw.f k s0_0 bt20008.2 bt20006.1 (wrap64 (2 + bt20008.1)) (⟨#[]⟩ : ByteArray) (⟨#[]⟩ : ByteArray)).bind fun bt20010 => (spec_l5Some.j0 k bt20010.1 s0_0 bt20010.2)))) else (spec_l5Some.j0 k t20003 s0_0 bt20004.2))))) = some (r1, r2) := h
  clear h
  replace H := Option.bind_eq_some_iff.mp H
  obtain ⟨⟨t20001, t20002⟩, A20, H⟩ := H
  replace H : ((spec_l5Known.f t20001).bind fun t20003 => ((spec_l13Rd_pick.f k s0_0 t20002 3).bind fun bt20004 => (if bt20004.1 > 0 then ((spec_l13Rd_pick.f k s0_0 bt20004.2 3).bind fun bt20006 => ((spec_l13Rd_pick.f k s0_0 bt20006.2 5).bind fun bt20008 => ((spec_l5Draw.f k s0_0 bt20008.2 bt20006.1 (wrap64 (2 + bt20008.1)) (⟨#[]⟩ : ByteArray) (⟨#[]⟩ : ByteArray)).bind fun bt20010 => (spec_l5Some.j0 k bt20010.1 s0_0 bt20010.2)))) else (spec_l5Some.j0 k t20003 s0_0 bt20004.2)))) = some (r1, r2) := H
  have A2 := Aside0.mk A20
  clear A20
  replace H := Option.bind_eq_some_iff.mp H
  obtain ⟨t20003, A30, H⟩ := H
  replace H : ((spec_l13Rd_pick.f k s0_0 t20002 3).bind fun bt20004 => (if bt20004.1 > 0 then ((spec_l13Rd_pick.f k s0_0 bt20004.2 3).bind fun bt20006 => ((spec_l13Rd_pick.f k s0_0 bt20006.2 5).bind fun bt20008 => ((spec_l5Draw.f k s0_0 bt20008.2 bt20006.1 (wrap64 (2 + bt20008.1)) (⟨#[]⟩ : ByteArray) (⟨#[]⟩ : ByteArray)).bind fun bt20010 => (spec_l5Some.j0 k bt20010.1 s0_0 bt20010.2)))) else (spec_l5Some.j0 k t20003 s0_0 bt20004.2))) = some (r1, r2) := H
  have A3 := Aside0.mk A30
  clear A30
  replace H := Option.bind_eq_some_iff.mp H
  obtain ⟨⟨t20004, t20005⟩, A40, H⟩ := H
  replace H : (if t20004 > 0 then ((spec_l13Rd_pick.f k s0_0 t20005 3).bind fun bt20006 => ((spec_l13Rd_pick.f k s0_0 bt20006.2 5).bind fun bt20008 => ((spec_l5Draw.f k s0_0 bt20008.2 bt20006.1 (wrap64 (2 + bt20008.1)) (⟨#[]⟩ : ByteArray) (⟨#[]⟩ : ByteArray)).bind fun bt20010 => (spec_l5Some.j0 k bt20010.1 s0_0 bt20010.2)))) else (spec_l5Some.j0 k t20003 s0_0 t20005)) = some (r1, r2) := H
  have A4 := Aside0.mk A40
  clear A40
  have HC5 := Aside0.mk H
  clear H
  go_enter Try.func18, Try.ntmps18
  go_upto_if 10 with (first | ((with_reducible refine gate_callee (f := 37) rfl ?_); refine goesL_ (some 6) rfl rfl Try.func37 (by kernel_rfl) rfl #[.pointer (some ⟨g, 0, none⟩), .int .i64 16] rfl (by (try simp only [List.map_toArray, List.map_cons, List.map_nil]); first | done | rfl | (simp only [List.length_drop, List.length_take]; rfl)) ?_; (with_reducible refine (spec_l13Rd_pick.calls k g s0_0 s0_1 16 t20001 t20002 w0 _ ?side1 ?side2 A2.out).mono ?_); (case side1 => repeat (first | (with_reducible first | exact HI0.out | apply IsS69.alloc | apply IsS69.drewN | apply IsS69.drew | apply IsS69.set_1) | exact HI0.out)); (case side2 => repeat (first | (with_reducible first | exact HB.out | apply below_alloc | apply pw_below_drewN | apply below_drew1 | refine below_set ?_ (IsS69.ge HI0.out)) | exact HB.out)); rintro e w6 ⟨rfl, hi, hb, hk⟩; refine ⟨_, rfl, ?_⟩; have n0_ := Aside0.mk (KeepBut.trans (by repeat (first | (with_reducible first | exact HK.out | apply KeepBut.set_ | apply keep_drewN | apply keep_drew | apply keep_alloc) | exact HK.out)) hk (.inl rfl)); have n1_ := Aside0.mk (hb); have n2_ := Aside0.mk (hi); clear HK; clear HB; clear HI0; have HK := n0_; have HB := n1_; have HI0 := n2_; clear n0_ n1_ n2_; (try clear hb); (try clear hb2); (try clear hk); (try clear hi)) | ((with_reducible refine gate_callee (f := 39) rfl ?_); refine goesL_ (some 7) rfl rfl Try.func39 (by kernel_rfl) rfl #[.int .i64 t20001] rfl (by (try simp only [List.map_toArray, List.map_cons, List.map_nil]); first | done | rfl | (simp only [List.length_drop, List.length_take]; rfl)) ?_; (with_reducible refine (spec_l5Known.calls t20001 t20003 _ A3.out).mono ?_); rintro e w7 ⟨rfl, hb⟩; refine ⟨_, rfl, ?_⟩; have n0_ := Aside0.mk (IsS69.below (by repeat (first | (with_reducible first | exact HI0.out | apply IsS69.alloc | apply IsS69.drewN | apply IsS69.drew | apply IsS69.set_1) | exact HI0.out)) hb); have n1_ := Aside0.mk (KeepBut.trans (by repeat (first | (with_reducible first | exact HK.out | apply KeepBut.set_ | apply keep_drewN | apply keep_drew | apply keep_alloc) | exact HK.out)) (KeepBut.of_below hb g none) (.inl rfl)); have n2_ := Aside0.mk (below_step (by repeat (first | (with_reducible first | exact HB.out | apply below_alloc | apply pw_below_drewN | apply below_drew1 | refine below_set ?_ (IsS69.ge HI0.out)) | exact HB.out)) hb); clear HI0; clear HK; clear HB; have HI0 := n0_; have HK := n1_; have HB := n2_; clear n0_ n1_ n2_; (try clear hb); (try clear hb2); (try clear hk); (try clear hi)) | ((with_reducible refine gate_callee (f := 37) rfl ?_); refine goesL_ (some 9) rfl rfl Try.func37 (by kernel_rfl) rfl #[.pointer (some ⟨g, 0, none⟩), .int .i64 3] rfl (by (try simp only [List.map_toArray, List.map_cons, List.map_nil]); first | done | rfl | (simp only [List.length_drop, List.length_take]; rfl)) ?_; (with_reducible refine (spec_l13Rd_pick.calls k g s0_0 t20002 3 t20004 t20005 w0 _ ?side1 ?side2 A4.out).mono ?_); (case side1 => repeat (first | (with_reducible first | exact HI0.out | apply IsS69.alloc | apply IsS69.drewN | apply IsS69.drew | apply IsS69.set_1) | exact HI0.out)); (case side2 => repeat (first | (with_reducible first | exact HB.out | apply below_alloc | apply pw_below_drewN | apply below_drew1 | refine below_set ?_ (IsS69.ge HI0.out)) | exact HB.out)); rintro e w8 ⟨rfl, hi, hb, hk⟩; refine ⟨_, rfl, ?_⟩; have n0_ := Aside0.mk (KeepBut.trans (by repeat (first | (with_reducible first | exact HK.out | apply KeepBut.set_ | apply keep_drewN | apply keep_drew | apply keep_alloc) | exact HK.out)) hk (.inl rfl)); have n1_ := Aside0.mk (hb); have n2_ := Aside0.mk (hi); clear HK; clear HB; clear HI0; have HK := n0_; have HB := n1_; have HI0 := n2_; clear n0_ n1_ n2_; (try clear hb); (try clear hb2); (try clear hk); (try clear hi)))
  (try simp only [Act.put, List.setIfInBounds_toArray, List.set_cons_zero, List.set_cons_succ])
  go_cut [3] (fun v3 wc => ∃ (kq : Nat) (x3_4 : ByteArray) (x1001_4 : Int), v3 = .string x3_4 ∧ Aside0 (spec_l5Some.j0 kq x3_4 s0_0 x1001_4 = some (r1, r2)) ∧ Aside0 (kq ≤ k) ∧ Aside0 (IsS69 w0 wc g s0_0 x1001_4) ∧ Aside0 (KeepBut w wc g none) ∧ Aside0 (Below w0.heap.size w0 wc))
  case first =>
    have H := HC5.out
    clear HC5
    by_cases c9 : t20004 > 0
    · rw [if_pos c9] at H
      have c9b0 : decide (0 < t20004) = true := decide_eq_true c9
      clear c9
      (first | rw [c9b0] | (simp only [i64_w, i32_w]; rw [c9b0]) | skip)
      replace H := Option.bind_eq_some_iff.mp H
      obtain ⟨⟨t20006, t20007⟩, A100, H⟩ := H
      replace H : ((spec_l13Rd_pick.f k s0_0 t20007 5).bind fun bt20008 => ((spec_l5Draw.f k s0_0 bt20008.2 t20006 (wrap64 (2 + bt20008.1)) (⟨#[]⟩ : ByteArray) (⟨#[]⟩ : ByteArray)).bind fun bt20010 => (spec_l5Some.j0 k bt20010.1 s0_0 bt20010.2))) = some (r1, r2) := H
      have A10 := Aside0.mk A100
      clear A100
      replace H := Option.bind_eq_some_iff.mp H
      obtain ⟨⟨t20008, t20009⟩, A110, H⟩ := H
      replace H : ((spec_l5Draw.f k s0_0 t20009 t20006 (wrap64 (2 + t20008)) (⟨#[]⟩ : ByteArray) (⟨#[]⟩ : ByteArray)).bind fun bt20010 => (spec_l5Some.j0 k bt20010.1 s0_0 bt20010.2)) = some (r1, r2) := H
      have A11 := Aside0.mk A110
      clear A110
      replace H := Option.bind_eq_some_iff.mp H
      obtain ⟨⟨t20010, t20011⟩, A120, H⟩ := H
      replace H : (spec_l5Some.j0 k t20010 s0_0 t20011) = some (r1, r2) := H
      have A12 := Aside0.mk A120
      clear A120
      have H' := Aside0.mk H
      clear H
      go_wp2_with (first | ((with_reducible refine gate_callee (f := 37) rfl ?_); refine goesL_ (some 13) rfl rfl Try.func37 (by kernel_rfl) rfl #[.pointer (some ⟨g, 0, none⟩), .int .i64 3] rfl (by (try simp only [List.map_toArray, List.map_cons, List.map_nil]); first | done | rfl | (simp only [List.length_drop, List.length_take]; rfl)) ?_; (with_reducible refine (spec_l13Rd_pick.calls k g s0_0 t20005 3 t20006 t20007 w0 _ ?side1 ?side2 A10.out).mono ?_); (case side1 => repeat (first | (with_reducible first | exact HI0.out | apply IsS69.alloc | apply IsS69.drewN | apply IsS69.drew | apply IsS69.set_1) | exact HI0.out)); (case side2 => repeat (first | (with_reducible first | exact HB.out | apply below_alloc | apply pw_below_drewN | apply below_drew1 | refine below_set ?_ (IsS69.ge HI0.out)) | exact HB.out)); rintro e w13 ⟨rfl, hi, hb, hk⟩; refine ⟨_, rfl, ?_⟩; have n0_ := Aside0.mk (KeepBut.trans (by repeat (first | (with_reducible first | exact HK.out | apply KeepBut.set_ | apply keep_drewN | apply keep_drew | apply keep_alloc) | exact HK.out)) hk (.inl rfl)); have n1_ := Aside0.mk (hb); have n2_ := Aside0.mk (hi); clear HK; clear HB; clear HI0; have HK := n0_; have HB := n1_; have HI0 := n2_; clear n0_ n1_ n2_; (try clear hb); (try clear hb2); (try clear hk); (try clear hi)) | ((with_reducible refine gate_callee (f := 37) rfl ?_); refine goesL_ (some 15) rfl rfl Try.func37 (by kernel_rfl) rfl #[.pointer (some ⟨g, 0, none⟩), .int .i64 5] rfl (by (try simp only [List.map_toArray, List.map_cons, List.map_nil]); first | done | rfl | (simp only [List.length_drop, List.length_take]; rfl)) ?_; (with_reducible refine (spec_l13Rd_pick.calls k g s0_0 t20007 5 t20008 t20009 w0 _ ?side1 ?side2 A11.out).mono ?_); (case side1 => repeat (first | (with_reducible first | exact HI0.out | apply IsS69.alloc | apply IsS69.drewN | apply IsS69.drew | apply IsS69.set_1) | exact HI0.out)); (case side2 => repeat (first | (with_reducible first | exact HB.out | apply below_alloc | apply pw_below_drewN | apply below_drew1 | refine below_set ?_ (IsS69.ge HI0.out)) | exact HB.out)); rintro e w14 ⟨rfl, hi, hb, hk⟩; refine ⟨_, rfl, ?_⟩; have n0_ := Aside0.mk (KeepBut.trans (by repeat (first | (with_reducible first | exact HK.out | apply KeepBut.set_ | apply keep_drewN | apply keep_drew | apply keep_alloc) | exact HK.out)) hk (.inl rfl)); have n1_ := Aside0.mk (hb); have n2_ := Aside0.mk (hi); clear HK; clear HB; clear HI0; have HK := n0_; have HB := n1_; have HI0 := n2_; clear n0_ n1_ n2_; (try clear hb); (try clear hb2); (try clear hk); (try clear hi)) | ((with_reducible refine gate_callee (f := 40) rfl ?_); refine goesL_ (some 17) rfl rfl Try.func40 (by kernel_rfl) rfl #[.pointer (some ⟨g, 0, none⟩), .int .i64 t20006, .int .i64 (wrap64 (2 + t20008)), .string (⟨#[]⟩ : ByteArray), .string (⟨#[]⟩ : ByteArray)] rfl (by (try simp only [List.map_toArray, List.map_cons, List.map_nil]); first | done | rfl | (simp only [List.length_drop, List.length_take]; rfl)) ?_; (with_reducible refine (spec_l5Draw.calls k g s0_0 t20009 t20006 (wrap64 (2 + t20008)) (⟨#[]⟩ : ByteArray) (⟨#[]⟩ : ByteArray) t20010 t20011 w0 _ ?side1 ?side2 A12.out).mono ?_); (case side1 => repeat (first | (with_reducible first | exact HI0.out | apply IsS69.alloc | apply IsS69.drewN | apply IsS69.drew | apply IsS69.set_1) | exact HI0.out)); (case side2 => repeat (first | (with_reducible first | exact HB.out | apply below_alloc | apply pw_below_drewN | apply below_drew1 | refine below_set ?_ (IsS69.ge HI0.out)) | exact HB.out)); rintro e w15 ⟨rfl, hi, hb, hk⟩; refine ⟨_, rfl, ?_⟩; have n0_ := Aside0.mk (KeepBut.trans (by repeat (first | (with_reducible first | exact HK.out | apply KeepBut.set_ | apply keep_drewN | apply keep_drew | apply keep_alloc) | exact HK.out)) hk (.inl rfl)); have n1_ := Aside0.mk (hb); have n2_ := Aside0.mk (hi); clear HK; clear HB; clear HI0; have HK := n0_; have HB := n1_; have HI0 := n2_; clear n0_ n1_ n2_; (try clear hb); (try clear hb2); (try clear hk); (try clear hi)))
      go_meet
      case rel => exact ⟨_, (t20010), (t20011), (by first | rfl | (simp; done) | (simp [*]; done)), H', ⟨by first | omega | exact Nat.le_refl _⟩, ⟨by repeat (first | (with_reducible first | exact HI0.out | apply IsS69.alloc | apply IsS69.drewN | apply IsS69.drew | apply IsS69.set_1) | exact HI0.out)⟩, ⟨by repeat (first | (with_reducible first | exact HK.out | apply KeepBut.set_ | apply keep_drewN | apply keep_drew | apply keep_alloc) | exact HK.out)⟩, ⟨by repeat (first | (with_reducible first | exact HB.out | apply below_alloc | apply pw_below_drewN | apply below_drew1 | refine below_set ?_ (IsS69.ge HI0.out)) | exact HB.out)⟩⟩
    · rw [if_neg c9] at H
      have c9b0 : decide (0 < t20004) = false := decide_eq_false c9
      clear c9
      (first | rw [c9b0] | (simp only [i64_w, i32_w]; rw [c9b0]) | skip)
      have H' := Aside0.mk H
      clear H
      go_wp2
      go_meet
      case rel => exact ⟨_, (t20003), (t20005), (by first | rfl | (simp; done) | (simp [*]; done)), H', ⟨by first | omega | exact Nat.le_refl _⟩, ⟨by repeat (first | (with_reducible first | exact HI0.out | apply IsS69.alloc | apply IsS69.drewN | apply IsS69.drew | apply IsS69.set_1) | exact HI0.out)⟩, ⟨by repeat (first | (with_reducible first | exact HK.out | apply KeepBut.set_ | apply keep_drewN | apply keep_drew | apply keep_alloc) | exact HK.out)⟩, ⟨by repeat (first | (with_reducible first | exact HB.out | apply below_alloc | apply pw_below_drewN | apply below_drew1 | refine below_set ?_ (IsS69.ge HI0.out)) | exact HB.out)⟩⟩
  case rest =>
    clear HC5
    try clear c1
    try clear p2
    try clear c3
    try clear c4
    try clear p6
    try clear c9
    try clear c9b0
    obtain ⟨kq, x3_4, x1001_4, rfl, HA, HJ4, HI0, HK, HB⟩ := hcut
    cases kq with
    | zero => exact absurd HA.out (by simp [spec_l5Some.j0])
    | succ kj4 =>
      have H := HA.out
      clear HA
      simp only [spec_l5Some.j0] at H
      have HC16 := Aside0.mk H
      clear H
      go_upto_if 20 with (fail)
      go_cut [3] (fun v3 wc => ∃ (kq : Nat) (x3_15 : ByteArray), v3 = .string x3_15 ∧ Aside0 (spec_l5Some.j1 kq x3_15 s0_0 x1001_4 = some (r1, r2)) ∧ Aside0 (kq ≤ kj4) ∧ Aside0 (IsS69 w0 wc g s0_0 x1001_4) ∧ Aside0 (KeepBut w wc g none) ∧ Aside0 (Below w0.heap.size w0 wc))
      case first =>
        have H := HC16.out
        clear HC16
        by_cases c17 : (x3_4.size : Int) > 80
        · rw [if_pos c17] at H
          have c17b0 : decide (80 < (x3_4.size : Int)) = true := decide_eq_true c17
          have c17b1 : decide (80 < x3_4.size) = true := decide_eq_true (by omega)
          clear c17
          (first | rw [c17b0] | (simp only [i64_w, i32_w]; rw [c17b0]) | skip)
          have H' := Aside0.mk H
          clear H
          go_wp2
          go_meet
          case rel => exact ⟨_, ((⟨#[83, 97]⟩ : ByteArray)), (by first | rfl | (simp; done) | (simp [*]; done)), H', ⟨by have := HJ4.out; first | omega | exact Nat.le_refl _⟩, ⟨by repeat (first | (with_reducible first | exact HI0.out | apply IsS69.alloc | apply IsS69.drewN | apply IsS69.drew | apply IsS69.set_1) | exact HI0.out)⟩, ⟨by repeat (first | (with_reducible first | exact HK.out | apply KeepBut.set_ | apply keep_drewN | apply keep_drew | apply keep_alloc) | exact HK.out)⟩, ⟨by repeat (first | (with_reducible first | exact HB.out | apply below_alloc | apply pw_below_drewN | apply below_drew1 | refine below_set ?_ (IsS69.ge HI0.out)) | exact HB.out)⟩⟩
        · rw [if_neg c17] at H
          have c17b0 : decide (80 < (x3_4.size : Int)) = false := decide_eq_false c17
          have c17b1 : decide (80 < x3_4.size) = false := decide_eq_false (by omega)
          clear c17
          (first | rw [c17b0] | (simp only [i64_w, i32_w]; rw [c17b0]) | skip)
          have H' := Aside0.mk H
          clear H
          go_wp2
          go_meet
          case rel => exact ⟨_, (x3_4), (by first | rfl | (simp; done) | (simp [*]; done)), H', ⟨by have := HJ4.out; first | omega | exact Nat.le_refl _⟩, ⟨by repeat (first | (with_reducible first | exact HI0.out | apply IsS69.alloc | apply IsS69.drewN | apply IsS69.drew | apply IsS69.set_1) | exact HI0.out)⟩, ⟨by repeat (first | (with_reducible first | exact HK.out | apply KeepBut.set_ | apply keep_drewN | apply keep_drew | apply keep_alloc) | exact HK.out)⟩, ⟨by repeat (first | (with_reducible first | exact HB.out | apply below_alloc | apply pw_below_drewN | apply below_drew1 | refine below_set ?_ (IsS69.ge HI0.out)) | exact HB.out)⟩⟩
      case rest =>
        clear HC16
        try clear c1
        try clear p2
        try clear c3
        try clear c4
        try clear p6
        try clear c9
        try clear c9b0
        try clear c17
        try clear c17b0
        try clear c17b1
        try clear p2
        try clear p6
        obtain ⟨kq, x3_15, rfl, HA, HJ15, HI0, HK, HB⟩ := hcut
        cases kq with
        | zero => exact absurd HA.out (by simp [spec_l5Some.j1])
        | succ kj15 =>
          have H := HA.out
          clear HA
          simp only [spec_l5Some.j1] at H
          replace H := Option.bind_eq_some_iff.mp H
          obtain ⟨⟨t20012, t20013⟩, A180, H⟩ := H
          replace H : (if t20012 > 0 then (some (x3_15, t20013)) else ((spec_l13Rd_pick.f kj15 s0_0 t20013 (x3_15.size : Int)).bind fun bt20014 => (if 0 ≤ bt20014.1 then (if bt20014.1 ≤ (x3_15.size : Int) then ((spec_l13Rd_of.f kj15 s0_0 bt20014.2 (([(⟨#[]⟩ : ByteArray), (⟨#[97]⟩ : ByteArray), (⟨#[120]⟩ : ByteArray), (⟨#[83]⟩ : ByteArray), (⟨#[40]⟩ : ByteArray), (⟨#[93]⟩ : ByteArray), (⟨#[113]⟩ : ByteArray)] : List ByteArray))).bind fun bt20019 => (if (x3_15.extract 0 (bt20014.1 : Int).toNat).size + bt20019.1.size ≤ 9223372036854775807 then ((spec_l13Rd_pick.f kj15 s0_0 bt20019.2 2).bind fun bt20021 => (if 0 ≤ (wrap64 (bt20014.1 + bt20021.1)) then (if (wrap64 (bt20014.1 + bt20021.1)) ≤ (x3_15.size : Int) then (if ((x3_15.extract 0 (bt20014.1 : Int).toNat) ++ bt20019.1).size + (x3_15.extract ((wrap64 (bt20014.1 + bt20021.1)) : Int).toNat x3_15.size).size ≤ 9223372036854775807 then (some (((x3_15.extract 0 (bt20014.1 : Int).toNat) ++ bt20019.1) ++ (x3_15.extract ((wrap64 (bt20014.1 + bt20021.1)) : Int).toNat x3_15.size), bt20021.2)) else (none)) else (none)) else (none))) else (none))) else (none)) else (none)))) = some (r1, r2) := H
          have A18 := Aside0.mk A180
          clear A180
          by_cases c19 : t20012 > 0
          · rw [if_pos c19] at H
            have c19b0 : decide (0 < t20012) = true := decide_eq_true c19
            clear c19
            simp only [Option.some.injEq, Prod.mk.injEq] at H
            obtain ⟨rfl, rfl⟩ := H
            go_wp2_with (first | ((with_reducible refine gate_callee (f := 37) rfl ?_); refine goesL_ (some 22) rfl rfl Try.func37 (by kernel_rfl) rfl #[.pointer (some ⟨g, 0, none⟩), .int .i64 18] rfl (by (try simp only [List.map_toArray, List.map_cons, List.map_nil]); first | done | rfl | (simp only [List.length_drop, List.length_take]; rfl)) ?_; (with_reducible refine (spec_l13Rd_pick.calls kj15 g s0_0 x1001_4 18 t20012 t20013 w0 _ ?side1 ?side2 A18.out).mono ?_); (case side1 => repeat (first | (with_reducible first | exact HI0.out | apply IsS69.alloc | apply IsS69.drewN | apply IsS69.drew | apply IsS69.set_1) | exact HI0.out)); (case side2 => repeat (first | (with_reducible first | exact HB.out | apply below_alloc | apply pw_below_drewN | apply below_drew1 | refine below_set ?_ (IsS69.ge HI0.out)) | exact HB.out)); rintro e w20 ⟨rfl, hi, hb, hk⟩; refine ⟨_, rfl, ?_⟩; have n0_ := Aside0.mk (KeepBut.trans (by repeat (first | (with_reducible first | exact HK.out | apply KeepBut.set_ | apply keep_drewN | apply keep_drew | apply keep_alloc) | exact HK.out)) hk (.inl rfl)); have n1_ := Aside0.mk (hb); have n2_ := Aside0.mk (hi); clear HK; clear HB; clear HI0; have HK := n0_; have HB := n1_; have HI0 := n2_; clear n0_ n1_ n2_; (try clear hb); (try clear hb2); (try clear hk); (try clear hi)))
            go_ret
            exact ⟨by first | rfl | (simp [errW_none, errW_some] <;> rfl) | (simp [*, errW_none, errW_some] <;> rfl), by repeat (first | (with_reducible first | exact HI0.out | apply IsS69.alloc | apply IsS69.drewN | apply IsS69.drew | apply IsS69.set_1) | exact HI0.out), by repeat (first | (with_reducible first | exact HB.out | apply below_alloc | apply pw_below_drewN | apply below_drew1 | refine below_set ?_ (IsS69.ge HI0.out)) | exact HB.out), by repeat (first | (with_reducible first | exact HK.out | apply KeepBut.set_ | apply keep_drewN | apply keep_drew | apply keep_alloc) | exact HK.out)⟩
          · rw [if_neg c19] at H
            have c19b0 : decide (0 < t20012) = false := decide_eq_false c19
            clear c19
            replace H := Option.bind_eq_some_iff.mp H
            obtain ⟨⟨t20014, t20015⟩, A210, H⟩ := H
            replace H : (if 0 ≤ t20014 then (if t20014 ≤ (x3_15.size : Int) then ((spec_l13Rd_of.f kj15 s0_0 t20015 (([(⟨#[]⟩ : ByteArray), (⟨#[97]⟩ : ByteArray), (⟨#[120]⟩ : ByteArray), (⟨#[83]⟩ : ByteArray), (⟨#[40]⟩ : ByteArray), (⟨#[93]⟩ : ByteArray), (⟨#[113]⟩ : ByteArray)] : List ByteArray))).bind fun bt20019 => (if (x3_15.extract 0 (t20014 : Int).toNat).size + bt20019.1.size ≤ 9223372036854775807 then ((spec_l13Rd_pick.f kj15 s0_0 bt20019.2 2).bind fun bt20021 => (if 0 ≤ (wrap64 (t20014 + bt20021.1)) then (if (wrap64 (t20014 + bt20021.1)) ≤ (x3_15.size : Int) then (if ((x3_15.extract 0 (t20014 : Int).toNat) ++ bt20019.1).size + (x3_15.extract ((wrap64 (t20014 + bt20021.1)) : Int).toNat x3_15.size).size ≤ 9223372036854775807 then (some (((x3_15.extract 0 (t20014 : Int).toNat) ++ bt20019.1) ++ (x3_15.extract ((wrap64 (t20014 + bt20021.1)) : Int).toNat x3_15.size), bt20021.2)) else (none)) else (none)) else (none))) else (none))) else (none)) else (none)) = some (r1, r2) := H
            have A21 := Aside0.mk A210
            clear A210
            by_cases c22 : 0 ≤ t20014
            · rw [if_pos c22] at H
              have c22b0 := eq_true c22
              have c22b1 : decide (0 ≤ t20014) = true := decide_eq_true c22
              clear c22
              by_cases c23 : t20014 ≤ (x3_15.size : Int)
              · rw [if_pos c23] at H
                have c23b0 := eq_true c23
                have c23b1 : decide (t20014 ≤ (x3_15.size : Int)) = true := decide_eq_true c23
                clear c23
                obtain ⟨y20016, hy20016⟩ : ∃ y_ : List ByteArray, y_ = (([(⟨#[]⟩ : ByteArray), (⟨#[97]⟩ : ByteArray), (⟨#[120]⟩ : ByteArray), (⟨#[83]⟩ : ByteArray), (⟨#[40]⟩ : ByteArray), (⟨#[93]⟩ : ByteArray), (⟨#[113]⟩ : ByteArray)] : List ByteArray)) := ⟨_, rfl⟩
                replace H : ((spec_l13Rd_of.f kj15 s0_0 t20015 y20016).bind fun bt20019 => (if (x3_15.extract 0 (t20014 : Int).toNat).size + bt20019.1.size ≤ 9223372036854775807 then ((spec_l13Rd_pick.f kj15 s0_0 bt20019.2 2).bind fun bt20021 => (if 0 ≤ (wrap64 (t20014 + bt20021.1)) then (if (wrap64 (t20014 + bt20021.1)) ≤ (x3_15.size : Int) then (if ((x3_15.extract 0 (t20014 : Int).toNat) ++ bt20019.1).size + (x3_15.extract ((wrap64 (t20014 + bt20021.1)) : Int).toNat x3_15.size).size ≤ 9223372036854775807 then (some (((x3_15.extract 0 (t20014 : Int).toNat) ++ bt20019.1) ++ (x3_15.extract ((wrap64 (t20014 + bt20021.1)) : Int).toNat x3_15.size), bt20021.2)) else (none)) else (none)) else (none))) else (none))) = some (r1, r2) := by first | (rw [hy20016]; with_reducible exact H) | (have H2_ := (Option.bind_some _ _).symm.trans H; rw [hy20016]; with_reducible exact H2_) | (have H2_ := (Option.bind_some _ _).symm.trans H; with_reducible exact H2_) | with_reducible exact H | (rw [hy20016]; exact H) | exact H
                have Ny20016 := Aside0.mk hy20016
                clear hy20016
                replace H := Option.bind_eq_some_iff.mp H
                obtain ⟨⟨t20019, t20020⟩, A240, H⟩ := H
                replace H : (if (x3_15.extract 0 (t20014 : Int).toNat).size + t20019.size ≤ 9223372036854775807 then ((spec_l13Rd_pick.f kj15 s0_0 t20020 2).bind fun bt20021 => (if 0 ≤ (wrap64 (t20014 + bt20021.1)) then (if (wrap64 (t20014 + bt20021.1)) ≤ (x3_15.size : Int) then (if ((x3_15.extract 0 (t20014 : Int).toNat) ++ t20019).size + (x3_15.extract ((wrap64 (t20014 + bt20021.1)) : Int).toNat x3_15.size).size ≤ 9223372036854775807 then (some (((x3_15.extract 0 (t20014 : Int).toNat) ++ t20019) ++ (x3_15.extract ((wrap64 (t20014 + bt20021.1)) : Int).toNat x3_15.size), bt20021.2)) else (none)) else (none)) else (none))) else (none)) = some (r1, r2) := H
                have A24 := Aside0.mk A240
                clear A240
                by_cases c25 : (x3_15.extract 0 (t20014 : Int).toNat).size + t20019.size ≤ 9223372036854775807
                · rw [if_pos c25] at H
                  have c25b0 := eq_true c25
                  have c25b1 : decide ((x3_15.extract 0 (t20014 : Int).toNat).size + t20019.size ≤ 9223372036854775807) = true := decide_eq_true c25
                  try have c25b2 : (9223372036854775807 < (x3_15.extract 0 (t20014 : Int).toNat).size + t20019.size) = False := eq_false (Nat.not_lt.2 c25)
                  try have c25b3 : (9223372036854775807 < t20014.toNat + t20019.size) = False := eq_false (by have h := c25; have g := of_eq_true c22b0; have g2 := of_eq_true c23b0; rw [ByteArray.size_extract] at h; omega)
                  replace H := Option.bind_eq_some_iff.mp H
                  obtain ⟨⟨t20021, t20022⟩, A260, H⟩ := H
                  replace H : (if 0 ≤ (wrap64 (t20014 + t20021)) then (if (wrap64 (t20014 + t20021)) ≤ (x3_15.size : Int) then (if ((x3_15.extract 0 (t20014 : Int).toNat) ++ t20019).size + (x3_15.extract ((wrap64 (t20014 + t20021)) : Int).toNat x3_15.size).size ≤ 9223372036854775807 then (some (((x3_15.extract 0 (t20014 : Int).toNat) ++ t20019) ++ (x3_15.extract ((wrap64 (t20014 + t20021)) : Int).toNat x3_15.size), t20022)) else (none)) else (none)) else (none)) = some (r1, r2) := H
                  have A26 := Aside0.mk A260
                  clear A260
                  obtain ⟨ji27, hji27⟩ : ∃ j_ : Int, (wrap64 (t20014 + t20021)) = j_ := ⟨_, rfl⟩
                  replace H : (if 0 ≤ (ji27) then (if (ji27) ≤ (x3_15.size : Int) then (if ((x3_15.extract 0 (t20014 : Int).toNat) ++ t20019).size + (x3_15.extract ((ji27) : Int).toNat x3_15.size).size ≤ 9223372036854775807 then (some (((x3_15.extract 0 (t20014 : Int).toNat) ++ t20019) ++ (x3_15.extract ((ji27) : Int).toNat x3_15.size), t20022)) else (none)) else (none)) else (none)) = some (r1, r2) := by first | (rw [hji27] at H; exact H) | (simp only [hji27] at H ⊢; exact H)
                  (try rw [hji27] at A18)
                  (try rw [hji27] at A21)
                  (try rw [hji27] at A24)
                  (try rw [hji27] at A26)
                  have hji27w : (IntKind.i64.wrap (t20014 + t20021)) = ji27 := (i64_w _).trans hji27
                  by_cases c28 : 0 ≤ (ji27)
                  · rw [if_pos c28] at H
                    have c28b0 := eq_true c28
                    have c28b1 : decide (0 ≤ (ji27)) = true := decide_eq_true c28
                    clear c28
                    by_cases c29 : (ji27) ≤ (x3_15.size : Int)
                    · rw [if_pos c29] at H
                      have c29b0 := eq_true c29
                      have c29b1 : decide ((ji27) ≤ (x3_15.size : Int)) = true := decide_eq_true c29
                      clear c29
                      by_cases c30 : ((x3_15.extract 0 (t20014 : Int).toNat) ++ t20019).size + (x3_15.extract ((ji27) : Int).toNat x3_15.size).size ≤ 9223372036854775807
                      · rw [if_pos c30] at H
                        have c30b0 := eq_true c30
                        have c30b1 : decide (((x3_15.extract 0 (t20014 : Int).toNat) ++ t20019).size + (x3_15.extract ((ji27) : Int).toNat x3_15.size).size ≤ 9223372036854775807) = true := decide_eq_true c30
                        try have c30b2 : (9223372036854775807 < ((x3_15.extract 0 (t20014 : Int).toNat) ++ t20019).size + (x3_15.extract ((ji27) : Int).toNat x3_15.size).size) = False := eq_false (Nat.not_lt.2 c30)
                        try have c30b3 : (9223372036854775807 < t20014.toNat + t20019.size + (x3_15.size - ji27.toNat)) = False := eq_false (by have h := c30; have g := of_eq_true c22b0; have g2 := of_eq_true c23b0; have g3 := of_eq_true c28b0; have g4 := of_eq_true c29b0; rw [ByteArray.size_append, ByteArray.size_extract, ByteArray.size_extract] at h; omega)
                        simp only [Option.some.injEq, Prod.mk.injEq] at H
                        obtain ⟨rfl, rfl⟩ := H
                        try go_wp2_with (first | ((with_reducible refine gate_callee (f := 37) rfl ?_); refine goesL_ (some 22) rfl rfl Try.func37 (by kernel_rfl) rfl #[.pointer (some ⟨g, 0, none⟩), .int .i64 18] rfl (by (try simp only [List.map_toArray, List.map_cons, List.map_nil]); first | done | rfl | (simp only [List.length_drop, List.length_take]; rfl)) ?_; (with_reducible refine (spec_l13Rd_pick.calls kj15 g s0_0 x1001_4 18 t20012 t20013 w0 _ ?side1 ?side2 A18.out).mono ?_); (case side1 => repeat (first | (with_reducible first | exact HI0.out | apply IsS69.alloc | apply IsS69.drewN | apply IsS69.drew | apply IsS69.set_1) | exact HI0.out)); (case side2 => repeat (first | (with_reducible first | exact HB.out | apply below_alloc | apply pw_below_drewN | apply below_drew1 | refine below_set ?_ (IsS69.ge HI0.out)) | exact HB.out)); rintro e w31 ⟨rfl, hi, hb, hk⟩; refine ⟨_, rfl, ?_⟩; have n0_ := Aside0.mk (KeepBut.trans (by repeat (first | (with_reducible first | exact HK.out | apply KeepBut.set_ | apply keep_drewN | apply keep_drew | apply keep_alloc) | exact HK.out)) hk (.inl rfl)); have n1_ := Aside0.mk (hb); have n2_ := Aside0.mk (hi); clear HK; clear HB; clear HI0; have HK := n0_; have HB := n1_; have HI0 := n2_; clear n0_ n1_ n2_; (try clear hb); (try clear hb2); (try clear hk); (try clear hi)) | ((with_reducible refine gate_callee (f := 37) rfl ?_); refine goesL_ (some 28) rfl rfl Try.func37 (by kernel_rfl) rfl #[.pointer (some ⟨g, 0, none⟩), .int .i64 (x3_15.size : Int)] rfl (by (try simp only [List.map_toArray, List.map_cons, List.map_nil]); first | done | rfl | (simp only [List.length_drop, List.length_take]; rfl)) ?_; (with_reducible refine (spec_l13Rd_pick.calls kj15 g s0_0 t20013 (x3_15.size : Int) t20014 t20015 w0 _ ?side1 ?side2 A21.out).mono ?_); (case side1 => repeat (first | (with_reducible first | exact HI0.out | apply IsS69.alloc | apply IsS69.drewN | apply IsS69.drew | apply IsS69.set_1) | exact HI0.out)); (case side2 => repeat (first | (with_reducible first | exact HB.out | apply below_alloc | apply pw_below_drewN | apply below_drew1 | refine below_set ?_ (IsS69.ge HI0.out)) | exact HB.out)); rintro e w32 ⟨rfl, hi, hb, hk⟩; refine ⟨_, rfl, ?_⟩; have n0_ := Aside0.mk (KeepBut.trans (by repeat (first | (with_reducible first | exact HK.out | apply KeepBut.set_ | apply keep_drewN | apply keep_drew | apply keep_alloc) | exact HK.out)) hk (.inl rfl)); have n1_ := Aside0.mk (hb); have n2_ := Aside0.mk (hi); clear HK; clear HB; clear HI0; have HK := n0_; have HB := n1_; have HI0 := n2_; clear n0_ n1_ n2_; (try clear hb); (try clear hb2); (try clear hk); (try clear hi)))
                        have n0_ := Aside0.mk (IsS69.drew HI0.out)
                        have n1_ := Aside0.mk (keep_drew HK.out)
                        have n2_ := Aside0.mk (below_drew1 HB.out)
                        clear HI0
                        clear HK
                        clear HB
                        have HI0 := n0_
                        have HK := n1_
                        have HB := n2_
                        clear n0_ n1_ n2_
                        refine start_ (n := 15) (S := fun w' => True) (ds := []) #[false, false, false, false, false, false, false, false, false, false, false, false, false, false, false] (by kernel_rfl) rfl rfl trivial (fun hHeld => ?_); refine with_tabW spec_l5Some.tab9 spec_l5Some.bits9 (fun HT_ HW_ => ?_)
                        generalize w32.drew = w33 at HI0 HK HB hHeld ⊢
                        refine pure_ (i := 0) (N := some 29) (v := ?_) (a' := ?_) #[true, false, false, false, false, false, false, false, false, false, false, false, false, false, false] rfl rfl (any_of HT_.out (by kernel_rfl)) (fun _ _ _ h => h) (Or.inl ⟨by rfl, ?_⟩) ?_ ?_
                        rotate_left
                        · intro w'
                          go_simp
                          with_reducible rfl
                        rotate_left
                        · simp only [Act.put, List.setIfInBounds_toArray, List.set_cons_zero, List.set_cons_succ, i64_w, i32_w]
                          rfl
                        refine pure_ (i := 1) (N := some 30) (v := ?_) (a' := ?_) #[true, true, false, false, false, false, false, false, false, false, false, false, false, false, false] rfl rfl (any_of HT_.out (by kernel_rfl)) (fun _ _ _ h => h) (Or.inl ⟨by rfl, ?_⟩) ?_ ?_
                        rotate_left
                        · intro w'
                          go_simp
                          with_reducible rfl
                        rotate_left
                        · simp only [Act.put, List.setIfInBounds_toArray, List.set_cons_zero, List.set_cons_succ, i64_w, i32_w]
                          rfl
                        refine pure_ (i := 2) (N := some 31) (v := ?_) (a' := ?_) #[true, true, true, false, false, false, false, false, false, false, false, false, false, false, false] rfl rfl (any_of HT_.out (by kernel_rfl)) (fun _ _ _ h => h) (Or.inl ⟨by rfl, ?_⟩) ?_ ?_
                        rotate_left
                        · intro w'
                          go_simp
                          with_reducible rfl
                        rotate_left
                        · simp only [Act.put, List.setIfInBounds_toArray, List.set_cons_zero, List.set_cons_succ, i64_w, i32_w]
                          rfl
                        refine pure_ (i := 3) (N := some 32) (v := ?_) (a' := ?_) #[true, true, true, true, false, false, false, false, false, false, false, false, false, false, false] rfl rfl (any_of HT_.out (by kernel_rfl)) (fun _ _ _ h => h) (Or.inl ⟨by rfl, ?_⟩) ?_ ?_
                        rotate_left
                        · intro w'
                          go_simp
                          with_reducible rfl
                        rotate_left
                        · simp only [Act.put, List.setIfInBounds_toArray, List.set_cons_zero, List.set_cons_succ, i64_w, i32_w]
                          rfl
                        refine pure_ (i := 7) (N := some 36) (v := ?_) (a' := ?_) #[true, true, true, true, false, false, false, true, false, false, false, false, false, false, false] rfl rfl (any_of HT_.out (by kernel_rfl)) (fun _ _ _ h => h) (Or.inl ⟨by rfl, ?_⟩) ?_ ?_
                        rotate_left
                        · intro w'
                          go_simp
                          with_reducible rfl
                        rotate_left
                        · simp only [Act.put, List.setIfInBounds_toArray, List.set_cons_zero, List.set_cons_succ, i64_w, i32_w]
                          rfl
                        refine pure_ (i := 8) (N := some 37) (v := ?_) (a' := ?_) #[true, true, true, true, false, false, false, true, true, false, false, false, false, false, false] rfl rfl (any_of HT_.out (by kernel_rfl)) (fun _ _ _ h => h) (Or.inl ⟨by rfl, ?_⟩) ?_ ?_
                        rotate_left
                        · intro w'
                          go_simp
                          with_reducible rfl
                        rotate_left
                        · simp only [Act.put, List.setIfInBounds_toArray, List.set_cons_zero, List.set_cons_succ, i64_w, i32_w]
                          rfl
                        refine pure_ (i := 9) (N := some 38) (v := ?_) (a' := ?_) #[true, true, true, true, false, false, false, true, true, true, false, false, false, false, false] rfl rfl (any_of HT_.out (by kernel_rfl)) (fun _ _ _ h => h) (Or.inl ⟨by rfl, ?_⟩) ?_ ?_
                        rotate_left
                        · intro w'
                          go_simp
                          with_reducible rfl
                        rotate_left
                        · simp only [Act.put, List.setIfInBounds_toArray, List.set_cons_zero, List.set_cons_succ, i64_w, i32_w]
                          rfl
                        refine one_ (i := 4) (N := some 33) #[true, true, true, true, true, false, false, true, true, true, false, false, false, false, false] rfl rfl (one_of HT_.out (by kernel_rfl)) (by decide) (fun K hK => ?_)
                        refine Kd.R_lit_step Kd.string _ 9 ?hg (N := 33) ?hd (xs := ([(⟨#[]⟩ : ByteArray), (⟨#[97]⟩ : ByteArray), (⟨#[120]⟩ : ByteArray), (⟨#[83]⟩ : ByteArray), (⟨#[40]⟩ : ByteArray), (⟨#[93]⟩ : ByteArray), (⟨#[113]⟩ : ByteArray)] : List ByteArray)) (inner := [.string (⟨#[]⟩ : ByteArray), .string (⟨#[97]⟩ : ByteArray), .string (⟨#[120]⟩ : ByteArray), .string (⟨#[83]⟩ : ByteArray), .string (⟨#[40]⟩ : ByteArray), .string (⟨#[93]⟩ : ByteArray), .string (⟨#[113]⟩ : ByteArray)]) (ok := fun _ => True) (okp := fun _ => True) ?hr ?hp (fun _ hk => hk) trivial (Below.refl _ _) (Nat.le_refl _) (by simp) ?_; (case hd => rfl); (case hg => rfl); (case hr => first | (go_simp; done) | (go_simp; rfl)); (case hp => exact (Reps.one (show Kd.M Kd.string _ _ _ (⟨#[]⟩ : ByteArray) [.string (⟨#[]⟩ : ByteArray)] from rfl) (Reps.one (show Kd.M Kd.string _ _ _ (⟨#[97]⟩ : ByteArray) [.string (⟨#[97]⟩ : ByteArray)] from rfl) (Reps.one (show Kd.M Kd.string _ _ _ (⟨#[120]⟩ : ByteArray) [.string (⟨#[120]⟩ : ByteArray)] from rfl) (Reps.one (show Kd.M Kd.string _ _ _ (⟨#[83]⟩ : ByteArray) [.string (⟨#[83]⟩ : ByteArray)] from rfl) (Reps.one (show Kd.M Kd.string _ _ _ (⟨#[40]⟩ : ByteArray) [.string (⟨#[40]⟩ : ByteArray)] from rfl) (Reps.one (show Kd.M Kd.string _ _ _ (⟨#[93]⟩ : ByteArray) [.string (⟨#[93]⟩ : ByteArray)] from rfl) (Reps.one (show Kd.M Kd.string _ _ _ (⟨#[113]⟩ : ByteArray) [.string (⟨#[113]⟩ : ByteArray)] from rfl) (Reps.none _ _)))))))))
                        intro v20017 w34 ho35 hb hg_ hnew_
                        clear hg_ hnew_
                        (first | rw [← Ny20016.out] at ho35 | (simp only [Int.reduceToNat] at ho35; rw [← Ny20016.out] at ho35))
                        have n0_ := Aside0.mk (Kd.R_lower ho35 (keep_size (w := w) (g := g) (row := none) (by repeat (first | (with_reducible first | exact HK.out | apply KeepBut.set_ | apply keep_drewN | apply keep_drew | apply keep_alloc) | exact HK.out))))
                        have n1_ := Aside0.mk (IsS69.below (by repeat (first | (with_reducible first | exact HI0.out | apply IsS69.alloc | apply IsS69.drewN | apply IsS69.drew | apply IsS69.set_1) | exact HI0.out)) hb)
                        have n2_ := Aside0.mk (KeepBut.trans (by repeat (first | (with_reducible first | exact HK.out | apply KeepBut.set_ | apply keep_drewN | apply keep_drew | apply keep_alloc) | exact HK.out)) (KeepBut.of_below hb g none) (.inl rfl))
                        have n3_ := Aside0.mk (below_step (by repeat (first | (with_reducible first | exact HB.out | apply below_alloc | apply pw_below_drewN | apply below_drew1 | refine below_set ?_ (IsS69.ge HI0.out)) | exact HB.out)) hb)
                        clear HI0
                        clear HK
                        clear HB
                        have HO20018 := n0_
                        have HI0 := n1_
                        have HK := n2_
                        have HB := n3_
                        clear n0_ n1_ n2_ n3_
                        clear hb ho35
                        obtain ⟨Ao36, co36, eo36⟩ := Kd.R_slice HO20018.out
                        (first | subst eo36 | (injection eo36 with f1_ f2_ f3_; have f4_ := f1_.symm; have f5_ := f3_.symm; clear f1_ f2_ f3_; subst f4_; subst f5_))
                        refine hK.out _ _ trivial (fun hHeld => ?_)
                        clear hK K
                        refine norm_ (a' := ?_) ?_ ?_
                        rotate_left
                        · show Act.put _ (some 33) _ = _
                          simp only [Act.put, List.setIfInBounds_toArray, List.set_cons_zero, List.set_cons_succ, i64_w, i32_w]
                          rfl
                        refine one_ (i := 5) (N := some 34) #[true, true, true, true, true, true, false, true, true, true, false, false, false, false, false] rfl rfl (one_of HT_.out (by kernel_rfl)) (by decide) (fun K hK => ?_)
                        refine goes_ Try.func31 (by kernel_rfl) rfl #[.pointer (some ⟨g, 0, none⟩), .slice Ao36 y20016.length co36] (by rfl) rfl rfl (by (try simp only [List.map_toArray, List.map_cons, List.map_nil]); first | done | rfl | (simp only [List.length_drop, List.length_take]; rfl)) ?_
                        with_reducible refine (spec_l13Rd_of.calls kj15 g s0_0 t20015 _ _ y20016 t20019 t20020 w0 _ ?side1 ?side2 ?side3 ?side4 ?side5 A24.out).mono ?_
                        (case side1 => repeat (first | (with_reducible first | exact HI0.out | apply IsS69.alloc | apply IsS69.drewN | apply IsS69.drew | apply IsS69.set_1) | exact HI0.out))
                        (case side2 => repeat (first | (with_reducible first | exact HB.out | apply below_alloc | apply pw_below_drewN | apply below_drew1 | refine below_set ?_ (IsS69.ge HI0.out)) | exact HB.out))
                        (case side3 => repeat (first | exact (Kd.R_reads' HO20018.out).2.2 | (with_reducible refine Kd.C_alloc ?_ _) | (with_reducible refine Kd.C_drewN ?_ _) | (with_reducible refine Kd.C_drew ?_)))
                        (case side4 => exact (Kd.R_reads' HO20018.out).2.1)
                        (case side5 => exact far_slice (IsS69.own_ne HI0.out HO20018.out (by decide)))
                        rintro e w37 ⟨rfl, hi, hb, hk⟩
                        refine ⟨_, rfl, ?_⟩
                        have n0_ := Aside0.mk (Kd.R_mono (Kd.R_keep (IsS69.apart (show IsS69 w0 _ g s0_0 t20015 from by repeat (first | (with_reducible first | exact HI0.out | apply IsS69.alloc | apply IsS69.drewN | apply IsS69.drew | apply IsS69.set_1) | exact HI0.out)) (by (with_reducible repeat (first | apply Kd.R_alloc | apply Kd.R_drewN | apply Kd.R_drew)); exact HO20018.out) (by decide)) hk (fun _ h => h.2)) (fun _ h => h.1))
                        have n1_ := Aside0.mk (KeepBut.trans (by repeat (first | (with_reducible first | exact HK.out | apply KeepBut.set_ | apply keep_drewN | apply keep_drew | apply keep_alloc) | exact HK.out)) hk (.inl rfl))
                        have n2_ := Aside0.mk (hb)
                        have n3_ := Aside0.mk (hi)
                        clear HO20018
                        clear HK
                        clear HB
                        clear HI0
                        have HO20018 := n0_
                        have HK := n1_
                        have HB := n2_
                        have HI0 := n3_
                        clear n0_ n1_ n2_ n3_
                        (try clear hb)
                        (try clear hb2)
                        (try clear hk)
                        (try clear hi)
                        refine hK.out _ _ trivial (fun hHeld => ?_)
                        clear hK K
                        refine norm_ (a' := ?_) ?_ ?_
                        rotate_left
                        · show Act.put _ (some 34) _ = _
                          simp only [Act.put, List.setIfInBounds_toArray, List.set_cons_zero, List.set_cons_succ, i64_w, i32_w]
                          rfl
                        refine pure_ (i := 6) (N := some 35) (v := ?_) (a' := ?_) #[true, true, true, true, true, true, true, true, true, true, false, false, false, false, false] rfl rfl (any_of HT_.out (by kernel_rfl)) (fun _ _ _ h => h) (Or.inl ⟨by rfl, ?_⟩) ?_ ?_
                        rotate_left
                        · intro w'
                          go_simp
                          with_reducible rfl
                        rotate_left
                        · simp only [Act.put, List.setIfInBounds_toArray, List.set_cons_zero, List.set_cons_succ, i64_w, i32_w]
                          rfl
                        refine one_ (i := 10) (N := some 39) #[true, true, true, true, true, true, true, true, true, true, true, false, false, false, false] rfl rfl (one_of HT_.out (by kernel_rfl)) (by decide) (fun K hK => ?_)
                        refine goes_ Try.func37 (by kernel_rfl) rfl #[.pointer (some ⟨g, 0, none⟩), .int .i64 2] (by rfl) rfl rfl (by (try simp only [List.map_toArray, List.map_cons, List.map_nil]); first | done | rfl | (simp only [List.length_drop, List.length_take]; rfl)) ?_
                        with_reducible refine (spec_l13Rd_pick.calls kj15 g s0_0 t20020 2 t20021 t20022 w0 _ ?side1 ?side2 A26.out).mono ?_
                        (case side1 => repeat (first | (with_reducible first | exact HI0.out | apply IsS69.alloc | apply IsS69.drewN | apply IsS69.drew | apply IsS69.set_1) | exact HI0.out))
                        (case side2 => repeat (first | (with_reducible first | exact HB.out | apply below_alloc | apply pw_below_drewN | apply below_drew1 | refine below_set ?_ (IsS69.ge HI0.out)) | exact HB.out))
                        rintro e w38 ⟨rfl, hi, hb, hk⟩
                        refine ⟨_, rfl, ?_⟩
                        have n0_ := Aside0.mk (Kd.R_mono (Kd.R_keep (IsS69.apart (show IsS69 w0 _ g s0_0 t20020 from by repeat (first | (with_reducible first | exact HI0.out | apply IsS69.alloc | apply IsS69.drewN | apply IsS69.drew | apply IsS69.set_1) | exact HI0.out)) (by (with_reducible repeat (first | apply Kd.R_alloc | apply Kd.R_drewN | apply Kd.R_drew)); exact HO20018.out) (by decide)) hk (fun _ h => h.2)) (fun _ h => h.1))
                        have n1_ := Aside0.mk (KeepBut.trans (by repeat (first | (with_reducible first | exact HK.out | apply KeepBut.set_ | apply keep_drewN | apply keep_drew | apply keep_alloc) | exact HK.out)) hk (.inl rfl))
                        have n2_ := Aside0.mk (hb)
                        have n3_ := Aside0.mk (hi)
                        clear HO20018
                        clear HK
                        clear HB
                        clear HI0
                        have HO20018 := n0_
                        have HK := n1_
                        have HB := n2_
                        have HI0 := n3_
                        clear n0_ n1_ n2_ n3_
                        (try clear hb)
                        (try clear hb2)
                        (try clear hk)
                        (try clear hi)
                        refine hK.out _ _ trivial (fun hHeld => ?_)
                        clear hK K
                        refine norm_ (a' := ?_) ?_ ?_
                        rotate_left
                        · show Act.put _ (some 39) _ = _
                          simp only [Act.put, List.setIfInBounds_toArray, List.set_cons_zero, List.set_cons_succ, i64_w, i32_w]
                          rfl
                        refine pure_ (i := 11) (N := some 40) (v := ?_) (a' := ?_) #[true, true, true, true, true, true, true, true, true, true, true, true, false, false, false] rfl rfl (any_of HT_.out (by kernel_rfl)) (fun _ _ _ h => h) (Or.inl ⟨by rfl, ?_⟩) ?_ ?_
                        rotate_left
                        · intro w'
                          go_simp
                          with_reducible rfl
                        rotate_left
                        · simp only [Act.put, List.setIfInBounds_toArray, List.set_cons_zero, List.set_cons_succ, i64_w, i32_w]
                          rfl
                        refine pure_ (i := 12) (N := some 41) (v := ?_) (a' := ?_) #[true, true, true, true, true, true, true, true, true, true, true, true, true, false, false] rfl rfl (any_of HT_.out (by kernel_rfl)) (fun _ _ _ h => h) (Or.inl ⟨by rfl, ?_⟩) ?_ ?_
                        rotate_left
                        · intro w'
                          go_simp
                          with_reducible rfl
                        rotate_left
                        · simp only [Act.put, List.setIfInBounds_toArray, List.set_cons_zero, List.set_cons_succ, i64_w, i32_w]
                          rfl
                        refine pure_ (i := 13) (N := some 42) (v := ?_) (a' := ?_) #[true, true, true, true, true, true, true, true, true, true, true, true, true, true, false] rfl rfl (any_of HT_.out (by kernel_rfl)) (fun _ _ _ h => h) (Or.inl ⟨by rfl, ?_⟩) ?_ ?_
                        rotate_left
                        · intro w'
                          go_simp
                          with_reducible rfl
                        rotate_left
                        · simp only [Act.put, List.setIfInBounds_toArray, List.set_cons_zero, List.set_cons_succ, i64_w, i32_w]
                          rfl
                        refine pure_ (i := 14) (N := some 2) (v := ?_) (a' := ?_) #[true, true, true, true, true, true, true, true, true, true, true, true, true, true, true] rfl rfl (any_of HT_.out (by kernel_rfl)) (fun _ _ _ h => h) (Or.inl ⟨by rfl, ?_⟩) ?_ ?_
                        rotate_left
                        · intro w'
                          go_simp
                          with_reducible rfl
                        rotate_left
                        · simp only [Act.put, List.setIfInBounds_toArray, List.set_cons_zero, List.set_cons_succ, i64_w, i32_w]
                          rfl
                        refine done_ (done_of HT_.out (by kernel_rfl)) ?_
                        try go_wp2
                        go_ret
                        exact ⟨by first | rfl | (simp [errW_none, errW_some] <;> rfl) | (simp only [← hji27]; first | rfl | (simp [errW_none, errW_some] <;> rfl)) | (simp [*, errW_none, errW_some] <;> rfl), by repeat (first | (with_reducible first | exact HI0.out | apply IsS69.alloc | apply IsS69.drewN | apply IsS69.drew | apply IsS69.set_1) | exact HI0.out), by repeat (first | (with_reducible first | exact HB.out | apply below_alloc | apply pw_below_drewN | apply below_drew1 | refine below_set ?_ (IsS69.ge HI0.out)) | exact HB.out), by repeat (first | (with_reducible first | exact HK.out | apply KeepBut.set_ | apply keep_drewN | apply keep_drew | apply keep_alloc) | exact HK.out)⟩
                      · rw [if_neg c30] at H
                        exact absurd H (by simp)
                    · rw [if_neg c29] at H
                      exact absurd H (by simp)
                  · rw [if_neg c28] at H
                    exact absurd H (by simp)
                · rw [if_neg c25] at H
                  exact absurd H (by simp)
              · rw [if_neg c23] at H
                exact absurd H (by simp)
            · rw [if_neg c22] at H
              exact absurd H (by simp)
def spec_l13Open.f (l0 : List Int) : Option (List Int × Int) := if (l0.length : Int) > 2000 then (if 2000 ≤ (l0.length : Int) then (some (l0.take 2000, 0)) else (none)) else (some (l0, 0))
set_option maxHeartbeats 8000000 in
set_option maxRecDepth 100000 in
theorem spec_l13Open.calls (A0 : Option Addr) (c0 : Nat) (l0 : List Int) (r1 : List Int) (r2 : Int) (w0 w : World) (hB : Below w0.heap.size w0 w) (hr0 : Kd.C (Kd.int .u8) w0 A0 l0.length l0) (hc0 : l0.length ≤ c0) (h : spec_l13Open.f l0 = some (r1, r2)) :
    Calls Try.prog 19 #[.slice A0 l0.length c0] w fun e w' => ∃ g_ : Nat, e = .returned (.pointer (some ⟨g_, 0, none⟩)) ∧ IsS69 w0 w' g_ r1 r2 ∧ Below w0.heap.size w0 w' ∧ Below w.heap.size w w' := by
  have hu69 := Try.underlying69
  have HR0 := Aside0.mk hr0
  have HC0 := Aside0.mk hc0
  clear hr0 hc0
  have HBW := Aside0.mk (Below.refl w.heap.size w)
  have HW0 := Aside0.mk hB.size
  have HB := Aside0.mk hB
  clear hB
  have H : (if (l0.length : Int) > 2000 then (if 2000 ≤ (l0.length : Int) then (some (l0.take 2000, 0)) else (none)) else (some (l0, 0))) = some (r1, r2) := h
  clear h
  by_cases c2 : (l0.length : Int) > 2000
  · rw [if_pos c2] at H
    have c2b0 : decide (2000 < (l0.length : Int)) = true := decide_eq_true c2
    have c2b1 : decide (2000 < l0.length) = true := decide_eq_true (by omega)
    clear c2
    by_cases c3 : 2000 ≤ (l0.length : Int)
    · rw [if_pos c3] at H
      have c3b0 := eq_true c3
      have c3b1 : decide (2000 ≤ (l0.length : Int)) = true := decide_eq_true c3
      clear c3
      simp only [Option.some.injEq, Prod.mk.injEq] at H
      obtain ⟨rfl, rfl⟩ := H
      obtain ⟨i04, hi04, _, hsz4, _⟩ := info_parts info5
      obtain ⟨hcut4, hA4, hC4⟩ := print_take_of (P := Try.prog) (Value.int .u8) 0 22 5 .i64 Try.underlying22 hi04 hsz4 A0 c0 l0 2000 (by omega) (of_decide_eq_true (by first | (with_reducible assumption) | assumption)) HC0.out
      have HR20001 := Aside0.mk (Kd.C_of_reads (h1 := fun _ => rfl) (hA4 _ (Kd.reads_of_C HR0.out)))
      have HC20001 := Aside0.mk hC4
      clear hA4 hC4 hi04 hsz4
      go_enter Try.func19, Try.ntmps19
      go_wp2_with (first | ((with_reducible refine gate_dst (N := 10) rfl ?_); refine box_event ?hg (N := 10) ?hd (cs := #[.slice A0 (l0.take 2000).length c0, .int .i64 0]) (t := 69) ?hr ?_; (case hd => rfl); (case hg => rfl); (case hr => first | (go_simp; done) | (go_simp; rfl)); intro gb20002 hg w5 hbox hb; have n0_ := Aside0.mk (below_step HBW.out hb); have n1_ := Aside0.mk (below_step (by repeat (first | (with_reducible first | exact HB.out | apply below_alloc | apply pw_below_drewN | apply below_drew1) | exact HB.out)) hb); have n2_ := Aside0.mk (hbox); have n3_ := Aside0.mk ((by rw [hg]; exact (below_size (by repeat (first | (with_reducible first | exact HBW.out | apply below_alloc | apply pw_below_drewN | apply below_drew1) | exact HBW.out))) : w.heap.size ≤ gb20002)); have n4_ := Aside0.mk ((Nat.le_trans HW0.out (by rw [hg]; exact (below_size (by repeat (first | (with_reducible first | exact HBW.out | apply below_alloc | apply pw_below_drewN | apply below_drew1) | exact HBW.out))) : w.heap.size ≤ gb20002) : w0.heap.size ≤ gb20002)); clear HBW; clear HB; have HBW := n0_; have HB := n1_; have BK20002 := n2_; have GW20002 := n3_; have GE20002 := n4_; clear n0_ n1_ n2_ n3_ n4_; clear hb hbox hg))
      go_ret
      exact ⟨_, rfl, (show IsS69 w0 _ gb20002 (l0.take 2000) 0 from ⟨_, _, by (with_reducible repeat (first | refine blk_drewN ?_ _ | refine blk_drew ?_ | refine blk_alloc ?_ _)); exact BK20002.out, GE20002.out, HR20001.out⟩), by repeat (first | (with_reducible first | exact HB.out | apply below_alloc | apply pw_below_drewN | apply below_drew1 | refine below_set ?_ GE20002.out) | exact HB.out), by repeat (first | (with_reducible first | exact HBW.out | apply below_alloc | apply pw_below_drewN | apply below_drew1 | refine below_set ?_ GW20002.out) | exact HBW.out)⟩
    · rw [if_neg c3] at H
      exact absurd H (by simp)
  · rw [if_neg c2] at H
    have c2b0 : decide (2000 < (l0.length : Int)) = false := decide_eq_false c2
    have c2b1 : decide (2000 < l0.length) = false := decide_eq_false (by omega)
    clear c2
    simp only [Option.some.injEq, Prod.mk.injEq] at H
    obtain ⟨rfl, rfl⟩ := H
    go_enter Try.func19, Try.ntmps19
    go_wp2_with (first | ((with_reducible refine gate_dst (N := 10) rfl ?_); refine box_event ?hg (N := 10) ?hd (cs := #[.slice A0 l0.length c0, .int .i64 0]) (t := 69) ?hr ?_; (case hd => rfl); (case hg => rfl); (case hr => first | (go_simp; done) | (go_simp; rfl)); intro gb20003 hg w6 hbox hb; have n0_ := Aside0.mk (below_step HBW.out hb); have n1_ := Aside0.mk (below_step (by repeat (first | (with_reducible first | exact HB.out | apply below_alloc | apply pw_below_drewN | apply below_drew1) | exact HB.out)) hb); have n2_ := Aside0.mk (hbox); have n3_ := Aside0.mk ((by rw [hg]; exact (below_size (by repeat (first | (with_reducible first | exact HBW.out | apply below_alloc | apply pw_below_drewN | apply below_drew1) | exact HBW.out))) : w.heap.size ≤ gb20003)); have n4_ := Aside0.mk ((Nat.le_trans HW0.out (by rw [hg]; exact (below_size (by repeat (first | (with_reducible first | exact HBW.out | apply below_alloc | apply pw_below_drewN | apply below_drew1) | exact HBW.out))) : w.heap.size ≤ gb20003) : w0.heap.size ≤ gb20003)); clear HBW; clear HB; have HBW := n0_; have HB := n1_; have BK20003 := n2_; have GW20003 := n3_; have GE20003 := n4_; clear n0_ n1_ n2_ n3_ n4_; clear hb hbox hg))
    go_ret
    exact ⟨_, rfl, (show IsS69 w0 _ gb20003 l0 0 from ⟨_, _, by (with_reducible repeat (first | refine blk_drewN ?_ _ | refine blk_drew ?_ | refine blk_alloc ?_ _)); exact BK20003.out, GE20003.out, HR0.out⟩), by repeat (first | (with_reducible first | exact HB.out | apply below_alloc | apply pw_below_drewN | apply below_drew1 | refine below_set ?_ GE20003.out) | exact HB.out), by repeat (first | (with_reducible first | exact HBW.out | apply below_alloc | apply pw_below_drewN | apply below_drew1 | refine below_set ?_ GW20003.out) | exact HBW.out)⟩
def spec_DrawReplaceVar.f (k : Nat) (l0 : List Int) : Option (ByteArray × ByteArray × ByteArray) := (spec_l13Open.f l0).bind fun bt20001 => ((spec_l5Some.f k bt20001.1 bt20001.2).bind fun bt20004 => ((spec_l13Rd_of.f k bt20001.1 bt20004.2 (([(⟨#[97]⟩ : ByteArray), (⟨#[98]⟩ : ByteArray), (⟨#[120]⟩ : ByteArray), (⟨#[121]⟩ : ByteArray), (⟨#[97]⟩ : ByteArray), (⟨#[51]⟩ : ByteArray), (⟨#[113]⟩ : ByteArray)] : List ByteArray))).bind fun bt20009 => ((spec_l13Rd_of.f k bt20001.1 bt20009.2 (([(⟨#[97]⟩ : ByteArray), (⟨#[91, 120, 58, 97, 62, 49, 93]⟩ : ByteArray), (⟨#[120]⟩ : ByteArray), (⟨#[82, 97]⟩ : ByteArray), (⟨#[98]⟩ : ByteArray), (⟨#[73, 51]⟩ : ByteArray), (⟨#[121]⟩ : ByteArray), (⟨#[113]⟩ : ByteArray), (⟨#[40, 120, 43, 49, 41]⟩ : ByteArray)] : List ByteArray))).bind fun bt20014 => (some (bt20004.1, bt20009.1, bt20014.1)))))
theorem spec_DrawReplaceVar.mono : ∀ a0 k, LeO (spec_DrawReplaceVar.f k a0) (spec_DrawReplaceVar.f (k + 1) a0) := by
  intro a0 k
  unfold spec_DrawReplaceVar.f
  repeat' first
      | (with_reducible exact spec_l13Rd_of.mono _ _ _ _)
      | (with_reducible exact spec_l5Some.mono _ _ _)
      | (with_reducible exact LeO.refl _)
      | (with_reducible exact LeO.none _)
      | (with_reducible refine LeO.ite ?_ ?_)
      | (with_reducible refine LeO.bind ?_ (fun _ => ?_))
      | exact spec_l13Rd_of.mono _ _ _ _
      | exact spec_l5Some.mono _ _ _
      | exact LeO.none _
      | refine LeO.ite ?_ ?_
      | refine LeO.bind ?_ (fun _ => ?_)
set_option maxHeartbeats 8000000 in
set_option maxRecDepth 100000 in
theorem spec_DrawReplaceVar.calls (k : Nat) (A0 : Option Addr) (c0 : Nat) (l0 : List Int) (r1 : ByteArray) (r2 : ByteArray) (r3 : ByteArray) (w : World) (hr0 : Kd.C (Kd.int .u8) w A0 l0.length l0) (hc0 : l0.length ≤ c0) (h : spec_DrawReplaceVar.f k l0 = some (r1, r2, r3)) :
    Calls Try.prog 13 #[.slice A0 l0.length c0] w fun e w' => e = .returned (.tuple #[.string r1, .string r2, .string r3]) ∧ Below w.heap.size w w' := by
  have HR0 := Aside0.mk hr0
  have HC0 := Aside0.mk hc0
  clear hr0 hc0
  have HB := Aside0.mk (Below.refl w.heap.size w)
  have H : ((spec_l13Open.f l0).bind fun bt20001 => ((spec_l5Some.f k bt20001.1 bt20001.2).bind fun bt20004 => ((spec_l13Rd_of.f k bt20001.1 bt20004.2 (([(⟨#[97]⟩ : ByteArray), (⟨#[98]⟩ : ByteArray), (⟨#[120]⟩ : ByteArray), (⟨#[121]⟩ : ByteArray), (⟨#[97]⟩ : ByteArray), (⟨#[51]⟩ : ByteArray), (⟨#[113]⟩ : ByteArray)] : List ByteArray))).bind fun bt20009 => ((spec_l13Rd_of.f k bt20001.1 bt20009.2 (([(⟨#[97]⟩ : ByteArray), (⟨#[91, 120, 58, 97, 62, 49, 93]⟩ : ByteArray), (⟨#[120]⟩ : ByteArray), (⟨#[82, 97]⟩ : ByteArray), (⟨#[98]⟩ : ByteArray), (⟨#[73, 51]⟩ : ByteArray), (⟨#[121]⟩ : ByteArray), (⟨#[113]⟩ : ByteArray), (⟨#[40, 120, 43, 49, 41]⟩ : ByteArray)] : List ByteArray))).bind fun bt20014 => (some (bt20004.1, bt20009.1, bt20014.1)))))) = some (r1, r2, r3) := h
  clear h
  replace H := Option.bind_eq_some_iff.mp H
  obtain ⟨⟨t20001, t20002⟩, A20, H⟩ := H
  replace H : ((spec_l5Some.f k t20001 t20002).bind fun bt20004 => ((spec_l13Rd_of.f k t20001 bt20004.2 (([(⟨#[97]⟩ : ByteArray), (⟨#[98]⟩ : ByteArray), (⟨#[120]⟩ : ByteArray), (⟨#[121]⟩ : ByteArray), (⟨#[97]⟩ : ByteArray), (⟨#[51]⟩ : ByteArray), (⟨#[113]⟩ : ByteArray)] : List ByteArray))).bind fun bt20009 => ((spec_l13Rd_of.f k t20001 bt20009.2 (([(⟨#[97]⟩ : ByteArray), (⟨#[91, 120, 58, 97, 62, 49, 93]⟩ : ByteArray), (⟨#[120]⟩ : ByteArray), (⟨#[82, 97]⟩ : ByteArray), (⟨#[98]⟩ : ByteArray), (⟨#[73, 51]⟩ : ByteArray), (⟨#[121]⟩ : ByteArray), (⟨#[113]⟩ : ByteArray), (⟨#[40, 120, 43, 49, 41]⟩ : ByteArray)] : List ByteArray))).bind fun bt20014 => (some (bt20004.1, bt20009.1, bt20014.1))))) = some (r1, r2, r3) := H
  have A2 := Aside0.mk A20
  clear A20
  replace H := Option.bind_eq_some_iff.mp H
  obtain ⟨⟨t20004, t20005⟩, A30, H⟩ := H
  replace H : ((spec_l13Rd_of.f k t20001 t20005 (([(⟨#[97]⟩ : ByteArray), (⟨#[98]⟩ : ByteArray), (⟨#[120]⟩ : ByteArray), (⟨#[121]⟩ : ByteArray), (⟨#[97]⟩ : ByteArray), (⟨#[51]⟩ : ByteArray), (⟨#[113]⟩ : ByteArray)] : List ByteArray))).bind fun bt20009 => ((spec_l13Rd_of.f k t20001 bt20009.2 (([(⟨#[97]⟩ : ByteArray), (⟨#[91, 120, 58, 97, 62, 49, 93]⟩ : ByteArray), (⟨#[120]⟩ : ByteArray), (⟨#[82, 97]⟩ : ByteArray), (⟨#[98]⟩ : ByteArray), (⟨#[73, 51]⟩ : ByteArray), (⟨#[121]⟩ : ByteArray), (⟨#[113]⟩ : ByteArray), (⟨#[40, 120, 43, 49, 41]⟩ : ByteArray)] : List ByteArray))).bind fun bt20014 => (some (t20004, bt20009.1, bt20014.1)))) = some (r1, r2, r3) := H
  have A3 := Aside0.mk A30
  clear A30
  obtain ⟨y20006, hy20006⟩ : ∃ y_ : List ByteArray, y_ = (([(⟨#[97]⟩ : ByteArray), (⟨#[98]⟩ : ByteArray), (⟨#[120]⟩ : ByteArray), (⟨#[121]⟩ : ByteArray), (⟨#[97]⟩ : ByteArray), (⟨#[51]⟩ : ByteArray), (⟨#[113]⟩ : ByteArray)] : List ByteArray)) := ⟨_, rfl⟩
  replace H : ((spec_l13Rd_of.f k t20001 t20005 y20006).bind fun bt20009 => ((spec_l13Rd_of.f k t20001 bt20009.2 (([(⟨#[97]⟩ : ByteArray), (⟨#[91, 120, 58, 97, 62, 49, 93]⟩ : ByteArray), (⟨#[120]⟩ : ByteArray), (⟨#[82, 97]⟩ : ByteArray), (⟨#[98]⟩ : ByteArray), (⟨#[73, 51]⟩ : ByteArray), (⟨#[121]⟩ : ByteArray), (⟨#[113]⟩ : ByteArray), (⟨#[40, 120, 43, 49, 41]⟩ : ByteArray)] : List ByteArray))).bind fun bt20014 => (some (t20004, bt20009.1, bt20014.1)))) = some (r1, r2, r3) := by first | (rw [hy20006]; with_reducible exact H) | (have H2_ := (Option.bind_some _ _).symm.trans H; rw [hy20006]; with_reducible exact H2_) | (have H2_ := (Option.bind_some _ _).symm.trans H; with_reducible exact H2_) | with_reducible exact H | (rw [hy20006]; exact H) | exact H
  have Ny20006 := Aside0.mk hy20006
  clear hy20006
  replace H := Option.bind_eq_some_iff.mp H
  obtain ⟨⟨t20009, t20010⟩, A40, H⟩ := H
  replace H : ((spec_l13Rd_of.f k t20001 t20010 (([(⟨#[97]⟩ : ByteArray), (⟨#[91, 120, 58, 97, 62, 49, 93]⟩ : ByteArray), (⟨#[120]⟩ : ByteArray), (⟨#[82, 97]⟩ : ByteArray), (⟨#[98]⟩ : ByteArray), (⟨#[73, 51]⟩ : ByteArray), (⟨#[121]⟩ : ByteArray), (⟨#[113]⟩ : ByteArray), (⟨#[40, 120, 43, 49, 41]⟩ : ByteArray)] : List ByteArray))).bind fun bt20014 => (some (t20004, t20009, bt20014.1))) = some (r1, r2, r3) := H
  have A4 := Aside0.mk A40
  clear A40
  obtain ⟨y20011, hy20011⟩ : ∃ y_ : List ByteArray, y_ = (([(⟨#[97]⟩ : ByteArray), (⟨#[91, 120, 58, 97, 62, 49, 93]⟩ : ByteArray), (⟨#[120]⟩ : ByteArray), (⟨#[82, 97]⟩ : ByteArray), (⟨#[98]⟩ : ByteArray), (⟨#[73, 51]⟩ : ByteArray), (⟨#[121]⟩ : ByteArray), (⟨#[113]⟩ : ByteArray), (⟨#[40, 120, 43, 49, 41]⟩ : ByteArray)] : List ByteArray)) := ⟨_, rfl⟩
  replace H : ((spec_l13Rd_of.f k t20001 t20010 y20011).bind fun bt20014 => (some (t20004, t20009, bt20014.1))) = some (r1, r2, r3) := by first | (rw [hy20011]; with_reducible exact H) | (have H2_ := (Option.bind_some _ _).symm.trans H; rw [hy20011]; with_reducible exact H2_) | (have H2_ := (Option.bind_some _ _).symm.trans H; with_reducible exact H2_) | with_reducible exact H | (rw [hy20011]; exact H) | exact H
  have Ny20011 := Aside0.mk hy20011
  clear hy20011
  replace H := Option.bind_eq_some_iff.mp H
  obtain ⟨⟨t20014, t20015⟩, A50, H⟩ := H
  replace H : (some (t20004, t20009, t20014)) = some (r1, r2, r3) := H
  have A5 := Aside0.mk A50
  clear A50
  simp only [Option.some.injEq, Prod.mk.injEq] at H
  obtain ⟨rfl, rfl, rfl⟩ := H
  go_enter Try.func13, Try.ntmps13
  go_wp2_with (first | ((with_reducible refine gate_callee (f := 19) rfl ?_); refine goesL_ (some 9) rfl rfl Try.func19 (by kernel_rfl) rfl #[.slice A0 l0.length c0] rfl (by (try simp only [List.map_toArray, List.map_cons, List.map_nil]); first | done | rfl | (simp only [List.length_drop, List.length_take]; rfl)) ?_; (with_reducible refine (spec_l13Open.calls _ _ l0 t20001 t20002 w _ ?side1 ?side2 ?side3 A2.out).mono ?_); (case side1 => repeat (first | (with_reducible first | exact HB.out | apply below_alloc | apply pw_below_drewN | apply below_drew1) | exact HB.out)); (case side2 => exact HR0.out); (case side3 => exact HC0.out); rintro e w6 ⟨g20003, rfl, hi, hb, hb2⟩; refine ⟨_, rfl, ?_⟩; have n0_ := Aside0.mk (hb); have n1_ := Aside0.mk (hi); clear HB; have HB := n0_; have HI20003 := n1_; clear n0_ n1_; (try clear hb); (try clear hb2); (try clear hk); (try clear hi)) | ((with_reducible refine gate_callee (f := 18) rfl ?_); refine goesL_ (some 11) rfl rfl Try.func18 (by kernel_rfl) rfl #[.pointer (some ⟨g20003, 0, none⟩)] rfl (by (try simp only [List.map_toArray, List.map_cons, List.map_nil]); first | done | rfl | (simp only [List.length_drop, List.length_take]; rfl)) ?_; (with_reducible refine (spec_l5Some.calls k g20003 t20001 t20002 t20004 t20005 w _ ?side1 ?side2 A3.out).mono ?_); (case side1 => repeat (first | (with_reducible first | exact HI20003.out | apply IsS69.alloc | apply IsS69.drewN | apply IsS69.drew | apply IsS69.set_1) | exact HI20003.out)); (case side2 => repeat (first | (with_reducible first | exact HB.out | apply below_alloc | apply pw_below_drewN | apply below_drew1 | refine below_set ?_ (IsS69.ge HI20003.out)) | exact HB.out)); rintro e w7 ⟨rfl, hi, hb, hk⟩; refine ⟨_, rfl, ?_⟩; have n0_ := Aside0.mk (hb); have n1_ := Aside0.mk (hi); clear HB; clear HI20003; have HB := n0_; have HI20003 := n1_; clear n0_ n1_; (try clear hb); (try clear hb2); (try clear hk); (try clear hi)) | ((with_reducible refine gate_dst (N := 13) rfl ?_); refine Kd.R_lit Kd.string _ 9 ?hg (N := 13) ?hd (xs := ([(⟨#[97]⟩ : ByteArray), (⟨#[98]⟩ : ByteArray), (⟨#[120]⟩ : ByteArray), (⟨#[121]⟩ : ByteArray), (⟨#[97]⟩ : ByteArray), (⟨#[51]⟩ : ByteArray), (⟨#[113]⟩ : ByteArray)] : List ByteArray)) (inner := [.string (⟨#[97]⟩ : ByteArray), .string (⟨#[98]⟩ : ByteArray), .string (⟨#[120]⟩ : ByteArray), .string (⟨#[121]⟩ : ByteArray), .string (⟨#[97]⟩ : ByteArray), .string (⟨#[51]⟩ : ByteArray), .string (⟨#[113]⟩ : ByteArray)]) (ok := fun _ => True) (okp := fun _ => True) ?hr ?hp (fun _ hk => hk) trivial (Below.refl _ _) (Nat.le_refl _) (by simp) ?_; (case hd => rfl); (case hg => rfl); (case hr => first | (go_simp; done) | (go_simp; rfl)); (case hp => exact (Reps.one (show Kd.M Kd.string _ _ _ (⟨#[97]⟩ : ByteArray) [.string (⟨#[97]⟩ : ByteArray)] from rfl) (Reps.one (show Kd.M Kd.string _ _ _ (⟨#[98]⟩ : ByteArray) [.string (⟨#[98]⟩ : ByteArray)] from rfl) (Reps.one (show Kd.M Kd.string _ _ _ (⟨#[120]⟩ : ByteArray) [.string (⟨#[120]⟩ : ByteArray)] from rfl) (Reps.one (show Kd.M Kd.string _ _ _ (⟨#[121]⟩ : ByteArray) [.string (⟨#[121]⟩ : ByteArray)] from rfl) (Reps.one (show Kd.M Kd.string _ _ _ (⟨#[97]⟩ : ByteArray) [.string (⟨#[97]⟩ : ByteArray)] from rfl) (Reps.one (show Kd.M Kd.string _ _ _ (⟨#[51]⟩ : ByteArray) [.string (⟨#[51]⟩ : ByteArray)] from rfl) (Reps.one (show Kd.M Kd.string _ _ _ (⟨#[113]⟩ : ByteArray) [.string (⟨#[113]⟩ : ByteArray)] from rfl) (Reps.none _ _))))))))); intro v20007 w8 ho9 hb hg_ hnew_; clear hg_ hnew_; (first | rw [← Ny20006.out] at ho9 | (simp only [Int.reduceToNat] at ho9; rw [← Ny20006.out] at ho9)); have n0_ := Aside0.mk (Kd.R_lower ho9 (below_size (by repeat (first | (with_reducible first | exact HB.out | apply below_alloc | apply pw_below_drewN | apply below_drew1 | refine below_set ?_ (IsS69.ge HI20003.out)) | exact HB.out)))); have n1_ := Aside0.mk (IsS69.below (by repeat (first | (with_reducible first | exact HI20003.out | apply IsS69.alloc | apply IsS69.drewN | apply IsS69.drew | apply IsS69.set_1) | exact HI20003.out)) hb); have n2_ := Aside0.mk (below_step (by repeat (first | (with_reducible first | exact HB.out | apply below_alloc | apply pw_below_drewN | apply below_drew1 | refine below_set ?_ (IsS69.ge HI20003.out)) | exact HB.out)) hb); clear HI20003; clear HB; have HO20008 := n0_; have HI20003 := n1_; have HB := n2_; clear n0_ n1_ n2_; clear hb ho9; obtain ⟨Ao10, co10, eo10⟩ := Kd.R_slice HO20008.out; subst eo10) | ((with_reducible refine gate_callee (f := 31) rfl ?_); refine goesL_ (some 14) rfl rfl Try.func31 (by kernel_rfl) rfl #[.pointer (some ⟨g20003, 0, none⟩), .slice Ao10 y20006.length co10] rfl (by (try simp only [List.map_toArray, List.map_cons, List.map_nil]); first | done | rfl | (simp only [List.length_drop, List.length_take]; rfl)) ?_; (with_reducible refine (spec_l13Rd_of.calls k g20003 t20001 t20005 _ _ y20006 t20009 t20010 w _ ?side1 ?side2 ?side3 ?side4 ?side5 A4.out).mono ?_); (case side1 => repeat (first | (with_reducible first | exact HI20003.out | apply IsS69.alloc | apply IsS69.drewN | apply IsS69.drew | apply IsS69.set_1) | exact HI20003.out)); (case side2 => repeat (first | (with_reducible first | exact HB.out | apply below_alloc | apply pw_below_drewN | apply below_drew1 | refine below_set ?_ (IsS69.ge HI20003.out)) | exact HB.out)); (case side3 => repeat (first | exact (Kd.R_reads' HO20008.out).2.2 | (with_reducible refine Kd.C_alloc ?_ _) | (with_reducible refine Kd.C_drewN ?_ _) | (with_reducible refine Kd.C_drew ?_))); (case side4 => exact (Kd.R_reads' HO20008.out).2.1); (case side5 => exact far_slice (IsS69.own_ne HI20003.out HO20008.out (by decide))); rintro e w11 ⟨rfl, hi, hb, hk⟩; refine ⟨_, rfl, ?_⟩; have n0_ := Aside0.mk (Kd.R_mono (Kd.R_keep (IsS69.apart (show IsS69 w _ g20003 t20001 t20005 from by repeat (first | (with_reducible first | exact HI20003.out | apply IsS69.alloc | apply IsS69.drewN | apply IsS69.drew | apply IsS69.set_1) | exact HI20003.out)) (by (with_reducible repeat (first | apply Kd.R_alloc | apply Kd.R_drewN | apply Kd.R_drew)); exact HO20008.out) (by decide)) hk (fun _ h => h.2)) (fun _ h => h.1)); have n1_ := Aside0.mk (hb); have n2_ := Aside0.mk (hi); clear HO20008; clear HB; clear HI20003; have HO20008 := n0_; have HB := n1_; have HI20003 := n2_; clear n0_ n1_ n2_; (try clear hb); (try clear hb2); (try clear hk); (try clear hi)) | ((with_reducible refine gate_dst (N := 18) rfl ?_); refine Kd.R_lit Kd.string _ 9 ?hg (N := 18) ?hd (xs := ([(⟨#[97]⟩ : ByteArray), (⟨#[91, 120, 58, 97, 62, 49, 93]⟩ : ByteArray), (⟨#[120]⟩ : ByteArray), (⟨#[82, 97]⟩ : ByteArray), (⟨#[98]⟩ : ByteArray), (⟨#[73, 51]⟩ : ByteArray), (⟨#[121]⟩ : ByteArray), (⟨#[113]⟩ : ByteArray), (⟨#[40, 120, 43, 49, 41]⟩ : ByteArray)] : List ByteArray)) (inner := [.string (⟨#[97]⟩ : ByteArray), .string (⟨#[91, 120, 58, 97, 62, 49, 93]⟩ : ByteArray), .string (⟨#[120]⟩ : ByteArray), .string (⟨#[82, 97]⟩ : ByteArray), .string (⟨#[98]⟩ : ByteArray), .string (⟨#[73, 51]⟩ : ByteArray), .string (⟨#[121]⟩ : ByteArray), .string (⟨#[113]⟩ : ByteArray), .string (⟨#[40, 120, 43, 49, 41]⟩ : ByteArray)]) (ok := fun _ => True) (okp := fun _ => True) ?hr ?hp (fun _ hk => hk) trivial (Below.refl _ _) (Nat.le_refl _) (by simp) ?_; (case hd => rfl); (case hg => rfl); (case hr => first | (go_simp; done) | (go_simp; rfl)); (case hp => exact (Reps.one (show Kd.M Kd.string _ _ _ (⟨#[97]⟩ : ByteArray) [.string (⟨#[97]⟩ : ByteArray)] from rfl) (Reps.one (show Kd.M Kd.string _ _ _ (⟨#[91, 120, 58, 97, 62, 49, 93]⟩ : ByteArray) [.string (⟨#[91, 120, 58, 97, 62, 49, 93]⟩ : ByteArray)] from rfl) (Reps.one (show Kd.M Kd.string _ _ _ (⟨#[120]⟩ : ByteArray) [.string (⟨#[120]⟩ : ByteArray)] from rfl) (Reps.one (show Kd.M Kd.string _ _ _ (⟨#[82, 97]⟩ : ByteArray) [.string (⟨#[82, 97]⟩ : ByteArray)] from rfl) (Reps.one (show Kd.M Kd.string _ _ _ (⟨#[98]⟩ : ByteArray) [.string (⟨#[98]⟩ : ByteArray)] from rfl) (Reps.one (show Kd.M Kd.string _ _ _ (⟨#[73, 51]⟩ : ByteArray) [.string (⟨#[73, 51]⟩ : ByteArray)] from rfl) (Reps.one (show Kd.M Kd.string _ _ _ (⟨#[121]⟩ : ByteArray) [.string (⟨#[121]⟩ : ByteArray)] from rfl) (Reps.one (show Kd.M Kd.string _ _ _ (⟨#[113]⟩ : ByteArray) [.string (⟨#[113]⟩ : ByteArray)] from rfl) (Reps.one (show Kd.M Kd.string _ _ _ (⟨#[40, 120, 43, 49, 41]⟩ : ByteArray) [.string (⟨#[40, 120, 43, 49, 41]⟩ : ByteArray)] from rfl) (Reps.none _ _))))))))))); intro v20012 w12 ho13 hb hg_ hnew_; clear hg_ hnew_; (first | rw [← Ny20011.out] at ho13 | (simp only [Int.reduceToNat] at ho13; rw [← Ny20011.out] at ho13)); have n0_ := Aside0.mk (Kd.R_elder' (by (with_reducible repeat (first | apply Kd.R_alloc | apply Kd.R_drewN | apply Kd.R_drew)); exact HO20008.out) (Kd.R_base ho13) hb); have n1_ := Aside0.mk (Kd.R_lower (Kd.R_new' ho13 (Kd.R_lt (by (with_reducible repeat (first | apply Kd.R_alloc | apply Kd.R_drewN | apply Kd.R_drew)); exact HO20008.out))) (below_size (by repeat (first | (with_reducible first | exact HB.out | apply below_alloc | apply pw_below_drewN | apply below_drew1 | refine below_set ?_ (IsS69.ge HI20003.out)) | exact HB.out)))); have n2_ := Aside0.mk (IsS69.below (by repeat (first | (with_reducible first | exact HI20003.out | apply IsS69.alloc | apply IsS69.drewN | apply IsS69.drew | apply IsS69.set_1) | exact HI20003.out)) hb); have n3_ := Aside0.mk (below_step (by repeat (first | (with_reducible first | exact HB.out | apply below_alloc | apply pw_below_drewN | apply below_drew1 | refine below_set ?_ (IsS69.ge HI20003.out)) | exact HB.out)) hb); clear HO20008; clear HI20003; clear HB; have HO20008 := n0_; have HO20013 := n1_; have HI20003 := n2_; have HB := n3_; clear n0_ n1_ n2_ n3_; clear hb ho13; obtain ⟨Ao14, co14, eo14⟩ := Kd.R_slice HO20013.out; subst eo14) | ((with_reducible refine gate_callee (f := 31) rfl ?_); refine goesL_ (some 19) rfl rfl Try.func31 (by kernel_rfl) rfl #[.pointer (some ⟨g20003, 0, none⟩), .slice Ao14 y20011.length co14] rfl (by (try simp only [List.map_toArray, List.map_cons, List.map_nil]); first | done | rfl | (simp only [List.length_drop, List.length_take]; rfl)) ?_; (with_reducible refine (spec_l13Rd_of.calls k g20003 t20001 t20010 _ _ y20011 t20014 t20015 w _ ?side1 ?side2 ?side3 ?side4 ?side5 A5.out).mono ?_); (case side1 => repeat (first | (with_reducible first | exact HI20003.out | apply IsS69.alloc | apply IsS69.drewN | apply IsS69.drew | apply IsS69.set_1) | exact HI20003.out)); (case side2 => repeat (first | (with_reducible first | exact HB.out | apply below_alloc | apply pw_below_drewN | apply below_drew1 | refine below_set ?_ (IsS69.ge HI20003.out)) | exact HB.out)); (case side3 => repeat (first | exact (Kd.R_reads' HO20013.out).2.2 | (with_reducible refine Kd.C_alloc ?_ _) | (with_reducible refine Kd.C_drewN ?_ _) | (with_reducible refine Kd.C_drew ?_))); (case side4 => exact (Kd.R_reads' HO20013.out).2.1); (case side5 => exact far_slice (IsS69.own_ne HI20003.out HO20013.out (by decide))); rintro e w15 ⟨rfl, hi, hb, hk⟩; refine ⟨_, rfl, ?_⟩; have n0_ := Aside0.mk (Kd.R_mono (Kd.R_keep (IsS69.apart (show IsS69 w _ g20003 t20001 t20010 from by repeat (first | (with_reducible first | exact HI20003.out | apply IsS69.alloc | apply IsS69.drewN | apply IsS69.drew | apply IsS69.set_1) | exact HI20003.out)) (by (with_reducible repeat (first | apply Kd.R_alloc | apply Kd.R_drewN | apply Kd.R_drew)); exact HO20008.out) (by decide)) hk (fun _ h => h.2)) (fun _ h => h.1)); have n1_ := Aside0.mk (Kd.R_mono (Kd.R_keep (IsS69.apart (show IsS69 w _ g20003 t20001 t20010 from by repeat (first | (with_reducible first | exact HI20003.out | apply IsS69.alloc | apply IsS69.drewN | apply IsS69.drew | apply IsS69.set_1) | exact HI20003.out)) (by (with_reducible repeat (first | apply Kd.R_alloc | apply Kd.R_drewN | apply Kd.R_drew)); exact HO20013.out) (by decide)) hk (fun _ h => h.2)) (fun _ h => h.1)); have n2_ := Aside0.mk (hb); have n3_ := Aside0.mk (hi); clear HO20008; clear HO20013; clear HB; clear HI20003; have HO20008 := n0_; have HO20013 := n1_; have HB := n2_; have HI20003 := n3_; clear n0_ n1_ n2_ n3_; (try clear hb); (try clear hb2); (try clear hk); (try clear hi)))
  go_ret3
  exact ⟨by first | rfl | (simp [errW_none, errW_some] <;> rfl) | (simp [*, errW_none, errW_some] <;> rfl), by repeat (first | (with_reducible first | exact HB.out | apply below_alloc | apply pw_below_drewN | apply below_drew1 | refine below_set ?_ (IsS69.ge HI20003.out)) | exact HB.out)⟩
def impl_ReplaceVar.f (a0 a1 a2 : ByteArray) : Option (ByteArray × Bool) := some ((repl a0 a1 a2).elim (⟨#[]⟩, false) fun r => (r, true))
theorem impl_ReplaceVar.calls (a0 a1 a2 : ByteArray) (r1 : ByteArray) (r2 : Bool) (w : World) (h : impl_ReplaceVar.f a0 a1 a2 = some (r1, r2)) :
    Calls Try.prog 14 #[.string a0, .string a1, .string a2] w fun e w' => e = .returned (.tuple #[.string r1, .bool r2]) ∧ Below w.heap.size w w' := by
  have e := Option.some.inj h
  refine (impl_ReplaceVar_walk a0 a1 a2 w).mono fun e' w' hh => ⟨?_, hh.2⟩
  rw [hh.1]
  cases ht : repl a0 a1 a2 with
  | none => rw [ht] at e; simp only [Option.elim_none, Prod.mk.injEq] at e; obtain ⟨rfl, rfl⟩ := e; rfl
  | some t => rw [ht] at e; simp only [Option.elim_some, Prod.mk.injEq] at e; obtain ⟨rfl, rfl⟩ := e; rfl
def spec_ReplaceVar.f (a0 a1 a2 : ByteArray) : Option (ByteArray × Bool) := if a0.size ≤ 1048576 ∧ a1.size ≤ 1048576 ∧ a2.size ≤ 1048576 then some ((repl a0 a1 a2).elim (⟨#[]⟩, false) fun r => (r, true)) else none
theorem spec_ReplaceVar.calls (a0 a1 a2 : ByteArray) (r1 : ByteArray) (r2 : Bool) (w : World) (h : spec_ReplaceVar.f a0 a1 a2 = some (r1, r2)) :
    Calls Try.prog 15 #[.string a0, .string a1, .string a2] w fun e w' => e = .returned (.tuple #[.string r1, .bool r2]) ∧ Below w.heap.size w w' := by
  unfold spec_ReplaceVar.f at h
  by_cases hs : a0.size ≤ 1048576 ∧ a1.size ≤ 1048576 ∧ a2.size ≤ 1048576
  case neg => rw [if_neg hs] at h; cases h
  rw [if_pos hs] at h
  have e := Option.some.inj h
  refine (spec_ReplaceVar_walk a0 a1 a2 w hs.1 hs.2.1 hs.2.2).mono fun e' w' hh => ⟨?_, hh.2⟩
  rw [hh.1]
  cases ht : repl a0 a1 a2 with
  | none => rw [ht] at e; simp only [Option.elim_none, Prod.mk.injEq] at e; obtain ⟨rfl, rfl⟩ := e; rfl
  | some t => rw [ht] at e; simp only [Option.elim_some, Prod.mk.injEq] at e; obtain ⟨rfl, rfl⟩ := e; rfl
def spec_PartsOfTerm.f (a0 : ByteArray) : Option (List ByteArray) := if a0.size ≤ 1048576 then some ((tmOf a0.data.toList).elim [] Tm.ps) else none
theorem spec_PartsOfTerm.calls (a0 : ByteArray) (r : List ByteArray) (w : World) (h : spec_PartsOfTerm.f a0 = some r) :
    Calls Try.prog 36 #[.string a0] w fun e w' => ∃ v0_ : Value, e = .returned (v0_) ∧ Kd.R Kd.string 9 w' w.heap.size (fun _ => True) v0_ r ∧ Below w.heap.size w w' := by
  unfold spec_PartsOfTerm.f at h
  by_cases hs : a0.size ≤ 1048576
  case neg => rw [if_neg hs] at h; cases h
  rw [if_pos hs] at h
  have e : (tmOf a0.data.toList).elim [] Tm.ps = r := Option.some.inj h
  rw [← e]; exact spec_PartsOfTerm_walk a0 w hs
def spec_DrawFreeVars.f (k : Nat) (l0 : List Int) : Option (ByteArray) := (spec_l13Open.f l0).bind fun bt20001 => ((spec_l5Some.f k bt20001.1 bt20001.2).bind fun bt20004 => ((spec_PartsOfTerm.f bt20004.1).bind fun t20006 => (if (t20006.length : Int) > 0 then ((spec_l13Rd_pick.f k bt20001.1 bt20004.2 2).bind fun bt20009 => (if bt20009.1 = 0 then (if 0 ≤ (wrap64 ((t20006.length : Int) - 1)) then (if (wrap64 ((t20006.length : Int) - 1)) < (t20006.length : Int) then (some (rdOf ByteArray.empty t20006 (wrap64 ((t20006.length : Int) - 1)))) else (none)) else (none)) else (some bt20004.1))) else (some bt20004.1))))
theorem spec_DrawFreeVars.mono : ∀ a0 k, LeO (spec_DrawFreeVars.f k a0) (spec_DrawFreeVars.f (k + 1) a0) := by
  intro a0 k
  unfold spec_DrawFreeVars.f
  repeat' first
      | (with_reducible exact spec_l13Rd_pick.mono _ _ _ _)
      | (with_reducible exact spec_l5Some.mono _ _ _)
      | (with_reducible exact LeO.refl _)
      | (with_reducible exact LeO.none _)
      | (with_reducible refine LeO.ite ?_ ?_)
      | (with_reducible refine LeO.bind ?_ (fun _ => ?_))
      | exact spec_l13Rd_pick.mono _ _ _ _
      | exact spec_l5Some.mono _ _ _
      | exact LeO.none _
      | refine LeO.ite ?_ ?_
      | refine LeO.bind ?_ (fun _ => ?_)
set_option maxHeartbeats 8000000 in
set_option maxRecDepth 100000 in
theorem spec_DrawFreeVars.calls (k : Nat) (A0 : Option Addr) (c0 : Nat) (l0 : List Int) (r : ByteArray) (w : World) (hr0 : Kd.C (Kd.int .u8) w A0 l0.length l0) (hc0 : l0.length ≤ c0) (h : spec_DrawFreeVars.f k l0 = some r) :
    Calls Try.prog 16 #[.slice A0 l0.length c0] w fun e w' => e = .returned (.string r) ∧ Below w.heap.size w w' := by
  have HR0 := Aside0.mk hr0
  have HC0 := Aside0.mk hc0
  clear hr0 hc0
  have HB := Aside0.mk (Below.refl w.heap.size w)
  have H : ((spec_l13Open.f l0).bind fun bt20001 => ((spec_l5Some.f k bt20001.1 bt20001.2).bind fun bt20004 => ((spec_PartsOfTerm.f bt20004.1).bind fun t20006 => (if (t20006.length : Int) > 0 then ((spec_l13Rd_pick.f k bt20001.1 bt20004.2 2).bind fun bt20009 => (if bt20009.1 = 0 then (if 0 ≤ (wrap64 ((t20006.length : Int) - 1)) then (if (wrap64 ((t20006.length : Int) - 1)) < (t20006.length : Int) then (some (rdOf ByteArray.empty t20006 (wrap64 ((t20006.length : Int) - 1)))) else (none)) else (none)) else (some bt20004.1))) else (some bt20004.1))))) = some r := h
  clear h
  replace H := Option.bind_eq_some_iff.mp H
  obtain ⟨⟨t20001, t20002⟩, A20, H⟩ := H
  replace H : ((spec_l5Some.f k t20001 t20002).bind fun bt20004 => ((spec_PartsOfTerm.f bt20004.1).bind fun t20006 => (if (t20006.length : Int) > 0 then ((spec_l13Rd_pick.f k t20001 bt20004.2 2).bind fun bt20009 => (if bt20009.1 = 0 then (if 0 ≤ (wrap64 ((t20006.length : Int) - 1)) then (if (wrap64 ((t20006.length : Int) - 1)) < (t20006.length : Int) then (some (rdOf ByteArray.empty t20006 (wrap64 ((t20006.length : Int) - 1)))) else (none)) else (none)) else (some bt20004.1))) else (some bt20004.1)))) = some r := H
  have A2 := Aside0.mk A20
  clear A20
  replace H := Option.bind_eq_some_iff.mp H
  obtain ⟨⟨t20004, t20005⟩, A30, H⟩ := H
  replace H : ((spec_PartsOfTerm.f t20004).bind fun t20006 => (if (t20006.length : Int) > 0 then ((spec_l13Rd_pick.f k t20001 t20005 2).bind fun bt20009 => (if bt20009.1 = 0 then (if 0 ≤ (wrap64 ((t20006.length : Int) - 1)) then (if (wrap64 ((t20006.length : Int) - 1)) < (t20006.length : Int) then (some (rdOf ByteArray.empty t20006 (wrap64 ((t20006.length : Int) - 1)))) else (none)) else (none)) else (some t20004))) else (some t20004))) = some r := H
  have A3 := Aside0.mk A30
  clear A30
  replace H := Option.bind_eq_some_iff.mp H
  obtain ⟨t20006, A40, H⟩ := H
  replace H : (if (t20006.length : Int) > 0 then ((spec_l13Rd_pick.f k t20001 t20005 2).bind fun bt20009 => (if bt20009.1 = 0 then (if 0 ≤ (wrap64 ((t20006.length : Int) - 1)) then (if (wrap64 ((t20006.length : Int) - 1)) < (t20006.length : Int) then (some (rdOf ByteArray.empty t20006 (wrap64 ((t20006.length : Int) - 1)))) else (none)) else (none)) else (some t20004))) else (some t20004)) = some r := H
  have A4 := Aside0.mk A40
  clear A40
  by_cases c5 : (t20006.length : Int) > 0
  · rw [if_pos c5] at H
    have c5b0 : decide (0 < (t20006.length : Int)) = true := decide_eq_true c5
    have c5b1 : decide (0 < t20006.length) = true := decide_eq_true (by omega)
    clear c5
    replace H := Option.bind_eq_some_iff.mp H
    obtain ⟨⟨t20009, t20010⟩, A60, H⟩ := H
    replace H : (if t20009 = 0 then (if 0 ≤ (wrap64 ((t20006.length : Int) - 1)) then (if (wrap64 ((t20006.length : Int) - 1)) < (t20006.length : Int) then (some (rdOf ByteArray.empty t20006 (wrap64 ((t20006.length : Int) - 1)))) else (none)) else (none)) else (some t20004)) = some r := H
    have A6 := Aside0.mk A60
    clear A60
    by_cases c7 : t20009 = 0
    · rw [if_pos c7] at H
      have c7b0 : (t20009 == 0) = true := beq_iff_eq.mpr c7
      have c7b1 : (t20009 != 0) = false := bne_eq_false_iff_eq.mpr c7
      clear c7
      obtain ⟨ji8, hji8⟩ : ∃ j_ : Int, (wrap64 ((t20006.length : Int) - 1)) = j_ := ⟨_, rfl⟩
      replace H : (if 0 ≤ (ji8) then (if (ji8) < (t20006.length : Int) then (some (rdOf ByteArray.empty t20006 (ji8))) else (none)) else (none)) = some r := by first | (rw [hji8] at H; exact H) | (simp only [hji8] at H ⊢; exact H)
      (try rw [hji8] at A2)
      (try rw [hji8] at A3)
      (try rw [hji8] at A4)
      (try rw [hji8] at A6)
      have hji8w : (IntKind.i64.wrap ((t20006.length : Int) - 1)) = ji8 := (i64_w _).trans hji8
      by_cases c9 : 0 ≤ (ji8)
      · rw [if_pos c9] at H
        have c9b0 : decide (0 ≤ (ji8)) = true := decide_eq_true c9
        clear c9
        by_cases c10 : (ji8) < (t20006.length : Int)
        · rw [if_pos c10] at H
          have c10b0 : decide ((ji8) < (t20006.length : Int)) = true := decide_eq_true c10
          clear c10
          obtain rfl := Option.some.inj H
          go_enter Try.func16, Try.ntmps16
          go_wp2_with (first | ((with_reducible refine gate_callee (f := 19) rfl ?_); refine goesL_ (some 7) rfl rfl Try.func19 (by kernel_rfl) rfl #[.slice A0 l0.length c0] rfl (by (try simp only [List.map_toArray, List.map_cons, List.map_nil]); first | done | rfl | (simp only [List.length_drop, List.length_take]; rfl)) ?_; (with_reducible refine (spec_l13Open.calls _ _ l0 t20001 t20002 w _ ?side1 ?side2 ?side3 A2.out).mono ?_); (case side1 => repeat (first | (with_reducible first | exact HB.out | apply below_alloc | apply pw_below_drewN | apply below_drew1) | exact HB.out)); (case side2 => exact HR0.out); (case side3 => exact HC0.out); rintro e w11 ⟨g20003, rfl, hi, hb, hb2⟩; refine ⟨_, rfl, ?_⟩; have n0_ := Aside0.mk (hb); have n1_ := Aside0.mk (hi); clear HB; have HB := n0_; have HI20003 := n1_; clear n0_ n1_; (try clear hb); (try clear hb2); (try clear hk); (try clear hi)) | ((with_reducible refine gate_callee (f := 18) rfl ?_); refine goesL_ (some 9) rfl rfl Try.func18 (by kernel_rfl) rfl #[.pointer (some ⟨g20003, 0, none⟩)] rfl (by (try simp only [List.map_toArray, List.map_cons, List.map_nil]); first | done | rfl | (simp only [List.length_drop, List.length_take]; rfl)) ?_; (with_reducible refine (spec_l5Some.calls k g20003 t20001 t20002 t20004 t20005 w _ ?side1 ?side2 A3.out).mono ?_); (case side1 => repeat (first | (with_reducible first | exact HI20003.out | apply IsS69.alloc | apply IsS69.drewN | apply IsS69.drew | apply IsS69.set_1) | exact HI20003.out)); (case side2 => repeat (first | (with_reducible first | exact HB.out | apply below_alloc | apply pw_below_drewN | apply below_drew1 | refine below_set ?_ (IsS69.ge HI20003.out)) | exact HB.out)); rintro e w12 ⟨rfl, hi, hb, hk⟩; refine ⟨_, rfl, ?_⟩; have n0_ := Aside0.mk (hb); have n1_ := Aside0.mk (hi); clear HB; clear HI20003; have HB := n0_; have HI20003 := n1_; clear n0_ n1_; (try clear hb); (try clear hb2); (try clear hk); (try clear hi)) | ((with_reducible refine gate_callee (f := 36) rfl ?_); refine goesL_ (some 11) rfl rfl Try.func36 (by kernel_rfl) rfl #[.string t20004] rfl (by (try simp only [List.map_toArray, List.map_cons, List.map_nil]); first | done | rfl | (simp only [List.length_drop, List.length_take]; rfl)) ?_; (with_reducible refine (spec_PartsOfTerm.calls t20004 t20006 _ A4.out).mono ?_); rintro e w13 ⟨v20007, rfl, ho0, hb⟩; refine ⟨_, rfl, ?_⟩; have n0_ := Aside0.mk (Kd.R_lower ho0 (below_size (by repeat (first | (with_reducible first | exact HB.out | apply below_alloc | apply pw_below_drewN | apply below_drew1 | refine below_set ?_ (IsS69.ge HI20003.out)) | exact HB.out)))); have n1_ := Aside0.mk (IsS69.below (by repeat (first | (with_reducible first | exact HI20003.out | apply IsS69.alloc | apply IsS69.drewN | apply IsS69.drew | apply IsS69.set_1) | exact HI20003.out)) hb); have n2_ := Aside0.mk (below_step (by repeat (first | (with_reducible first | exact HB.out | apply below_alloc | apply pw_below_drewN | apply below_drew1 | refine below_set ?_ (IsS69.ge HI20003.out)) | exact HB.out)) hb); clear HI20003; clear HB; have HO20008 := n0_; have HI20003 := n1_; have HB := n2_; clear n0_ n1_ n2_; (try clear hb); (try clear hb2); (try clear hk); (try clear hi); (try clear ho0); obtain ⟨Ao14, co14, eo14⟩ := Kd.R_slice HO20008.out; subst eo14) | (go_at_call 37; (with_reducible refine (spec_l13Rd_pick.calls k g20003 t20001 t20005 2 t20009 t20010 w _ ?side1 ?side2 A6.out).mono ?_); (case side1 => repeat (first | (with_reducible first | exact HI20003.out | apply IsS69.alloc | apply IsS69.drewN | apply IsS69.drew | apply IsS69.set_1) | exact HI20003.out)); (case side2 => repeat (first | (with_reducible first | exact HB.out | apply below_alloc | apply pw_below_drewN | apply below_drew1 | refine below_set ?_ (IsS69.ge HI20003.out)) | exact HB.out)); rintro e w15 ⟨rfl, hi, hb, hk⟩; have n0_ := Aside0.mk (Kd.R_mono (Kd.R_keep (IsS69.apart (show IsS69 w _ g20003 t20001 t20005 from by repeat (first | (with_reducible first | exact HI20003.out | apply IsS69.alloc | apply IsS69.drewN | apply IsS69.drew | apply IsS69.set_1) | exact HI20003.out)) (by (with_reducible repeat (first | apply Kd.R_alloc | apply Kd.R_drewN | apply Kd.R_drew)); exact HO20008.out) (by decide)) hk (fun _ h => h.2)) (fun _ h => h.1)); have n1_ := Aside0.mk (hb); have n2_ := Aside0.mk (hi); clear HO20008; clear HB; clear HI20003; have HO20008 := n0_; have HB := n1_; have HI20003 := n2_; clear n0_ n1_ n2_; (try clear hb); (try clear hb2); (try clear hk); (try clear hi); have p20011 : 0 ≤ ((ji8) : Int) := of_decide_eq_true (by first | (with_reducible assumption) | assumption); have q20011 : (ji8) < (t20006.length : Int) := of_decide_eq_true (by first | (with_reducible assumption) | assumption); obtain ⟨ad20011, e20011, hx20011_0⟩ := Kd.at_string (Kd.R_reads' HO20008.out).2.2 (ji8) p20011 q20011; cases e20011; replace p20011 := eq_true p20011; replace q20011 := eq_true q20011))
          go_ret
          exact ⟨by first | rfl | (simp [errW_none, errW_some] <;> rfl) | (simp only [← hji8]; first | rfl | (simp [errW_none, errW_some] <;> rfl)) | (simp [*, errW_none, errW_some] <;> rfl), by repeat (first | (with_reducible first | exact HB.out | apply below_alloc | apply pw_below_drewN | apply below_drew1 | refine below_set ?_ (IsS69.ge HI20003.out)) | exact HB.out)⟩
        · rw [if_neg c10] at H
          exact absurd H (by simp)
      · rw [if_neg c9] at H
        exact absurd H (by simp)
    · rw [if_neg c7] at H
      have c7b0 : (t20009 == 0) = false := beq_eq_false_iff_ne.mpr c7
      have c7b1 : (t20009 != 0) = true := bne_iff_ne.mpr c7
      obtain rfl := Option.some.inj H
      go_enter Try.func16, Try.ntmps16
      go_wp2_with (first | ((with_reducible refine gate_callee (f := 19) rfl ?_); refine goesL_ (some 7) rfl rfl Try.func19 (by kernel_rfl) rfl #[.slice A0 l0.length c0] rfl (by (try simp only [List.map_toArray, List.map_cons, List.map_nil]); first | done | rfl | (simp only [List.length_drop, List.length_take]; rfl)) ?_; (with_reducible refine (spec_l13Open.calls _ _ l0 t20001 t20002 w _ ?side1 ?side2 ?side3 A2.out).mono ?_); (case side1 => repeat (first | (with_reducible first | exact HB.out | apply below_alloc | apply pw_below_drewN | apply below_drew1) | exact HB.out)); (case side2 => exact HR0.out); (case side3 => exact HC0.out); rintro e w16 ⟨g20003, rfl, hi, hb, hb2⟩; refine ⟨_, rfl, ?_⟩; have n0_ := Aside0.mk (hb); have n1_ := Aside0.mk (hi); clear HB; have HB := n0_; have HI20003 := n1_; clear n0_ n1_; (try clear hb); (try clear hb2); (try clear hk); (try clear hi)) | ((with_reducible refine gate_callee (f := 18) rfl ?_); refine goesL_ (some 9) rfl rfl Try.func18 (by kernel_rfl) rfl #[.pointer (some ⟨g20003, 0, none⟩)] rfl (by (try simp only [List.map_toArray, List.map_cons, List.map_nil]); first | done | rfl | (simp only [List.length_drop, List.length_take]; rfl)) ?_; (with_reducible refine (spec_l5Some.calls k g20003 t20001 t20002 t20004 t20005 w _ ?side1 ?side2 A3.out).mono ?_); (case side1 => repeat (first | (with_reducible first | exact HI20003.out | apply IsS69.alloc | apply IsS69.drewN | apply IsS69.drew | apply IsS69.set_1) | exact HI20003.out)); (case side2 => repeat (first | (with_reducible first | exact HB.out | apply below_alloc | apply pw_below_drewN | apply below_drew1 | refine below_set ?_ (IsS69.ge HI20003.out)) | exact HB.out)); rintro e w17 ⟨rfl, hi, hb, hk⟩; refine ⟨_, rfl, ?_⟩; have n0_ := Aside0.mk (hb); have n1_ := Aside0.mk (hi); clear HB; clear HI20003; have HB := n0_; have HI20003 := n1_; clear n0_ n1_; (try clear hb); (try clear hb2); (try clear hk); (try clear hi)) | ((with_reducible refine gate_callee (f := 36) rfl ?_); refine goesL_ (some 11) rfl rfl Try.func36 (by kernel_rfl) rfl #[.string t20004] rfl (by (try simp only [List.map_toArray, List.map_cons, List.map_nil]); first | done | rfl | (simp only [List.length_drop, List.length_take]; rfl)) ?_; (with_reducible refine (spec_PartsOfTerm.calls t20004 t20006 _ A4.out).mono ?_); rintro e w18 ⟨v20007, rfl, ho0, hb⟩; refine ⟨_, rfl, ?_⟩; have n0_ := Aside0.mk (Kd.R_lower ho0 (below_size (by repeat (first | (with_reducible first | exact HB.out | apply below_alloc | apply pw_below_drewN | apply below_drew1 | refine below_set ?_ (IsS69.ge HI20003.out)) | exact HB.out)))); have n1_ := Aside0.mk (IsS69.below (by repeat (first | (with_reducible first | exact HI20003.out | apply IsS69.alloc | apply IsS69.drewN | apply IsS69.drew | apply IsS69.set_1) | exact HI20003.out)) hb); have n2_ := Aside0.mk (below_step (by repeat (first | (with_reducible first | exact HB.out | apply below_alloc | apply pw_below_drewN | apply below_drew1 | refine below_set ?_ (IsS69.ge HI20003.out)) | exact HB.out)) hb); clear HI20003; clear HB; have HO20008 := n0_; have HI20003 := n1_; have HB := n2_; clear n0_ n1_ n2_; (try clear hb); (try clear hb2); (try clear hk); (try clear hi); (try clear ho0); obtain ⟨Ao19, co19, eo19⟩ := Kd.R_slice HO20008.out; subst eo19) | (go_at_call 37; (with_reducible refine (spec_l13Rd_pick.calls k g20003 t20001 t20005 2 t20009 t20010 w _ ?side1 ?side2 A6.out).mono ?_); (case side1 => repeat (first | (with_reducible first | exact HI20003.out | apply IsS69.alloc | apply IsS69.drewN | apply IsS69.drew | apply IsS69.set_1) | exact HI20003.out)); (case side2 => repeat (first | (with_reducible first | exact HB.out | apply below_alloc | apply pw_below_drewN | apply below_drew1 | refine below_set ?_ (IsS69.ge HI20003.out)) | exact HB.out)); rintro e w20 ⟨rfl, hi, hb, hk⟩; have n0_ := Aside0.mk (Kd.R_mono (Kd.R_keep (IsS69.apart (show IsS69 w _ g20003 t20001 t20005 from by repeat (first | (with_reducible first | exact HI20003.out | apply IsS69.alloc | apply IsS69.drewN | apply IsS69.drew | apply IsS69.set_1) | exact HI20003.out)) (by (with_reducible repeat (first | apply Kd.R_alloc | apply Kd.R_drewN | apply Kd.R_drew)); exact HO20008.out) (by decide)) hk (fun _ h => h.2)) (fun _ h => h.1)); have n1_ := Aside0.mk (hb); have n2_ := Aside0.mk (hi); clear HO20008; clear HB; clear HI20003; have HO20008 := n0_; have HB := n1_; have HI20003 := n2_; clear n0_ n1_ n2_; (try clear hb); (try clear hb2); (try clear hk); (try clear hi)))
      go_ret
      exact ⟨by first | rfl | (simp [errW_none, errW_some] <;> rfl) | (simp [*, errW_none, errW_some] <;> rfl), by repeat (first | (with_reducible first | exact HB.out | apply below_alloc | apply pw_below_drewN | apply below_drew1 | refine below_set ?_ (IsS69.ge HI20003.out)) | exact HB.out)⟩
  · rw [if_neg c5] at H
    have c5b0 : decide (0 < (t20006.length : Int)) = false := decide_eq_false c5
    have c5b1 : decide (0 < t20006.length) = false := decide_eq_false (by omega)
    clear c5
    obtain rfl := Option.some.inj H
    go_enter Try.func16, Try.ntmps16
    go_wp2_with (first | ((with_reducible refine gate_callee (f := 19) rfl ?_); refine goesL_ (some 7) rfl rfl Try.func19 (by kernel_rfl) rfl #[.slice A0 l0.length c0] rfl (by (try simp only [List.map_toArray, List.map_cons, List.map_nil]); first | done | rfl | (simp only [List.length_drop, List.length_take]; rfl)) ?_; (with_reducible refine (spec_l13Open.calls _ _ l0 t20001 t20002 w _ ?side1 ?side2 ?side3 A2.out).mono ?_); (case side1 => repeat (first | (with_reducible first | exact HB.out | apply below_alloc | apply pw_below_drewN | apply below_drew1) | exact HB.out)); (case side2 => exact HR0.out); (case side3 => exact HC0.out); rintro e w21 ⟨g20003, rfl, hi, hb, hb2⟩; refine ⟨_, rfl, ?_⟩; have n0_ := Aside0.mk (hb); have n1_ := Aside0.mk (hi); clear HB; have HB := n0_; have HI20003 := n1_; clear n0_ n1_; (try clear hb); (try clear hb2); (try clear hk); (try clear hi)) | ((with_reducible refine gate_callee (f := 18) rfl ?_); refine goesL_ (some 9) rfl rfl Try.func18 (by kernel_rfl) rfl #[.pointer (some ⟨g20003, 0, none⟩)] rfl (by (try simp only [List.map_toArray, List.map_cons, List.map_nil]); first | done | rfl | (simp only [List.length_drop, List.length_take]; rfl)) ?_; (with_reducible refine (spec_l5Some.calls k g20003 t20001 t20002 t20004 t20005 w _ ?side1 ?side2 A3.out).mono ?_); (case side1 => repeat (first | (with_reducible first | exact HI20003.out | apply IsS69.alloc | apply IsS69.drewN | apply IsS69.drew | apply IsS69.set_1) | exact HI20003.out)); (case side2 => repeat (first | (with_reducible first | exact HB.out | apply below_alloc | apply pw_below_drewN | apply below_drew1 | refine below_set ?_ (IsS69.ge HI20003.out)) | exact HB.out)); rintro e w22 ⟨rfl, hi, hb, hk⟩; refine ⟨_, rfl, ?_⟩; have n0_ := Aside0.mk (hb); have n1_ := Aside0.mk (hi); clear HB; clear HI20003; have HB := n0_; have HI20003 := n1_; clear n0_ n1_; (try clear hb); (try clear hb2); (try clear hk); (try clear hi)) | ((with_reducible refine gate_callee (f := 36) rfl ?_); refine goesL_ (some 11) rfl rfl Try.func36 (by kernel_rfl) rfl #[.string t20004] rfl (by (try simp only [List.map_toArray, List.map_cons, List.map_nil]); first | done | rfl | (simp only [List.length_drop, List.length_take]; rfl)) ?_; (with_reducible refine (spec_PartsOfTerm.calls t20004 t20006 _ A4.out).mono ?_); rintro e w23 ⟨v20007, rfl, ho0, hb⟩; refine ⟨_, rfl, ?_⟩; have n0_ := Aside0.mk (Kd.R_lower ho0 (below_size (by repeat (first | (with_reducible first | exact HB.out | apply below_alloc | apply pw_below_drewN | apply below_drew1 | refine below_set ?_ (IsS69.ge HI20003.out)) | exact HB.out)))); have n1_ := Aside0.mk (IsS69.below (by repeat (first | (with_reducible first | exact HI20003.out | apply IsS69.alloc | apply IsS69.drewN | apply IsS69.drew | apply IsS69.set_1) | exact HI20003.out)) hb); have n2_ := Aside0.mk (below_step (by repeat (first | (with_reducible first | exact HB.out | apply below_alloc | apply pw_below_drewN | apply below_drew1 | refine below_set ?_ (IsS69.ge HI20003.out)) | exact HB.out)) hb); clear HI20003; clear HB; have HO20008 := n0_; have HI20003 := n1_; have HB := n2_; clear n0_ n1_ n2_; (try clear hb); (try clear hb2); (try clear hk); (try clear hi); (try clear ho0); obtain ⟨Ao24, co24, eo24⟩ := Kd.R_slice HO20008.out; subst eo24))
    go_ret
    exact ⟨by first | rfl | (simp [errW_none, errW_some] <;> rfl) | (simp [*, errW_none, errW_some] <;> rfl), by repeat (first | (with_reducible first | exact HB.out | apply below_alloc | apply pw_below_drewN | apply below_drew1 | refine below_set ?_ (IsS69.ge HI20003.out)) | exact HB.out)⟩
def spec_FreeVars.f (a0 : ByteArray) : Option ByteArray := if a0.size ≤ 1048576 then some ((tmOf a0.data.toList).elim ⟨#[]⟩ fun t => ⟨t.fv.toArray⟩) else none
theorem spec_FreeVars.calls (a0 : ByteArray) (r : ByteArray) (w : World) (h : spec_FreeVars.f a0 = some r) :
    Calls Try.prog 17 #[.string a0] w fun e w' => e = .returned (.string r) ∧ Below w.heap.size w w' := by
  unfold spec_FreeVars.f at h
  by_cases hs : a0.size ≤ 1048576
  case neg => rw [if_neg hs] at h; cases h
  rw [if_pos hs] at h
  have e : ((tmOf a0.data.toList).elim ⟨#[]⟩ fun t => ⟨t.fv.toArray⟩) = r := Option.some.inj h
  rw [← e]; exact spec_FreeVars_walk a0 w hs
end Go.Proofs.Ytpklhagedifglaa.Vq
