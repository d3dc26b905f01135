/-
  Cut to what this claim uses.
-/
import Derived.Test.YtpklhagedifglaaQVq0
import Derived.Test.YtpklhagedifglaaQVq1
import Derived.Test.YtpklhagedifglaaQVq2
namespace Go.Proofs.Ytpklhagedifglaa.Vq
open Go.RowKit Go.Proofs.YtpklhagedifglaaW.PrintWords Go.Proofs.YtpklhagedifglaaW.PrintLast Go.Proofs.YtpklhagedifglaaW.PrintMore
attribute [local go_sem] max2_int min2_int max_two min_two max_three min_three max_four min_four   -- for this text's walks alone
set_option linter.unusedVariables false
set_option linter.unusedSimpArgs false
set_option maxHeartbeats 80000000 in
set_option maxRecDepth 100000 in
theorem spec_l5Draw.calls_d1 (k : Nat) (ih : ∀ m, m < k → ∀ (g : Nat) (s0_0 : List Int) (s0_1 : Int) (a1 : Int) (a2 : Int) (a3 : ByteArray) (a4 : ByteArray) (r1 : ByteArray) (r2 : Int) (w0 w : World) (hI : IsS69 w0 w g s0_0 s0_1) (hB : Below w0.heap.size w0 w) (h : spec_l5Draw.f m s0_0 s0_1 a1 a2 a3 a4 = some (r1, r2)),
    Calls Try.prog 40 #[.pointer (some ⟨g, 0, none⟩), .int .i64 a1, .int .i64 a2, .string a3, .string a4] w fun e w' => e = .returned (.string r1) ∧ IsS69 w0 w' g s0_0 r2 ∧ Below w0.heap.size w0 w' ∧ KeepBut w w' g none) : ∀ (g : Nat) (s0_0 : List Int) (s0_1 : Int) (a1 : Int) (a2 : Int) (a3 : ByteArray) (a4 : ByteArray) (r1 : ByteArray) (r2 : Int) (w0 w : World) (hI : IsS69 w0 w g s0_0 s0_1) (hB : Below w0.heap.size w0 w) (h : spec_l5Draw.f k s0_0 s0_1 a1 a2 a3 a4 = some (r1, r2)) (hx : ¬ a2 ≤ 0 ∧ a1 = 1),
    Calls Try.prog 40 #[.pointer (some ⟨g, 0, none⟩), .int .i64 a1, .int .i64 a2, .string a3, .string a4] w fun e w' => e = .returned (.string r1) ∧ IsS69 w0 w' g s0_0 r2 ∧ Below w0.heap.size w0 w' ∧ KeepBut w w' g none := by
  intro g s0_0 s0_1 a1 a2 a3 a4 r1 r2 w0 w hI hB h hx
  have HX := Aside0.mk hx
  clear hx
  cases k with
  | zero => exact absurd h (by simp [spec_l5Draw.f])
  | succ k =>
  simp only [spec_l5Draw.f] at h
  have HI0 := Aside0.mk hI
  have HK := Aside0.mk (KeepBut.refl w g none)
  have HL := Aside0.mk hB.size
  clear hI
  have HW0 := Aside0.mk hB.size
  have HB := Aside0.mk hB
  clear hB
  have H := h
  clear h
  by_cases c6 : a2 ≤ 0
  · exact absurd c6 HX.out.1
  · rw [if_neg c6] at H
    have c6b0 : decide (a2 ≤ 0) = false := decide_eq_false c6
    clear c6
    obtain ⟨ji35, hji35⟩ : ∃ j_ : Int, (Int.tmod (wrap64 ((wrap64 (a2 + (a3.size : Int))) + (wrap64 (2 * (a4.size : Int))))) 5) = j_ := ⟨_, rfl⟩
    first | rw [hji35] at H | simp only [hji35] at H
    by_cases c36 : 0 ≤ (ji35)
    · rw [if_pos c36] at H
      have c36b0 := eq_true c36
      have c36b1 : decide (0 ≤ (ji35)) = true := decide_eq_true c36
      clear c36
      by_cases c37 : (ji35) ≤ (wrap64 ((ji35) + 1))
      · rw [if_pos c37] at H
        have c37b0 := eq_true c37
        have c37b1 : decide ((ji35) ≤ (wrap64 ((ji35) + 1))) = true := decide_eq_true c37
        by_cases c38 : (wrap64 ((ji35) + 1)) ≤ 5
        · rw [if_pos c38] at H
          have c38b0 := eq_true c38
          have c38b1 : decide ((wrap64 ((ji35) + 1)) ≤ 5) = true := decide_eq_true c38
          obtain ⟨nm, hnm⟩ : ∃ x_ : ByteArray, ((⟨#[118, 119, 120, 121, 122]⟩ : ByteArray).extract ((ji35) : Int).toNat ((wrap64 ((ji35) + 1)) : Int).toNat) = x_ := ⟨_, rfl⟩
          rw [hnm] at H
          by_cases c39 : a1 = 0
          · exact absurd c39 (by have := HX.out.2; omega)
          · rw [if_neg c39] at H
            have c39b0 : (a1 == 0) = false := beq_eq_false_iff_ne.mpr c39
            have c39b1 : (a1 != 0) = true := bne_iff_ne.mpr c39
            by_cases c84 : a1 = 1
            · rw [if_pos c84] at H
              have c84b0 : (a1 == 1) = true := beq_iff_eq.mpr c84
              have c84b1 : (a1 != 1) = false := bne_eq_false_iff_eq.mpr c84
              clear c84
              replace H := Option.bind_eq_some_iff.mp H
              obtain ⟨⟨t20038, t20039⟩, A850, H⟩ := H
              replace H : (if t20038 = 0 then ((spec_l5Draw.f k s0_0 t20039 0 (wrap64 (a2 - 1)) a3 a4).bind fun bt20040 => (if 1 + bt20040.1.size ≤ 9223372036854775807 then (some ((⟨#[73]⟩ : ByteArray) ++ bt20040.1, bt20040.2)) else (none))) else (if t20038 = 1 then ((spec_l13Rd_of.f k s0_0 t20039 (([(⟨#[82]⟩ : ByteArray), (⟨#[80]⟩ : ByteArray)] : List ByteArray))).bind fun bt20045 => ((spec_l5Draw.f k s0_0 bt20045.2 1 (wrap64 (a2 - 1)) a3 a4).bind fun bt20047 => (if bt20045.1.size + bt20047.1.size ≤ 9223372036854775807 then (some (bt20045.1 ++ bt20047.1, bt20047.2)) else (none)))) else (if t20038 = 2 then ((spec_l5Draw.f k s0_0 t20039 2 (wrap64 (a2 - 1)) a3 a4).bind fun bt20049 => (if 1 + bt20049.1.size ≤ 9223372036854775807 then (some ((⟨#[67]⟩ : ByteArray) ++ bt20049.1, bt20049.2)) else (none))) else (if t20038 = 3 then (if 1 + nm.size ≤ 9223372036854775807 then (if ((⟨#[123]⟩ : ByteArray) ++ nm).size + 1 ≤ 9223372036854775807 then ((spec_l5Draw.f k s0_0 t20039 1 (wrap64 (a2 - 2)) a3 a4).bind fun bt20051 => (if (((⟨#[123]⟩ : ByteArray) ++ nm) ++ (⟨#[58]⟩ : ByteArray)).size + bt20051.1.size ≤ 9223372036854775807 then (if ((((⟨#[123]⟩ : ByteArray) ++ nm) ++ (⟨#[58]⟩ : ByteArray)) ++ bt20051.1).size + 1 ≤ 9223372036854775807 then ((spec_l5Bind.f k a3 nm).bind fun t20053 => ((spec_l5Unbind.f k a4 nm).bind fun t20054 => ((spec_l5Draw.f k s0_0 bt20051.2 0 (wrap64 (a2 - 2)) t20053 t20054).bind fun bt20055 => (if (((((⟨#[123]⟩ : ByteArray) ++ nm) ++ (⟨#[58]⟩ : ByteArray)) ++ bt20051.1) ++ (⟨#[62]⟩ : ByteArray)).size + bt20055.1.size ≤ 9223372036854775807 then (if ((((((⟨#[123]⟩ : ByteArray) ++ nm) ++ (⟨#[58]⟩ : ByteArray)) ++ bt20051.1) ++ (⟨#[62]⟩ : ByteArray)) ++ bt20055.1).size + 1 ≤ 9223372036854775807 then (some (((((((⟨#[123]⟩ : ByteArray) ++ nm) ++ (⟨#[58]⟩ : ByteArray)) ++ bt20051.1) ++ (⟨#[62]⟩ : ByteArray)) ++ bt20055.1) ++ (⟨#[125]⟩ : ByteArray), bt20055.2)) else (none)) else (none))))) else (none)) else (none))) else (none)) else (none)) else (if t20038 = 4 then (if 1 + nm.size ≤ 9223372036854775807 then (if ((⟨#[91]⟩ : ByteArray) ++ nm).size + 1 ≤ 9223372036854775807 then ((spec_l5Draw.f k s0_0 t20039 2 (wrap64 (a2 - 2)) a3 a4).bind fun bt20057 => (if (((⟨#[91]⟩ : ByteArray) ++ nm) ++ (⟨#[58]⟩ : ByteArray)).size + bt20057.1.size ≤ 9223372036854775807 then (if ((((⟨#[91]⟩ : ByteArray) ++ nm) ++ (⟨#[58]⟩ : ByteArray)) ++ bt20057.1).size + 1 ≤ 9223372036854775807 then ((spec_l5Unbind.f k a3 nm).bind fun t20059 => ((spec_l5Bind.f k a4 nm).bind fun t20060 => ((spec_l5Draw.f k s0_0 bt20057.2 0 (wrap64 (a2 - 2)) t20059 t20060).bind fun bt20061 => (if (((((⟨#[91]⟩ : ByteArray) ++ nm) ++ (⟨#[58]⟩ : ByteArray)) ++ bt20057.1) ++ (⟨#[62]⟩ : ByteArray)).size + bt20061.1.size ≤ 9223372036854775807 then (if ((((((⟨#[91]⟩ : ByteArray) ++ nm) ++ (⟨#[58]⟩ : ByteArray)) ++ bt20057.1) ++ (⟨#[62]⟩ : ByteArray)) ++ bt20061.1).size + 1 ≤ 9223372036854775807 then (some (((((((⟨#[91]⟩ : ByteArray) ++ nm) ++ (⟨#[58]⟩ : ByteArray)) ++ bt20057.1) ++ (⟨#[62]⟩ : ByteArray)) ++ bt20061.1) ++ (⟨#[93]⟩ : ByteArray), bt20061.2)) else (none)) else (none))))) else (none)) else (none))) else (none)) else (none)) else (if 1 + nm.size ≤ 9223372036854775807 then (if ((⟨#[91]⟩ : ByteArray) ++ nm).size + 1 ≤ 9223372036854775807 then ((spec_l5Draw.f k s0_0 t20039 1 (wrap64 (a2 - 2)) a3 a4).bind fun bt20063 => (if (((⟨#[91]⟩ : ByteArray) ++ nm) ++ (⟨#[58]⟩ : ByteArray)).size + bt20063.1.size ≤ 9223372036854775807 then (if ((((⟨#[91]⟩ : ByteArray) ++ nm) ++ (⟨#[58]⟩ : ByteArray)) ++ bt20063.1).size + 1 ≤ 9223372036854775807 then ((spec_l5Bind.f k a3 nm).bind fun t20065 => ((spec_l5Unbind.f k a4 nm).bind fun t20066 => ((spec_l5Draw.f k s0_0 bt20063.2 0 (wrap64 (a2 - 2)) t20065 t20066).bind fun bt20067 => (if (((((⟨#[91]⟩ : ByteArray) ++ nm) ++ (⟨#[58]⟩ : ByteArray)) ++ bt20063.1) ++ (⟨#[62]⟩ : ByteArray)).size + bt20067.1.size ≤ 9223372036854775807 then (if ((((((⟨#[91]⟩ : ByteArray) ++ nm) ++ (⟨#[58]⟩ : ByteArray)) ++ bt20063.1) ++ (⟨#[62]⟩ : ByteArray)) ++ bt20067.1).size + 1 ≤ 9223372036854775807 then (some (((((((⟨#[91]⟩ : ByteArray) ++ nm) ++ (⟨#[58]⟩ : ByteArray)) ++ bt20063.1) ++ (⟨#[62]⟩ : ByteArray)) ++ bt20067.1) ++ (⟨#[93]⟩ : ByteArray), bt20067.2)) else (none)) else (none))))) else (none)) else (none))) else (none)) else (none))))))) = some (r1, r2) := H
              have A85 := Aside0.mk A850
              clear A850
              by_cases c86 : t20038 = 0
              · rw [if_pos c86] at H
                have c86b0 : (t20038 == 0) = true := beq_iff_eq.mpr c86
                have c86b1 : (t20038 != 0) = false := bne_eq_false_iff_eq.mpr c86
                clear c86
                replace H := Option.bind_eq_some_iff.mp H
                obtain ⟨⟨t20040, t20041⟩, A870, H⟩ := H
                replace H : (if 1 + t20040.size ≤ 9223372036854775807 then (some ((⟨#[73]⟩ : ByteArray) ++ t20040, t20041)) else (none)) = some (r1, r2) := H
                have A87 := Aside0.mk A870
                clear A870
                by_cases c88 : 1 + t20040.size ≤ 9223372036854775807
                · rw [if_pos c88] at H
                  have c88b0 := eq_true c88
                  have c88b1 : decide (1 + t20040.size ≤ 9223372036854775807) = true := decide_eq_true c88
                  try have c88b2 : (9223372036854775807 < 1 + t20040.size) = False := eq_false (Nat.not_lt.2 c88)
                  have c88n := c88; (try simp only [ByteArray.size_append, ba1_size] at c88n)
                  simp only [Option.some.injEq, Prod.mk.injEq] at H
                  obtain ⟨rfl, rfl⟩ := H
                  as_aux_lemma =>
                    go_enter Try.func40, Try.ntmps40
                    go_upto_region 13 with (fail)
                    go_cut [13] (fun v13 wc => v13 = .string nm ∧ Aside0 (IsS69 w0 wc g s0_0 s0_1) ∧ Aside0 (KeepBut w wc g none) ∧ Aside0 (Below w0.heap.size w0 wc))
                    case first =>
                      go_wp2
                      go_meet
                      case rel => exact ⟨by (subst hnm; subst hji35; first | rfl | (simp; done) | (simp [*]; done)), ⟨by repeat (first | (with_reducible first | exact HI0.out | apply IsS69.alloc | apply IsS69.drewN | apply IsS69.drew | apply IsS69.set_1) | exact HI0.out)⟩, ⟨by repeat (first | (with_reducible first | exact HK.out | apply KeepBut.set_ | apply keep_drewN | apply keep_drew | apply keep_alloc) | exact HK.out)⟩, ⟨by repeat (first | (with_reducible first | exact HB.out | apply below_alloc | apply pw_below_drewN | apply below_drew1 | refine below_set ?_ (IsS69.ge HI0.out)) | exact HB.out)⟩⟩
                    case rest =>
                      clear HI0 HK HB
                      clear hnm hji35
                      obtain ⟨rfl, HI0, HK, HB⟩ := hcut
                      go_wp2_with (first | ((with_reducible refine gate_callee (f := 37) rfl ?_); refine goesL_ (some 159) rfl rfl Try.func37 (by kernel_rfl) rfl #[.pointer (some ⟨g, 0, none⟩), .int .i64 7] rfl (by (try simp only [List.map_toArray, List.map_cons, List.map_nil]); first | done | rfl | (simp only [List.length_drop, List.length_take]; rfl)) ?_; (with_reducible refine (spec_l13Rd_pick.calls k g s0_0 s0_1 7 t20038 t20039 w0 _ ?side1 ?side2 A85.out).mono ?_); (case side1 => repeat (first | (with_reducible first | exact HI0.out | apply IsS69.alloc | apply IsS69.drewN | apply IsS69.drew | apply IsS69.set_1) | exact HI0.out)); (case side2 => repeat (first | (with_reducible first | exact HB.out | apply below_alloc | apply pw_below_drewN | apply below_drew1 | refine below_set ?_ (IsS69.ge HI0.out)) | exact HB.out)); rintro e w89 ⟨rfl, hi, hb, hk⟩; refine ⟨_, rfl, ?_⟩; have n0_ := Aside0.mk (KeepBut.trans (by repeat (first | (with_reducible first | exact HK.out | apply KeepBut.set_ | apply keep_drewN | apply keep_drew | apply keep_alloc) | exact HK.out)) hk (.inl rfl)); have n1_ := Aside0.mk (hb); have n2_ := Aside0.mk (hi); clear HK; clear HB; clear HI0; have HK := n0_; have HB := n1_; have HI0 := n2_; clear n0_ n1_ n2_; (try clear hb); (try clear hb2); (try clear hk); (try clear hi)) | ((with_reducible refine gate_callee (f := 40) rfl ?_); refine goesL_ (some 167) rfl rfl Try.func40 (by kernel_rfl) rfl #[.pointer (some ⟨g, 0, none⟩), .int .i64 0, .int .i64 (wrap64 (a2 - 1)), .string a3, .string a4] rfl (by (try simp only [List.map_toArray, List.map_cons, List.map_nil]); first | done | rfl | (simp only [List.length_drop, List.length_take]; rfl)) ?_; (with_reducible refine (ih k (by omega) g s0_0 t20039 0 (wrap64 (a2 - 1)) a3 a4 t20040 t20041 w0 _ ?side1 ?side2 A87.out).mono ?_); (case side1 => repeat (first | (with_reducible first | exact HI0.out | apply IsS69.alloc | apply IsS69.drewN | apply IsS69.drew | apply IsS69.set_1) | exact HI0.out)); (case side2 => repeat (first | (with_reducible first | exact HB.out | apply below_alloc | apply pw_below_drewN | apply below_drew1 | refine below_set ?_ (IsS69.ge HI0.out)) | exact HB.out)); rintro e w90 ⟨rfl, hi, hb, hk⟩; refine ⟨_, rfl, ?_⟩; have n0_ := Aside0.mk (KeepBut.trans (by repeat (first | (with_reducible first | exact HK.out | apply KeepBut.set_ | apply keep_drewN | apply keep_drew | apply keep_alloc) | exact HK.out)) hk (.inl rfl)); have n1_ := Aside0.mk (hb); have n2_ := Aside0.mk (hi); clear HK; clear HB; clear HI0; have HK := n0_; have HB := n1_; have HI0 := n2_; clear n0_ n1_ n2_; (try clear hb); (try clear hb2); (try clear hk); (try clear hi)))
                      all_goals (try (exfalso; omega))
                      go_ret
                      exact ⟨by first | rfl | (simp [errW_none, errW_some] <;> rfl) | (simp [*, errW_none, errW_some] <;> rfl), by repeat (first | (with_reducible first | exact HI0.out | apply IsS69.alloc | apply IsS69.drewN | apply IsS69.drew | apply IsS69.set_1) | exact HI0.out), by repeat (first | (with_reducible first | exact HB.out | apply below_alloc | apply pw_below_drewN | apply below_drew1 | refine below_set ?_ (IsS69.ge HI0.out)) | exact HB.out), by repeat (first | (with_reducible first | exact HK.out | apply KeepBut.set_ | apply keep_drewN | apply keep_drew | apply keep_alloc) | exact HK.out)⟩
                · rw [if_neg c88] at H
                  exact absurd H (by simp)
              · rw [if_neg c86] at H
                have c86b0 : (t20038 == 0) = false := beq_eq_false_iff_ne.mpr c86
                have c86b1 : (t20038 != 0) = true := bne_iff_ne.mpr c86
                by_cases c91 : t20038 = 1
                · rw [if_pos c91] at H
                  have c91b0 : (t20038 == 1) = true := beq_iff_eq.mpr c91
                  have c91b1 : (t20038 != 1) = false := bne_eq_false_iff_eq.mpr c91
                  clear c91
                  obtain ⟨y20042, hy20042⟩ : ∃ y_ : List ByteArray, y_ = (([(⟨#[82]⟩ : ByteArray), (⟨#[80]⟩ : ByteArray)] : List ByteArray)) := ⟨_, rfl⟩
                  replace H : ((spec_l13Rd_of.f k s0_0 t20039 y20042).bind fun bt20045 => ((spec_l5Draw.f k s0_0 bt20045.2 1 (wrap64 (a2 - 1)) a3 a4).bind fun bt20047 => (if bt20045.1.size + bt20047.1.size ≤ 9223372036854775807 then (some (bt20045.1 ++ bt20047.1, bt20047.2)) else (none)))) = some (r1, r2) := by first | (rw [hy20042]; with_reducible exact H) | (have H2_ := (Option.bind_some _ _).symm.trans H; rw [hy20042]; with_reducible exact H2_) | (have H2_ := (Option.bind_some _ _).symm.trans H; with_reducible exact H2_) | with_reducible exact H | (rw [hy20042]; exact H) | exact H
                  have Ny20042 := Aside0.mk hy20042
                  clear hy20042
                  replace H := Option.bind_eq_some_iff.mp H
                  obtain ⟨⟨t20045, t20046⟩, A920, H⟩ := H
                  replace H : ((spec_l5Draw.f k s0_0 t20046 1 (wrap64 (a2 - 1)) a3 a4).bind fun bt20047 => (if t20045.size + bt20047.1.size ≤ 9223372036854775807 then (some (t20045 ++ bt20047.1, bt20047.2)) else (none))) = some (r1, r2) := H
                  have A92 := Aside0.mk A920
                  clear A920
                  replace H := Option.bind_eq_some_iff.mp H
                  obtain ⟨⟨t20047, t20048⟩, A930, H⟩ := H
                  replace H : (if t20045.size + t20047.size ≤ 9223372036854775807 then (some (t20045 ++ t20047, t20048)) else (none)) = some (r1, r2) := H
                  have A93 := Aside0.mk A930
                  clear A930
                  by_cases c94 : t20045.size + t20047.size ≤ 9223372036854775807
                  · rw [if_pos c94] at H
                    have c94b0 := eq_true c94
                    have c94b1 : decide (t20045.size + t20047.size ≤ 9223372036854775807) = true := decide_eq_true c94
                    try have c94b2 : (9223372036854775807 < t20045.size + t20047.size) = False := eq_false (Nat.not_lt.2 c94)
                    have c94n := c94; (try simp only [ByteArray.size_append, ba1_size] at c94n)
                    simp only [Option.some.injEq, Prod.mk.injEq] at H
                    obtain ⟨rfl, rfl⟩ := H
                    as_aux_lemma =>
                      go_enter Try.func40, Try.ntmps40
                      go_upto_region 13 with (fail)
                      go_cut [13] (fun v13 wc => v13 = .string nm ∧ Aside0 (IsS69 w0 wc g s0_0 s0_1) ∧ Aside0 (KeepBut w wc g none) ∧ Aside0 (Below w0.heap.size w0 wc))
                      case first =>
                        go_wp2
                        go_meet
                        case rel => exact ⟨by (subst hnm; subst hji35; first | rfl | (simp; done) | (simp [*]; done)), ⟨by repeat (first | (with_reducible first | exact HI0.out | apply IsS69.alloc | apply IsS69.drewN | apply IsS69.drew | apply IsS69.set_1) | exact HI0.out)⟩, ⟨by repeat (first | (with_reducible first | exact HK.out | apply KeepBut.set_ | apply keep_drewN | apply keep_drew | apply keep_alloc) | exact HK.out)⟩, ⟨by repeat (first | (with_reducible first | exact HB.out | apply below_alloc | apply pw_below_drewN | apply below_drew1 | refine below_set ?_ (IsS69.ge HI0.out)) | exact HB.out)⟩⟩
                      case rest =>
                        clear HI0 HK HB
                        clear hnm hji35
                        obtain ⟨rfl, HI0, HK, HB⟩ := hcut
                        go_wp2_with (first | ((with_reducible refine gate_callee (f := 37) rfl ?_); refine goesL_ (some 159) rfl rfl Try.func37 (by kernel_rfl) rfl #[.pointer (some ⟨g, 0, none⟩), .int .i64 7] rfl (by (try simp only [List.map_toArray, List.map_cons, List.map_nil]); first | done | rfl | (simp only [List.length_drop, List.length_take]; rfl)) ?_; (with_reducible refine (spec_l13Rd_pick.calls k g s0_0 s0_1 7 t20038 t20039 w0 _ ?side1 ?side2 A85.out).mono ?_); (case side1 => repeat (first | (with_reducible first | exact HI0.out | apply IsS69.alloc | apply IsS69.drewN | apply IsS69.drew | apply IsS69.set_1) | exact HI0.out)); (case side2 => repeat (first | (with_reducible first | exact HB.out | apply below_alloc | apply pw_below_drewN | apply below_drew1 | refine below_set ?_ (IsS69.ge HI0.out)) | exact HB.out)); rintro e w95 ⟨rfl, hi, hb, hk⟩; refine ⟨_, rfl, ?_⟩; have n0_ := Aside0.mk (KeepBut.trans (by repeat (first | (with_reducible first | exact HK.out | apply KeepBut.set_ | apply keep_drewN | apply keep_drew | apply keep_alloc) | exact HK.out)) hk (.inl rfl)); have n1_ := Aside0.mk (hb); have n2_ := Aside0.mk (hi); clear HK; clear HB; clear HI0; have HK := n0_; have HB := n1_; have HI0 := n2_; clear n0_ n1_ n2_; (try clear hb); (try clear hb2); (try clear hk); (try clear hi)) | ((with_reducible refine gate_dst (N := 172) rfl ?_); refine Kd.R_lit Kd.string _ 9 ?hg (N := 172) ?hd (xs := ([(⟨#[82]⟩ : ByteArray), (⟨#[80]⟩ : ByteArray)] : List ByteArray)) (inner := [.string (⟨#[82]⟩ : ByteArray), .string (⟨#[80]⟩ : ByteArray)]) (ok := fun _ => True) (okp := fun _ => True) ?hr ?hp (fun _ hk => hk) trivial (Below.refl _ _) (Nat.le_refl _) (by simp) ?_; (case hd => rfl); (case hg => rfl); (case hr => first | (go_simp; done) | (go_simp; rfl)); (case hp => exact (Reps.one (show Kd.M Kd.string _ _ _ (⟨#[82]⟩ : ByteArray) [.string (⟨#[82]⟩ : ByteArray)] from rfl) (Reps.one (show Kd.M Kd.string _ _ _ (⟨#[80]⟩ : ByteArray) [.string (⟨#[80]⟩ : ByteArray)] from rfl) (Reps.none _ _)))); intro v20043 w96 ho97 hb hg_ hnew_; clear hg_ hnew_; (first | rw [← Ny20042.out] at ho97 | (simp only [Int.reduceToNat] at ho97; rw [← Ny20042.out] at ho97)); have n0_ := Aside0.mk (Kd.R_lower ho97 (keep_size (w := w) (g := g) (row := none) (by repeat (first | (with_reducible first | exact HK.out | apply KeepBut.set_ | apply keep_drewN | apply keep_drew | apply keep_alloc) | exact HK.out)))); have n1_ := Aside0.mk (IsS69.below (by repeat (first | (with_reducible first | exact HI0.out | apply IsS69.alloc | apply IsS69.drewN | apply IsS69.drew | apply IsS69.set_1) | exact HI0.out)) hb); have n2_ := Aside0.mk (KeepBut.trans (by repeat (first | (with_reducible first | exact HK.out | apply KeepBut.set_ | apply keep_drewN | apply keep_drew | apply keep_alloc) | exact HK.out)) (KeepBut.of_below hb g none) (.inl rfl)); have n3_ := Aside0.mk (below_step (by repeat (first | (with_reducible first | exact HB.out | apply below_alloc | apply pw_below_drewN | apply below_drew1 | refine below_set ?_ (IsS69.ge HI0.out)) | exact HB.out)) hb); clear HI0; clear HK; clear HB; have HO20044 := n0_; have HI0 := n1_; have HK := n2_; have HB := n3_; clear n0_ n1_ n2_ n3_; clear hb ho97; obtain ⟨Ao98, co98, eo98⟩ := Kd.R_slice HO20044.out; subst eo98) | ((with_reducible refine gate_callee (f := 31) rfl ?_); refine goesL_ (some 173) rfl rfl Try.func31 (by kernel_rfl) rfl #[.pointer (some ⟨g, 0, none⟩), .slice Ao98 y20042.length co98] rfl (by (try simp only [List.map_toArray, List.map_cons, List.map_nil]); first | done | rfl | (simp only [List.length_drop, List.length_take]; rfl)) ?_; (with_reducible refine (spec_l13Rd_of.calls k g s0_0 t20039 _ _ y20042 t20045 t20046 w0 _ ?side1 ?side2 ?side3 ?side4 ?side5 A92.out).mono ?_); (case side1 => repeat (first | (with_reducible first | exact HI0.out | apply IsS69.alloc | apply IsS69.drewN | apply IsS69.drew | apply IsS69.set_1) | exact HI0.out)); (case side2 => repeat (first | (with_reducible first | exact HB.out | apply below_alloc | apply pw_below_drewN | apply below_drew1 | refine below_set ?_ (IsS69.ge HI0.out)) | exact HB.out)); (case side3 => repeat (first | exact (Kd.R_reads' HO20044.out).2.2 | (with_reducible refine Kd.C_alloc ?_ _) | (with_reducible refine Kd.C_drewN ?_ _) | (with_reducible refine Kd.C_drew ?_))); (case side4 => exact (Kd.R_reads' HO20044.out).2.1); (case side5 => exact far_slice (IsS69.own_ne HI0.out HO20044.out (by decide))); rintro e w99 ⟨rfl, hi, hb, hk⟩; refine ⟨_, rfl, ?_⟩; have n0_ := Aside0.mk (Kd.R_mono (Kd.R_keep (IsS69.apart (show IsS69 w0 _ g s0_0 t20039 from by repeat (first | (with_reducible first | exact HI0.out | apply IsS69.alloc | apply IsS69.drewN | apply IsS69.drew | apply IsS69.set_1) | exact HI0.out)) (by (with_reducible repeat (first | apply Kd.R_alloc | apply Kd.R_drewN | apply Kd.R_drew)); exact HO20044.out) (by decide)) hk (fun _ h => h.2)) (fun _ h => h.1)); have n1_ := Aside0.mk (KeepBut.trans (by repeat (first | (with_reducible first | exact HK.out | apply KeepBut.set_ | apply keep_drewN | apply keep_drew | apply keep_alloc) | exact HK.out)) hk (.inl rfl)); have n2_ := Aside0.mk (hb); have n3_ := Aside0.mk (hi); clear HO20044; clear HK; clear HB; clear HI0; have HO20044 := n0_; have HK := n1_; have HB := n2_; have HI0 := n3_; clear n0_ n1_ n2_ n3_; (try clear hb); (try clear hb2); (try clear hk); (try clear hi)) | ((with_reducible refine gate_callee (f := 40) rfl ?_); refine goesL_ (some 179) rfl rfl Try.func40 (by kernel_rfl) rfl #[.pointer (some ⟨g, 0, none⟩), .int .i64 1, .int .i64 (wrap64 (a2 - 1)), .string a3, .string a4] rfl (by (try simp only [List.map_toArray, List.map_cons, List.map_nil]); first | done | rfl | (simp only [List.length_drop, List.length_take]; rfl)) ?_; (with_reducible refine (ih k (by omega) g s0_0 t20046 1 (wrap64 (a2 - 1)) a3 a4 t20047 t20048 w0 _ ?side1 ?side2 A93.out).mono ?_); (case side1 => repeat (first | (with_reducible first | exact HI0.out | apply IsS69.alloc | apply IsS69.drewN | apply IsS69.drew | apply IsS69.set_1) | exact HI0.out)); (case side2 => repeat (first | (with_reducible first | exact HB.out | apply below_alloc | apply pw_below_drewN | apply below_drew1 | refine below_set ?_ (IsS69.ge HI0.out)) | exact HB.out)); rintro e w100 ⟨rfl, hi, hb, hk⟩; refine ⟨_, rfl, ?_⟩; have n0_ := Aside0.mk (Kd.R_mono (Kd.R_keep (IsS69.apart (show IsS69 w0 _ g s0_0 t20046 from by repeat (first | (with_reducible first | exact HI0.out | apply IsS69.alloc | apply IsS69.drewN | apply IsS69.drew | apply IsS69.set_1) | exact HI0.out)) (by (with_reducible repeat (first | apply Kd.R_alloc | apply Kd.R_drewN | apply Kd.R_drew)); exact HO20044.out) (by decide)) hk (fun _ h => h.2)) (fun _ h => h.1)); have n1_ := Aside0.mk (KeepBut.trans (by repeat (first | (with_reducible first | exact HK.out | apply KeepBut.set_ | apply keep_drewN | apply keep_drew | apply keep_alloc) | exact HK.out)) hk (.inl rfl)); have n2_ := Aside0.mk (hb); have n3_ := Aside0.mk (hi); clear HO20044; clear HK; clear HB; clear HI0; have HO20044 := n0_; have HK := n1_; have HB := n2_; have HI0 := n3_; clear n0_ n1_ n2_ n3_; (try clear hb); (try clear hb2); (try clear hk); (try clear hi)))
                        all_goals (try (exfalso; omega))
                        go_ret
                        exact ⟨by first | rfl | (simp [errW_none, errW_some] <;> rfl) | (simp [*, errW_none, errW_some] <;> rfl), by repeat (first | (with_reducible first | exact HI0.out | apply IsS69.alloc | apply IsS69.drewN | apply IsS69.drew | apply IsS69.set_1) | exact HI0.out), by repeat (first | (with_reducible first | exact HB.out | apply below_alloc | apply pw_below_drewN | apply below_drew1 | refine below_set ?_ (IsS69.ge HI0.out)) | exact HB.out), by repeat (first | (with_reducible first | exact HK.out | apply KeepBut.set_ | apply keep_drewN | apply keep_drew | apply keep_alloc) | exact HK.out)⟩
                  · rw [if_neg c94] at H
                    exact absurd H (by simp)
                · rw [if_neg c91] at H
                  have c91b0 : (t20038 == 1) = false := beq_eq_false_iff_ne.mpr c91
                  have c91b1 : (t20038 != 1) = true := bne_iff_ne.mpr c91
                  by_cases c101 : t20038 = 2
                  · rw [if_pos c101] at H
                    have c101b0 : (t20038 == 2) = true := beq_iff_eq.mpr c101
                    have c101b1 : (t20038 != 2) = false := bne_eq_false_iff_eq.mpr c101
                    clear c101
                    replace H := Option.bind_eq_some_iff.mp H
                    obtain ⟨⟨t20049, t20050⟩, A1020, H⟩ := H
                    replace H : (if 1 + t20049.size ≤ 9223372036854775807 then (some ((⟨#[67]⟩ : ByteArray) ++ t20049, t20050)) else (none)) = some (r1, r2) := H
                    have A102 := Aside0.mk A1020
                    clear A1020
                    by_cases c103 : 1 + t20049.size ≤ 9223372036854775807
                    · rw [if_pos c103] at H
                      have c103b0 := eq_true c103
                      have c103b1 : decide (1 + t20049.size ≤ 9223372036854775807) = true := decide_eq_true c103
                      try have c103b2 : (9223372036854775807 < 1 + t20049.size) = False := eq_false (Nat.not_lt.2 c103)
                      have c103n := c103; (try simp only [ByteArray.size_append, ba1_size] at c103n)
                      simp only [Option.some.injEq, Prod.mk.injEq] at H
                      obtain ⟨rfl, rfl⟩ := H
                      as_aux_lemma =>
                        go_enter Try.func40, Try.ntmps40
                        go_upto_region 13 with (fail)
                        go_cut [13] (fun v13 wc => v13 = .string nm ∧ Aside0 (IsS69 w0 wc g s0_0 s0_1) ∧ Aside0 (KeepBut w wc g none) ∧ Aside0 (Below w0.heap.size w0 wc))
                        case first =>
                          go_wp2
                          go_meet
                          case rel => exact ⟨by (subst hnm; subst hji35; first | rfl | (simp; done) | (simp [*]; done)), ⟨by repeat (first | (with_reducible first | exact HI0.out | apply IsS69.alloc | apply IsS69.drewN | apply IsS69.drew | apply IsS69.set_1) | exact HI0.out)⟩, ⟨by repeat (first | (with_reducible first | exact HK.out | apply KeepBut.set_ | apply keep_drewN | apply keep_drew | apply keep_alloc) | exact HK.out)⟩, ⟨by repeat (first | (with_reducible first | exact HB.out | apply below_alloc | apply pw_below_drewN | apply below_drew1 | refine below_set ?_ (IsS69.ge HI0.out)) | exact HB.out)⟩⟩
                        case rest =>
                          clear HI0 HK HB
                          clear hnm hji35
                          obtain ⟨rfl, HI0, HK, HB⟩ := hcut
                          go_wp2_with (first | ((with_reducible refine gate_callee (f := 37) rfl ?_); refine goesL_ (some 159) rfl rfl Try.func37 (by kernel_rfl) rfl #[.pointer (some ⟨g, 0, none⟩), .int .i64 7] rfl (by (try simp only [List.map_toArray, List.map_cons, List.map_nil]); first | done | rfl | (simp only [List.length_drop, List.length_take]; rfl)) ?_; (with_reducible refine (spec_l13Rd_pick.calls k g s0_0 s0_1 7 t20038 t20039 w0 _ ?side1 ?side2 A85.out).mono ?_); (case side1 => repeat (first | (with_reducible first | exact HI0.out | apply IsS69.alloc | apply IsS69.drewN | apply IsS69.drew | apply IsS69.set_1) | exact HI0.out)); (case side2 => repeat (first | (with_reducible first | exact HB.out | apply below_alloc | apply pw_below_drewN | apply below_drew1 | refine below_set ?_ (IsS69.ge HI0.out)) | exact HB.out)); rintro e w104 ⟨rfl, hi, hb, hk⟩; refine ⟨_, rfl, ?_⟩; have n0_ := Aside0.mk (KeepBut.trans (by repeat (first | (with_reducible first | exact HK.out | apply KeepBut.set_ | apply keep_drewN | apply keep_drew | apply keep_alloc) | exact HK.out)) hk (.inl rfl)); have n1_ := Aside0.mk (hb); have n2_ := Aside0.mk (hi); clear HK; clear HB; clear HI0; have HK := n0_; have HB := n1_; have HI0 := n2_; clear n0_ n1_ n2_; (try clear hb); (try clear hb2); (try clear hk); (try clear hi)) | ((with_reducible refine gate_callee (f := 40) rfl ?_); refine goesL_ (some 188) rfl rfl Try.func40 (by kernel_rfl) rfl #[.pointer (some ⟨g, 0, none⟩), .int .i64 2, .int .i64 (wrap64 (a2 - 1)), .string a3, .string a4] rfl (by (try simp only [List.map_toArray, List.map_cons, List.map_nil]); first | done | rfl | (simp only [List.length_drop, List.length_take]; rfl)) ?_; (with_reducible refine (ih k (by omega) g s0_0 t20039 2 (wrap64 (a2 - 1)) a3 a4 t20049 t20050 w0 _ ?side1 ?side2 A102.out).mono ?_); (case side1 => repeat (first | (with_reducible first | exact HI0.out | apply IsS69.alloc | apply IsS69.drewN | apply IsS69.drew | apply IsS69.set_1) | exact HI0.out)); (case side2 => repeat (first | (with_reducible first | exact HB.out | apply below_alloc | apply pw_below_drewN | apply below_drew1 | refine below_set ?_ (IsS69.ge HI0.out)) | exact HB.out)); rintro e w105 ⟨rfl, hi, hb, hk⟩; refine ⟨_, rfl, ?_⟩; have n0_ := Aside0.mk (KeepBut.trans (by repeat (first | (with_reducible first | exact HK.out | apply KeepBut.set_ | apply keep_drewN | apply keep_drew | apply keep_alloc) | exact HK.out)) hk (.inl rfl)); have n1_ := Aside0.mk (hb); have n2_ := Aside0.mk (hi); clear HK; clear HB; clear HI0; have HK := n0_; have HB := n1_; have HI0 := n2_; clear n0_ n1_ n2_; (try clear hb); (try clear hb2); (try clear hk); (try clear hi)))
                          all_goals (try (exfalso; omega))
                          go_ret
                          exact ⟨by first | rfl | (simp [errW_none, errW_some] <;> rfl) | (simp [*, errW_none, errW_some] <;> rfl), by repeat (first | (with_reducible first | exact HI0.out | apply IsS69.alloc | apply IsS69.drewN | apply IsS69.drew | apply IsS69.set_1) | exact HI0.out), by repeat (first | (with_reducible first | exact HB.out | apply below_alloc | apply pw_below_drewN | apply below_drew1 | refine below_set ?_ (IsS69.ge HI0.out)) | exact HB.out), by repeat (first | (with_reducible first | exact HK.out | apply KeepBut.set_ | apply keep_drewN | apply keep_drew | apply keep_alloc) | exact HK.out)⟩
                    · rw [if_neg c103] at H
                      exact absurd H (by simp)
                  · rw [if_neg c101] at H
                    have c101b0 : (t20038 == 2) = false := beq_eq_false_iff_ne.mpr c101
                    have c101b1 : (t20038 != 2) = true := bne_iff_ne.mpr c101
                    by_cases c106 : t20038 = 3
                    · rw [if_pos c106] at H
                      have c106b0 : (t20038 == 3) = true := beq_iff_eq.mpr c106
                      have c106b1 : (t20038 != 3) = false := bne_eq_false_iff_eq.mpr c106
                      clear c106
                      by_cases c107 : 1 + nm.size ≤ 9223372036854775807
                      · rw [if_pos c107] at H
                        have c107b0 := eq_true c107
                        have c107b1 : decide (1 + nm.size ≤ 9223372036854775807) = true := decide_eq_true c107
                        try have c107b2 : (9223372036854775807 < 1 + nm.size) = False := eq_false (Nat.not_lt.2 c107)
                        have c107n := c107; (try simp only [ByteArray.size_append, ba1_size] at c107n)
                        by_cases c108 : ((⟨#[123]⟩ : ByteArray) ++ nm).size + 1 ≤ 9223372036854775807
                        · rw [if_pos c108] at H
                          have c108b0 := eq_true c108
                          have c108b1 : decide (((⟨#[123]⟩ : ByteArray) ++ nm).size + 1 ≤ 9223372036854775807) = true := decide_eq_true c108
                          try have c108b2 : (9223372036854775807 < ((⟨#[123]⟩ : ByteArray) ++ nm).size + 1) = False := eq_false (Nat.not_lt.2 c108)
                          have c108n := c108; (try simp only [ByteArray.size_append, ba1_size] at c108n)
                          replace H := Option.bind_eq_some_iff.mp H
                          obtain ⟨⟨t20051, t20052⟩, A1090, H⟩ := H
                          replace H : (if (((⟨#[123]⟩ : ByteArray) ++ nm) ++ (⟨#[58]⟩ : ByteArray)).size + t20051.size ≤ 9223372036854775807 then (if ((((⟨#[123]⟩ : ByteArray) ++ nm) ++ (⟨#[58]⟩ : ByteArray)) ++ t20051).size + 1 ≤ 9223372036854775807 then ((spec_l5Bind.f k a3 nm).bind fun t20053 => ((spec_l5Unbind.f k a4 nm).bind fun t20054 => ((spec_l5Draw.f k s0_0 t20052 0 (wrap64 (a2 - 2)) t20053 t20054).bind fun bt20055 => (if (((((⟨#[123]⟩ : ByteArray) ++ nm) ++ (⟨#[58]⟩ : ByteArray)) ++ t20051) ++ (⟨#[62]⟩ : ByteArray)).size + bt20055.1.size ≤ 9223372036854775807 then (if ((((((⟨#[123]⟩ : ByteArray) ++ nm) ++ (⟨#[58]⟩ : ByteArray)) ++ t20051) ++ (⟨#[62]⟩ : ByteArray)) ++ bt20055.1).size + 1 ≤ 9223372036854775807 then (some (((((((⟨#[123]⟩ : ByteArray) ++ nm) ++ (⟨#[58]⟩ : ByteArray)) ++ t20051) ++ (⟨#[62]⟩ : ByteArray)) ++ bt20055.1) ++ (⟨#[125]⟩ : ByteArray), bt20055.2)) else (none)) else (none))))) else (none)) else (none)) = some (r1, r2) := H
                          have A109 := Aside0.mk A1090
                          clear A1090
                          by_cases c110 : (((⟨#[123]⟩ : ByteArray) ++ nm) ++ (⟨#[58]⟩ : ByteArray)).size + t20051.size ≤ 9223372036854775807
                          · rw [if_pos c110] at H
                            have c110b0 := eq_true c110
                            have c110b1 : decide ((((⟨#[123]⟩ : ByteArray) ++ nm) ++ (⟨#[58]⟩ : ByteArray)).size + t20051.size ≤ 9223372036854775807) = true := decide_eq_true c110
                            try have c110b2 : (9223372036854775807 < (((⟨#[123]⟩ : ByteArray) ++ nm) ++ (⟨#[58]⟩ : ByteArray)).size + t20051.size) = False := eq_false (Nat.not_lt.2 c110)
                            have c110n := c110; (try simp only [ByteArray.size_append, ba1_size] at c110n)
                            by_cases c111 : ((((⟨#[123]⟩ : ByteArray) ++ nm) ++ (⟨#[58]⟩ : ByteArray)) ++ t20051).size + 1 ≤ 9223372036854775807
                            · rw [if_pos c111] at H
                              have c111b0 := eq_true c111
                              have c111b1 : decide (((((⟨#[123]⟩ : ByteArray) ++ nm) ++ (⟨#[58]⟩ : ByteArray)) ++ t20051).size + 1 ≤ 9223372036854775807) = true := decide_eq_true c111
                              try have c111b2 : (9223372036854775807 < ((((⟨#[123]⟩ : ByteArray) ++ nm) ++ (⟨#[58]⟩ : ByteArray)) ++ t20051).size + 1) = False := eq_false (Nat.not_lt.2 c111)
                              have c111n := c111; (try simp only [ByteArray.size_append, ba1_size] at c111n)
                              replace H := Option.bind_eq_some_iff.mp H
                              obtain ⟨t20053, A1120, H⟩ := H
                              replace H : ((spec_l5Unbind.f k a4 nm).bind fun t20054 => ((spec_l5Draw.f k s0_0 t20052 0 (wrap64 (a2 - 2)) t20053 t20054).bind fun bt20055 => (if (((((⟨#[123]⟩ : ByteArray) ++ nm) ++ (⟨#[58]⟩ : ByteArray)) ++ t20051) ++ (⟨#[62]⟩ : ByteArray)).size + bt20055.1.size ≤ 9223372036854775807 then (if ((((((⟨#[123]⟩ : ByteArray) ++ nm) ++ (⟨#[58]⟩ : ByteArray)) ++ t20051) ++ (⟨#[62]⟩ : ByteArray)) ++ bt20055.1).size + 1 ≤ 9223372036854775807 then (some (((((((⟨#[123]⟩ : ByteArray) ++ nm) ++ (⟨#[58]⟩ : ByteArray)) ++ t20051) ++ (⟨#[62]⟩ : ByteArray)) ++ bt20055.1) ++ (⟨#[125]⟩ : ByteArray), bt20055.2)) else (none)) else (none)))) = some (r1, r2) := H
                              have A112 := Aside0.mk A1120
                              clear A1120
                              replace H := Option.bind_eq_some_iff.mp H
                              obtain ⟨t20054, A1130, H⟩ := H
                              replace H : ((spec_l5Draw.f k s0_0 t20052 0 (wrap64 (a2 - 2)) t20053 t20054).bind fun bt20055 => (if (((((⟨#[123]⟩ : ByteArray) ++ nm) ++ (⟨#[58]⟩ : ByteArray)) ++ t20051) ++ (⟨#[62]⟩ : ByteArray)).size + bt20055.1.size ≤ 9223372036854775807 then (if ((((((⟨#[123]⟩ : ByteArray) ++ nm) ++ (⟨#[58]⟩ : ByteArray)) ++ t20051) ++ (⟨#[62]⟩ : ByteArray)) ++ bt20055.1).size + 1 ≤ 9223372036854775807 then (some (((((((⟨#[123]⟩ : ByteArray) ++ nm) ++ (⟨#[58]⟩ : ByteArray)) ++ t20051) ++ (⟨#[62]⟩ : ByteArray)) ++ bt20055.1) ++ (⟨#[125]⟩ : ByteArray), bt20055.2)) else (none)) else (none))) = some (r1, r2) := H
                              have A113 := Aside0.mk A1130
                              clear A1130
                              replace H := Option.bind_eq_some_iff.mp H
                              obtain ⟨⟨t20055, t20056⟩, A1140, H⟩ := H
                              replace H : (if (((((⟨#[123]⟩ : ByteArray) ++ nm) ++ (⟨#[58]⟩ : ByteArray)) ++ t20051) ++ (⟨#[62]⟩ : ByteArray)).size + t20055.size ≤ 9223372036854775807 then (if ((((((⟨#[123]⟩ : ByteArray) ++ nm) ++ (⟨#[58]⟩ : ByteArray)) ++ t20051) ++ (⟨#[62]⟩ : ByteArray)) ++ t20055).size + 1 ≤ 9223372036854775807 then (some (((((((⟨#[123]⟩ : ByteArray) ++ nm) ++ (⟨#[58]⟩ : ByteArray)) ++ t20051) ++ (⟨#[62]⟩ : ByteArray)) ++ t20055) ++ (⟨#[125]⟩ : ByteArray), t20056)) else (none)) else (none)) = some (r1, r2) := H
                              have A114 := Aside0.mk A1140
                              clear A1140
                              by_cases c115 : (((((⟨#[123]⟩ : ByteArray) ++ nm) ++ (⟨#[58]⟩ : ByteArray)) ++ t20051) ++ (⟨#[62]⟩ : ByteArray)).size + t20055.size ≤ 9223372036854775807
                              · rw [if_pos c115] at H
                                have c115b0 := eq_true c115
                                have c115b1 : decide ((((((⟨#[123]⟩ : ByteArray) ++ nm) ++ (⟨#[58]⟩ : ByteArray)) ++ t20051) ++ (⟨#[62]⟩ : ByteArray)).size + t20055.size ≤ 9223372036854775807) = true := decide_eq_true c115
                                try have c115b2 : (9223372036854775807 < (((((⟨#[123]⟩ : ByteArray) ++ nm) ++ (⟨#[58]⟩ : ByteArray)) ++ t20051) ++ (⟨#[62]⟩ : ByteArray)).size + t20055.size) = False := eq_false (Nat.not_lt.2 c115)
                                have c115n := c115; (try simp only [ByteArray.size_append, ba1_size] at c115n)
                                by_cases c116 : ((((((⟨#[123]⟩ : ByteArray) ++ nm) ++ (⟨#[58]⟩ : ByteArray)) ++ t20051) ++ (⟨#[62]⟩ : ByteArray)) ++ t20055).size + 1 ≤ 9223372036854775807
                                · rw [if_pos c116] at H
                                  have c116b0 := eq_true c116
                                  have c116b1 : decide (((((((⟨#[123]⟩ : ByteArray) ++ nm) ++ (⟨#[58]⟩ : ByteArray)) ++ t20051) ++ (⟨#[62]⟩ : ByteArray)) ++ t20055).size + 1 ≤ 9223372036854775807) = true := decide_eq_true c116
                                  try have c116b2 : (9223372036854775807 < ((((((⟨#[123]⟩ : ByteArray) ++ nm) ++ (⟨#[58]⟩ : ByteArray)) ++ t20051) ++ (⟨#[62]⟩ : ByteArray)) ++ t20055).size + 1) = False := eq_false (Nat.not_lt.2 c116)
                                  have c116n := c116; (try simp only [ByteArray.size_append, ba1_size] at c116n)
                                  simp only [Option.some.injEq, Prod.mk.injEq] at H
                                  obtain ⟨rfl, rfl⟩ := H
                                  as_aux_lemma =>
                                    go_enter Try.func40, Try.ntmps40
                                    go_upto_region 13 with (fail)
                                    go_cut [13] (fun v13 wc => v13 = .string nm ∧ Aside0 (IsS69 w0 wc g s0_0 s0_1) ∧ Aside0 (KeepBut w wc g none) ∧ Aside0 (Below w0.heap.size w0 wc))
                                    case first =>
                                      go_wp2
                                      go_meet
                                      case rel => exact ⟨by (subst hnm; subst hji35; first | rfl | (simp; done) | (simp [*]; done)), ⟨by repeat (first | (with_reducible first | exact HI0.out | apply IsS69.alloc | apply IsS69.drewN | apply IsS69.drew | apply IsS69.set_1) | exact HI0.out)⟩, ⟨by repeat (first | (with_reducible first | exact HK.out | apply KeepBut.set_ | apply keep_drewN | apply keep_drew | apply keep_alloc) | exact HK.out)⟩, ⟨by repeat (first | (with_reducible first | exact HB.out | apply below_alloc | apply pw_below_drewN | apply below_drew1 | refine below_set ?_ (IsS69.ge HI0.out)) | exact HB.out)⟩⟩
                                    case rest =>
                                      clear HI0 HK HB
                                      clear hnm hji35
                                      obtain ⟨rfl, HI0, HK, HB⟩ := hcut
                                      go_wp2_with (first | ((with_reducible refine gate_callee (f := 37) rfl ?_); refine goesL_ (some 159) rfl rfl Try.func37 (by kernel_rfl) rfl #[.pointer (some ⟨g, 0, none⟩), .int .i64 7] rfl (by (try simp only [List.map_toArray, List.map_cons, List.map_nil]); first | done | rfl | (simp only [List.length_drop, List.length_take]; rfl)) ?_; (with_reducible refine (spec_l13Rd_pick.calls k g s0_0 s0_1 7 t20038 t20039 w0 _ ?side1 ?side2 A85.out).mono ?_); (case side1 => repeat (first | (with_reducible first | exact HI0.out | apply IsS69.alloc | apply IsS69.drewN | apply IsS69.drew | apply IsS69.set_1) | exact HI0.out)); (case side2 => repeat (first | (with_reducible first | exact HB.out | apply below_alloc | apply pw_below_drewN | apply below_drew1 | refine below_set ?_ (IsS69.ge HI0.out)) | exact HB.out)); rintro e w117 ⟨rfl, hi, hb, hk⟩; refine ⟨_, rfl, ?_⟩; have n0_ := Aside0.mk (KeepBut.trans (by repeat (first | (with_reducible first | exact HK.out | apply KeepBut.set_ | apply keep_drewN | apply keep_drew | apply keep_alloc) | exact HK.out)) hk (.inl rfl)); have n1_ := Aside0.mk (hb); have n2_ := Aside0.mk (hi); clear HK; clear HB; clear HI0; have HK := n0_; have HB := n1_; have HI0 := n2_; clear n0_ n1_ n2_; (try clear hb); (try clear hb2); (try clear hk); (try clear hi)) | ((with_reducible refine gate_callee (f := 40) rfl ?_); refine goesL_ (some 200) rfl rfl Try.func40 (by kernel_rfl) rfl #[.pointer (some ⟨g, 0, none⟩), .int .i64 1, .int .i64 (wrap64 (a2 - 2)), .string a3, .string a4] rfl (by (try simp only [List.map_toArray, List.map_cons, List.map_nil]); first | done | rfl | (simp only [List.length_drop, List.length_take]; rfl)) ?_; (with_reducible refine (ih k (by omega) g s0_0 t20039 1 (wrap64 (a2 - 2)) a3 a4 t20051 t20052 w0 _ ?side1 ?side2 A109.out).mono ?_); (case side1 => repeat (first | (with_reducible first | exact HI0.out | apply IsS69.alloc | apply IsS69.drewN | apply IsS69.drew | apply IsS69.set_1) | exact HI0.out)); (case side2 => repeat (first | (with_reducible first | exact HB.out | apply below_alloc | apply pw_below_drewN | apply below_drew1 | refine below_set ?_ (IsS69.ge HI0.out)) | exact HB.out)); rintro e w118 ⟨rfl, hi, hb, hk⟩; refine ⟨_, rfl, ?_⟩; have n0_ := Aside0.mk (KeepBut.trans (by repeat (first | (with_reducible first | exact HK.out | apply KeepBut.set_ | apply keep_drewN | apply keep_drew | apply keep_alloc) | exact HK.out)) hk (.inl rfl)); have n1_ := Aside0.mk (hb); have n2_ := Aside0.mk (hi); clear HK; clear HB; clear HI0; have HK := n0_; have HB := n1_; have HI0 := n2_; clear n0_ n1_ n2_; (try clear hb); (try clear hb2); (try clear hk); (try clear hi)) | ((with_reducible refine gate_callee (f := 58) rfl ?_); refine goesL_ (some 208) rfl rfl Try.func58 (by kernel_rfl) rfl #[.string a3, .string nm] rfl (by (try simp only [List.map_toArray, List.map_cons, List.map_nil]); first | done | (simp only [hji35]; rfl) | rfl | (simp only [List.length_drop, List.length_take]; rfl)) ?_; (with_reducible refine (spec_l5Bind.calls k a3 nm t20053 _ A112.out).mono ?_); rintro e w' ⟨rfl, ⟨nd, rfl⟩⟩; refine ⟨_, rfl, ?_⟩) | ((with_reducible refine gate_callee (f := 59) rfl ?_); refine goesL_ (some 211) rfl rfl Try.func59 (by kernel_rfl) rfl #[.string a4, .string nm] rfl (by (try simp only [List.map_toArray, List.map_cons, List.map_nil]); first | done | (simp only [hji35]; rfl) | rfl | (simp only [List.length_drop, List.length_take]; rfl)) ?_; (with_reducible refine (spec_l5Unbind.calls k a4 nm t20054 _ A113.out).mono ?_); rintro e w' ⟨rfl, ⟨nd, rfl⟩⟩; refine ⟨_, rfl, ?_⟩) | ((with_reducible refine gate_callee (f := 40) rfl ?_); refine goesL_ (some 212) rfl rfl Try.func40 (by kernel_rfl) rfl #[.pointer (some ⟨g, 0, none⟩), .int .i64 0, .int .i64 (wrap64 (a2 - 2)), .string t20053, .string t20054] rfl (by (try simp only [List.map_toArray, List.map_cons, List.map_nil]); first | done | rfl | (simp only [List.length_drop, List.length_take]; rfl)) ?_; (with_reducible refine (ih k (by omega) g s0_0 t20052 0 (wrap64 (a2 - 2)) t20053 t20054 t20055 t20056 w0 _ ?side1 ?side2 A114.out).mono ?_); (case side1 => repeat (first | (with_reducible first | exact HI0.out | apply IsS69.alloc | apply IsS69.drewN | apply IsS69.drew | apply IsS69.set_1) | exact HI0.out)); (case side2 => repeat (first | (with_reducible first | exact HB.out | apply below_alloc | apply pw_below_drewN | apply below_drew1 | refine below_set ?_ (IsS69.ge HI0.out)) | exact HB.out)); rintro e w119 ⟨rfl, hi, hb, hk⟩; refine ⟨_, rfl, ?_⟩; have n0_ := Aside0.mk (KeepBut.trans (by repeat (first | (with_reducible first | exact HK.out | apply KeepBut.set_ | apply keep_drewN | apply keep_drew | apply keep_alloc) | exact HK.out)) hk (.inl rfl)); have n1_ := Aside0.mk (hb); have n2_ := Aside0.mk (hi); clear HK; clear HB; clear HI0; have HK := n0_; have HB := n1_; have HI0 := n2_; clear n0_ n1_ n2_; (try clear hb); (try clear hb2); (try clear hk); (try clear hi)))
                                      all_goals (try (exfalso; omega))
                                      go_ret
                                      exact ⟨by first | rfl | (simp [errW_none, errW_some] <;> rfl) | (simp [*, errW_none, errW_some] <;> rfl), by repeat (first | (with_reducible first | exact HI0.out | apply IsS69.alloc | apply IsS69.drewN | apply IsS69.drew | apply IsS69.set_1) | exact HI0.out), by repeat (first | (with_reducible first | exact HB.out | apply below_alloc | apply pw_below_drewN | apply below_drew1 | refine below_set ?_ (IsS69.ge HI0.out)) | exact HB.out), by repeat (first | (with_reducible first | exact HK.out | apply KeepBut.set_ | apply keep_drewN | apply keep_drew | apply keep_alloc) | exact HK.out)⟩
                                · rw [if_neg c116] at H
                                  exact absurd H (by simp)
                              · rw [if_neg c115] at H
                                exact absurd H (by simp)
                            · rw [if_neg c111] at H
                              exact absurd H (by simp)
                          · rw [if_neg c110] at H
                            exact absurd H (by simp)
                        · rw [if_neg c108] at H
                          exact absurd H (by simp)
                      · rw [if_neg c107] at H
                        exact absurd H (by simp)
                    · rw [if_neg c106] at H
                      have c106b0 : (t20038 == 3) = false := beq_eq_false_iff_ne.mpr c106
                      have c106b1 : (t20038 != 3) = true := bne_iff_ne.mpr c106
                      by_cases c120 : t20038 = 4
                      · rw [if_pos c120] at H
                        have c120b0 : (t20038 == 4) = true := beq_iff_eq.mpr c120
                        have c120b1 : (t20038 != 4) = false := bne_eq_false_iff_eq.mpr c120
                        clear c120
                        by_cases c121 : 1 + nm.size ≤ 9223372036854775807
                        · rw [if_pos c121] at H
                          have c121b0 := eq_true c121
                          have c121b1 : decide (1 + nm.size ≤ 9223372036854775807) = true := decide_eq_true c121
                          try have c121b2 : (9223372036854775807 < 1 + nm.size) = False := eq_false (Nat.not_lt.2 c121)
                          have c121n := c121; (try simp only [ByteArray.size_append, ba1_size] at c121n)
                          by_cases c122 : ((⟨#[91]⟩ : ByteArray) ++ nm).size + 1 ≤ 9223372036854775807
                          · rw [if_pos c122] at H
                            have c122b0 := eq_true c122
                            have c122b1 : decide (((⟨#[91]⟩ : ByteArray) ++ nm).size + 1 ≤ 9223372036854775807) = true := decide_eq_true c122
                            try have c122b2 : (9223372036854775807 < ((⟨#[91]⟩ : ByteArray) ++ nm).size + 1) = False := eq_false (Nat.not_lt.2 c122)
                            have c122n := c122; (try simp only [ByteArray.size_append, ba1_size] at c122n)
                            replace H := Option.bind_eq_some_iff.mp H
                            obtain ⟨⟨t20057, t20058⟩, A1230, H⟩ := H
                            replace H : (if (((⟨#[91]⟩ : ByteArray) ++ nm) ++ (⟨#[58]⟩ : ByteArray)).size + t20057.size ≤ 9223372036854775807 then (if ((((⟨#[91]⟩ : ByteArray) ++ nm) ++ (⟨#[58]⟩ : ByteArray)) ++ t20057).size + 1 ≤ 9223372036854775807 then ((spec_l5Unbind.f k a3 nm).bind fun t20059 => ((spec_l5Bind.f k a4 nm).bind fun t20060 => ((spec_l5Draw.f k s0_0 t20058 0 (wrap64 (a2 - 2)) t20059 t20060).bind fun bt20061 => (if (((((⟨#[91]⟩ : ByteArray) ++ nm) ++ (⟨#[58]⟩ : ByteArray)) ++ t20057) ++ (⟨#[62]⟩ : ByteArray)).size + bt20061.1.size ≤ 9223372036854775807 then (if ((((((⟨#[91]⟩ : ByteArray) ++ nm) ++ (⟨#[58]⟩ : ByteArray)) ++ t20057) ++ (⟨#[62]⟩ : ByteArray)) ++ bt20061.1).size + 1 ≤ 9223372036854775807 then (some (((((((⟨#[91]⟩ : ByteArray) ++ nm) ++ (⟨#[58]⟩ : ByteArray)) ++ t20057) ++ (⟨#[62]⟩ : ByteArray)) ++ bt20061.1) ++ (⟨#[93]⟩ : ByteArray), bt20061.2)) else (none)) else (none))))) else (none)) else (none)) = some (r1, r2) := H
                            have A123 := Aside0.mk A1230
                            clear A1230
                            by_cases c124 : (((⟨#[91]⟩ : ByteArray) ++ nm) ++ (⟨#[58]⟩ : ByteArray)).size + t20057.size ≤ 9223372036854775807
                            · rw [if_pos c124] at H
                              have c124b0 := eq_true c124
                              have c124b1 : decide ((((⟨#[91]⟩ : ByteArray) ++ nm) ++ (⟨#[58]⟩ : ByteArray)).size + t20057.size ≤ 9223372036854775807) = true := decide_eq_true c124
                              try have c124b2 : (9223372036854775807 < (((⟨#[91]⟩ : ByteArray) ++ nm) ++ (⟨#[58]⟩ : ByteArray)).size + t20057.size) = False := eq_false (Nat.not_lt.2 c124)
                              have c124n := c124; (try simp only [ByteArray.size_append, ba1_size] at c124n)
                              by_cases c125 : ((((⟨#[91]⟩ : ByteArray) ++ nm) ++ (⟨#[58]⟩ : ByteArray)) ++ t20057).size + 1 ≤ 9223372036854775807
                              · rw [if_pos c125] at H
                                have c125b0 := eq_true c125
                                have c125b1 : decide (((((⟨#[91]⟩ : ByteArray) ++ nm) ++ (⟨#[58]⟩ : ByteArray)) ++ t20057).size + 1 ≤ 9223372036854775807) = true := decide_eq_true c125
                                try have c125b2 : (9223372036854775807 < ((((⟨#[91]⟩ : ByteArray) ++ nm) ++ (⟨#[58]⟩ : ByteArray)) ++ t20057).size + 1) = False := eq_false (Nat.not_lt.2 c125)
                                have c125n := c125; (try simp only [ByteArray.size_append, ba1_size] at c125n)
                                replace H := Option.bind_eq_some_iff.mp H
                                obtain ⟨t20059, A1260, H⟩ := H
                                replace H : ((spec_l5Bind.f k a4 nm).bind fun t20060 => ((spec_l5Draw.f k s0_0 t20058 0 (wrap64 (a2 - 2)) t20059 t20060).bind fun bt20061 => (if (((((⟨#[91]⟩ : ByteArray) ++ nm) ++ (⟨#[58]⟩ : ByteArray)) ++ t20057) ++ (⟨#[62]⟩ : ByteArray)).size + bt20061.1.size ≤ 9223372036854775807 then (if ((((((⟨#[91]⟩ : ByteArray) ++ nm) ++ (⟨#[58]⟩ : ByteArray)) ++ t20057) ++ (⟨#[62]⟩ : ByteArray)) ++ bt20061.1).size + 1 ≤ 9223372036854775807 then (some (((((((⟨#[91]⟩ : ByteArray) ++ nm) ++ (⟨#[58]⟩ : ByteArray)) ++ t20057) ++ (⟨#[62]⟩ : ByteArray)) ++ bt20061.1) ++ (⟨#[93]⟩ : ByteArray), bt20061.2)) else (none)) else (none)))) = some (r1, r2) := H
                                have A126 := Aside0.mk A1260
                                clear A1260
                                replace H := Option.bind_eq_some_iff.mp H
                                obtain ⟨t20060, A1270, H⟩ := H
                                replace H : ((spec_l5Draw.f k s0_0 t20058 0 (wrap64 (a2 - 2)) t20059 t20060).bind fun bt20061 => (if (((((⟨#[91]⟩ : ByteArray) ++ nm) ++ (⟨#[58]⟩ : ByteArray)) ++ t20057) ++ (⟨#[62]⟩ : ByteArray)).size + bt20061.1.size ≤ 9223372036854775807 then (if ((((((⟨#[91]⟩ : ByteArray) ++ nm) ++ (⟨#[58]⟩ : ByteArray)) ++ t20057) ++ (⟨#[62]⟩ : ByteArray)) ++ bt20061.1).size + 1 ≤ 9223372036854775807 then (some (((((((⟨#[91]⟩ : ByteArray) ++ nm) ++ (⟨#[58]⟩ : ByteArray)) ++ t20057) ++ (⟨#[62]⟩ : ByteArray)) ++ bt20061.1) ++ (⟨#[93]⟩ : ByteArray), bt20061.2)) else (none)) else (none))) = some (r1, r2) := H
                                have A127 := Aside0.mk A1270
                                clear A1270
                                replace H := Option.bind_eq_some_iff.mp H
                                obtain ⟨⟨t20061, t20062⟩, A1280, H⟩ := H
                                replace H : (if (((((⟨#[91]⟩ : ByteArray) ++ nm) ++ (⟨#[58]⟩ : ByteArray)) ++ t20057) ++ (⟨#[62]⟩ : ByteArray)).size + t20061.size ≤ 9223372036854775807 then (if ((((((⟨#[91]⟩ : ByteArray) ++ nm) ++ (⟨#[58]⟩ : ByteArray)) ++ t20057) ++ (⟨#[62]⟩ : ByteArray)) ++ t20061).size + 1 ≤ 9223372036854775807 then (some (((((((⟨#[91]⟩ : ByteArray) ++ nm) ++ (⟨#[58]⟩ : ByteArray)) ++ t20057) ++ (⟨#[62]⟩ : ByteArray)) ++ t20061) ++ (⟨#[93]⟩ : ByteArray), t20062)) else (none)) else (none)) = some (r1, r2) := H
                                have A128 := Aside0.mk A1280
                                clear A1280
                                by_cases c129 : (((((⟨#[91]⟩ : ByteArray) ++ nm) ++ (⟨#[58]⟩ : ByteArray)) ++ t20057) ++ (⟨#[62]⟩ : ByteArray)).size + t20061.size ≤ 9223372036854775807
                                · rw [if_pos c129] at H
                                  have c129b0 := eq_true c129
                                  have c129b1 : decide ((((((⟨#[91]⟩ : ByteArray) ++ nm) ++ (⟨#[58]⟩ : ByteArray)) ++ t20057) ++ (⟨#[62]⟩ : ByteArray)).size + t20061.size ≤ 9223372036854775807) = true := decide_eq_true c129
                                  try have c129b2 : (9223372036854775807 < (((((⟨#[91]⟩ : ByteArray) ++ nm) ++ (⟨#[58]⟩ : ByteArray)) ++ t20057) ++ (⟨#[62]⟩ : ByteArray)).size + t20061.size) = False := eq_false (Nat.not_lt.2 c129)
                                  have c129n := c129; (try simp only [ByteArray.size_append, ba1_size] at c129n)
                                  by_cases c130 : ((((((⟨#[91]⟩ : ByteArray) ++ nm) ++ (⟨#[58]⟩ : ByteArray)) ++ t20057) ++ (⟨#[62]⟩ : ByteArray)) ++ t20061).size + 1 ≤ 9223372036854775807
                                  · rw [if_pos c130] at H
                                    have c130b0 := eq_true c130
                                    have c130b1 : decide (((((((⟨#[91]⟩ : ByteArray) ++ nm) ++ (⟨#[58]⟩ : ByteArray)) ++ t20057) ++ (⟨#[62]⟩ : ByteArray)) ++ t20061).size + 1 ≤ 9223372036854775807) = true := decide_eq_true c130
                                    try have c130b2 : (9223372036854775807 < ((((((⟨#[91]⟩ : ByteArray) ++ nm) ++ (⟨#[58]⟩ : ByteArray)) ++ t20057) ++ (⟨#[62]⟩ : ByteArray)) ++ t20061).size + 1) = False := eq_false (Nat.not_lt.2 c130)
                                    have c130n := c130; (try simp only [ByteArray.size_append, ba1_size] at c130n)
                                    simp only [Option.some.injEq, Prod.mk.injEq] at H
                                    obtain ⟨rfl, rfl⟩ := H
                                    as_aux_lemma =>
                                      go_enter Try.func40, Try.ntmps40
                                      go_upto_region 13 with (fail)
                                      go_cut [13] (fun v13 wc => v13 = .string nm ∧ Aside0 (IsS69 w0 wc g s0_0 s0_1) ∧ Aside0 (KeepBut w wc g none) ∧ Aside0 (Below w0.heap.size w0 wc))
                                      case first =>
                                        go_wp2
                                        go_meet
                                        case rel => exact ⟨by (subst hnm; subst hji35; first | rfl | (simp; done) | (simp [*]; done)), ⟨by repeat (first | (with_reducible first | exact HI0.out | apply IsS69.alloc | apply IsS69.drewN | apply IsS69.drew | apply IsS69.set_1) | exact HI0.out)⟩, ⟨by repeat (first | (with_reducible first | exact HK.out | apply KeepBut.set_ | apply keep_drewN | apply keep_drew | apply keep_alloc) | exact HK.out)⟩, ⟨by repeat (first | (with_reducible first | exact HB.out | apply below_alloc | apply pw_below_drewN | apply below_drew1 | refine below_set ?_ (IsS69.ge HI0.out)) | exact HB.out)⟩⟩
                                      case rest =>
                                        clear HI0 HK HB
                                        clear hnm hji35
                                        obtain ⟨rfl, HI0, HK, HB⟩ := hcut
                                        go_wp2_with (first | ((with_reducible refine gate_callee (f := 37) rfl ?_); refine goesL_ (some 159) rfl rfl Try.func37 (by kernel_rfl) rfl #[.pointer (some ⟨g, 0, none⟩), .int .i64 7] rfl (by (try simp only [List.map_toArray, List.map_cons, List.map_nil]); first | done | rfl | (simp only [List.length_drop, List.length_take]; rfl)) ?_; (with_reducible refine (spec_l13Rd_pick.calls k g s0_0 s0_1 7 t20038 t20039 w0 _ ?side1 ?side2 A85.out).mono ?_); (case side1 => repeat (first | (with_reducible first | exact HI0.out | apply IsS69.alloc | apply IsS69.drewN | apply IsS69.drew | apply IsS69.set_1) | exact HI0.out)); (case side2 => repeat (first | (with_reducible first | exact HB.out | apply below_alloc | apply pw_below_drewN | apply below_drew1 | refine below_set ?_ (IsS69.ge HI0.out)) | exact HB.out)); rintro e w131 ⟨rfl, hi, hb, hk⟩; refine ⟨_, rfl, ?_⟩; have n0_ := Aside0.mk (KeepBut.trans (by repeat (first | (with_reducible first | exact HK.out | apply KeepBut.set_ | apply keep_drewN | apply keep_drew | apply keep_alloc) | exact HK.out)) hk (.inl rfl)); have n1_ := Aside0.mk (hb); have n2_ := Aside0.mk (hi); clear HK; clear HB; clear HI0; have HK := n0_; have HB := n1_; have HI0 := n2_; clear n0_ n1_ n2_; (try clear hb); (try clear hb2); (try clear hk); (try clear hi)) | ((with_reducible refine gate_callee (f := 40) rfl ?_); refine goesL_ (some 225) rfl rfl Try.func40 (by kernel_rfl) rfl #[.pointer (some ⟨g, 0, none⟩), .int .i64 2, .int .i64 (wrap64 (a2 - 2)), .string a3, .string a4] rfl (by (try simp only [List.map_toArray, List.map_cons, List.map_nil]); first | done | rfl | (simp only [List.length_drop, List.length_take]; rfl)) ?_; (with_reducible refine (ih k (by omega) g s0_0 t20039 2 (wrap64 (a2 - 2)) a3 a4 t20057 t20058 w0 _ ?side1 ?side2 A123.out).mono ?_); (case side1 => repeat (first | (with_reducible first | exact HI0.out | apply IsS69.alloc | apply IsS69.drewN | apply IsS69.drew | apply IsS69.set_1) | exact HI0.out)); (case side2 => repeat (first | (with_reducible first | exact HB.out | apply below_alloc | apply pw_below_drewN | apply below_drew1 | refine below_set ?_ (IsS69.ge HI0.out)) | exact HB.out)); rintro e w132 ⟨rfl, hi, hb, hk⟩; refine ⟨_, rfl, ?_⟩; have n0_ := Aside0.mk (KeepBut.trans (by repeat (first | (with_reducible first | exact HK.out | apply KeepBut.set_ | apply keep_drewN | apply keep_drew | apply keep_alloc) | exact HK.out)) hk (.inl rfl)); have n1_ := Aside0.mk (hb); have n2_ := Aside0.mk (hi); clear HK; clear HB; clear HI0; have HK := n0_; have HB := n1_; have HI0 := n2_; clear n0_ n1_ n2_; (try clear hb); (try clear hb2); (try clear hk); (try clear hi)) | ((with_reducible refine gate_callee (f := 59) rfl ?_); refine goesL_ (some 233) rfl rfl Try.func59 (by kernel_rfl) rfl #[.string a3, .string nm] rfl (by (try simp only [List.map_toArray, List.map_cons, List.map_nil]); first | done | (simp only [hji35]; rfl) | rfl | (simp only [List.length_drop, List.length_take]; rfl)) ?_; (with_reducible refine (spec_l5Unbind.calls k a3 nm t20059 _ A126.out).mono ?_); rintro e w' ⟨rfl, ⟨nd, rfl⟩⟩; refine ⟨_, rfl, ?_⟩) | ((with_reducible refine gate_callee (f := 58) rfl ?_); refine goesL_ (some 236) rfl rfl Try.func58 (by kernel_rfl) rfl #[.string a4, .string nm] rfl (by (try simp only [List.map_toArray, List.map_cons, List.map_nil]); first | done | (simp only [hji35]; rfl) | rfl | (simp only [List.length_drop, List.length_take]; rfl)) ?_; (with_reducible refine (spec_l5Bind.calls k a4 nm t20060 _ A127.out).mono ?_); rintro e w' ⟨rfl, ⟨nd, rfl⟩⟩; refine ⟨_, rfl, ?_⟩) | ((with_reducible refine gate_callee (f := 40) rfl ?_); refine goesL_ (some 237) rfl rfl Try.func40 (by kernel_rfl) rfl #[.pointer (some ⟨g, 0, none⟩), .int .i64 0, .int .i64 (wrap64 (a2 - 2)), .string t20059, .string t20060] rfl (by (try simp only [List.map_toArray, List.map_cons, List.map_nil]); first | done | rfl | (simp only [List.length_drop, List.length_take]; rfl)) ?_; (with_reducible refine (ih k (by omega) g s0_0 t20058 0 (wrap64 (a2 - 2)) t20059 t20060 t20061 t20062 w0 _ ?side1 ?side2 A128.out).mono ?_); (case side1 => repeat (first | (with_reducible first | exact HI0.out | apply IsS69.alloc | apply IsS69.drewN | apply IsS69.drew | apply IsS69.set_1) | exact HI0.out)); (case side2 => repeat (first | (with_reducible first | exact HB.out | apply below_alloc | apply pw_below_drewN | apply below_drew1 | refine below_set ?_ (IsS69.ge HI0.out)) | exact HB.out)); rintro e w133 ⟨rfl, hi, hb, hk⟩; refine ⟨_, rfl, ?_⟩; have n0_ := Aside0.mk (KeepBut.trans (by repeat (first | (with_reducible first | exact HK.out | apply KeepBut.set_ | apply keep_drewN | apply keep_drew | apply keep_alloc) | exact HK.out)) hk (.inl rfl)); have n1_ := Aside0.mk (hb); have n2_ := Aside0.mk (hi); clear HK; clear HB; clear HI0; have HK := n0_; have HB := n1_; have HI0 := n2_; clear n0_ n1_ n2_; (try clear hb); (try clear hb2); (try clear hk); (try clear hi)))
                                        all_goals (try (exfalso; omega))
                                        go_ret
                                        exact ⟨by first | rfl | (simp [errW_none, errW_some] <;> rfl) | (simp [*, errW_none, errW_some] <;> rfl), by repeat (first | (with_reducible first | exact HI0.out | apply IsS69.alloc | apply IsS69.drewN | apply IsS69.drew | apply IsS69.set_1) | exact HI0.out), by repeat (first | (with_reducible first | exact HB.out | apply below_alloc | apply pw_below_drewN | apply below_drew1 | refine below_set ?_ (IsS69.ge HI0.out)) | exact HB.out), by repeat (first | (with_reducible first | exact HK.out | apply KeepBut.set_ | apply keep_drewN | apply keep_drew | apply keep_alloc) | exact HK.out)⟩
                                  · rw [if_neg c130] at H
                                    exact absurd H (by simp)
                                · rw [if_neg c129] at H
                                  exact absurd H (by simp)
                              · rw [if_neg c125] at H
                                exact absurd H (by simp)
                            · rw [if_neg c124] at H
                              exact absurd H (by simp)
                          · rw [if_neg c122] at H
                            exact absurd H (by simp)
                        · rw [if_neg c121] at H
                          exact absurd H (by simp)
                      · rw [if_neg c120] at H
                        have c120b0 : (t20038 == 4) = false := beq_eq_false_iff_ne.mpr c120
                        have c120b1 : (t20038 != 4) = true := bne_iff_ne.mpr c120
                        by_cases c134 : 1 + nm.size ≤ 9223372036854775807
                        · rw [if_pos c134] at H
                          have c134b0 := eq_true c134
                          have c134b1 : decide (1 + nm.size ≤ 9223372036854775807) = true := decide_eq_true c134
                          try have c134b2 : (9223372036854775807 < 1 + nm.size) = False := eq_false (Nat.not_lt.2 c134)
                          have c134n := c134; (try simp only [ByteArray.size_append, ba1_size] at c134n)
                          by_cases c135 : ((⟨#[91]⟩ : ByteArray) ++ nm).size + 1 ≤ 9223372036854775807
                          · rw [if_pos c135] at H
                            have c135b0 := eq_true c135
                            have c135b1 : decide (((⟨#[91]⟩ : ByteArray) ++ nm).size + 1 ≤ 9223372036854775807) = true := decide_eq_true c135
                            try have c135b2 : (9223372036854775807 < ((⟨#[91]⟩ : ByteArray) ++ nm).size + 1) = False := eq_false (Nat.not_lt.2 c135)
                            have c135n := c135; (try simp only [ByteArray.size_append, ba1_size] at c135n)
                            replace H := Option.bind_eq_some_iff.mp H
                            obtain ⟨⟨t20063, t20064⟩, A1360, H⟩ := H
                            replace H : (if (((⟨#[91]⟩ : ByteArray) ++ nm) ++ (⟨#[58]⟩ : ByteArray)).size + t20063.size ≤ 9223372036854775807 then (if ((((⟨#[91]⟩ : ByteArray) ++ nm) ++ (⟨#[58]⟩ : ByteArray)) ++ t20063).size + 1 ≤ 9223372036854775807 then ((spec_l5Bind.f k a3 nm).bind fun t20065 => ((spec_l5Unbind.f k a4 nm).bind fun t20066 => ((spec_l5Draw.f k s0_0 t20064 0 (wrap64 (a2 - 2)) t20065 t20066).bind fun bt20067 => (if (((((⟨#[91]⟩ : ByteArray) ++ nm) ++ (⟨#[58]⟩ : ByteArray)) ++ t20063) ++ (⟨#[62]⟩ : ByteArray)).size + bt20067.1.size ≤ 9223372036854775807 then (if ((((((⟨#[91]⟩ : ByteArray) ++ nm) ++ (⟨#[58]⟩ : ByteArray)) ++ t20063) ++ (⟨#[62]⟩ : ByteArray)) ++ bt20067.1).size + 1 ≤ 9223372036854775807 then (some (((((((⟨#[91]⟩ : ByteArray) ++ nm) ++ (⟨#[58]⟩ : ByteArray)) ++ t20063) ++ (⟨#[62]⟩ : ByteArray)) ++ bt20067.1) ++ (⟨#[93]⟩ : ByteArray), bt20067.2)) else (none)) else (none))))) else (none)) else (none)) = some (r1, r2) := H
                            have A136 := Aside0.mk A1360
                            clear A1360
                            by_cases c137 : (((⟨#[91]⟩ : ByteArray) ++ nm) ++ (⟨#[58]⟩ : ByteArray)).size + t20063.size ≤ 9223372036854775807
                            · rw [if_pos c137] at H
                              have c137b0 := eq_true c137
                              have c137b1 : decide ((((⟨#[91]⟩ : ByteArray) ++ nm) ++ (⟨#[58]⟩ : ByteArray)).size + t20063.size ≤ 9223372036854775807) = true := decide_eq_true c137
                              try have c137b2 : (9223372036854775807 < (((⟨#[91]⟩ : ByteArray) ++ nm) ++ (⟨#[58]⟩ : ByteArray)).size + t20063.size) = False := eq_false (Nat.not_lt.2 c137)
                              have c137n := c137; (try simp only [ByteArray.size_append, ba1_size] at c137n)
                              by_cases c138 : ((((⟨#[91]⟩ : ByteArray) ++ nm) ++ (⟨#[58]⟩ : ByteArray)) ++ t20063).size + 1 ≤ 9223372036854775807
                              · rw [if_pos c138] at H
                                have c138b0 := eq_true c138
                                have c138b1 : decide (((((⟨#[91]⟩ : ByteArray) ++ nm) ++ (⟨#[58]⟩ : ByteArray)) ++ t20063).size + 1 ≤ 9223372036854775807) = true := decide_eq_true c138
                                try have c138b2 : (9223372036854775807 < ((((⟨#[91]⟩ : ByteArray) ++ nm) ++ (⟨#[58]⟩ : ByteArray)) ++ t20063).size + 1) = False := eq_false (Nat.not_lt.2 c138)
                                have c138n := c138; (try simp only [ByteArray.size_append, ba1_size] at c138n)
                                replace H := Option.bind_eq_some_iff.mp H
                                obtain ⟨t20065, A1390, H⟩ := H
                                replace H : ((spec_l5Unbind.f k a4 nm).bind fun t20066 => ((spec_l5Draw.f k s0_0 t20064 0 (wrap64 (a2 - 2)) t20065 t20066).bind fun bt20067 => (if (((((⟨#[91]⟩ : ByteArray) ++ nm) ++ (⟨#[58]⟩ : ByteArray)) ++ t20063) ++ (⟨#[62]⟩ : ByteArray)).size + bt20067.1.size ≤ 9223372036854775807 then (if ((((((⟨#[91]⟩ : ByteArray) ++ nm) ++ (⟨#[58]⟩ : ByteArray)) ++ t20063) ++ (⟨#[62]⟩ : ByteArray)) ++ bt20067.1).size + 1 ≤ 9223372036854775807 then (some (((((((⟨#[91]⟩ : ByteArray) ++ nm) ++ (⟨#[58]⟩ : ByteArray)) ++ t20063) ++ (⟨#[62]⟩ : ByteArray)) ++ bt20067.1) ++ (⟨#[93]⟩ : ByteArray), bt20067.2)) else (none)) else (none)))) = some (r1, r2) := H
                                have A139 := Aside0.mk A1390
                                clear A1390
                                replace H := Option.bind_eq_some_iff.mp H
                                obtain ⟨t20066, A1400, H⟩ := H
                                replace H : ((spec_l5Draw.f k s0_0 t20064 0 (wrap64 (a2 - 2)) t20065 t20066).bind fun bt20067 => (if (((((⟨#[91]⟩ : ByteArray) ++ nm) ++ (⟨#[58]⟩ : ByteArray)) ++ t20063) ++ (⟨#[62]⟩ : ByteArray)).size + bt20067.1.size ≤ 9223372036854775807 then (if ((((((⟨#[91]⟩ : ByteArray) ++ nm) ++ (⟨#[58]⟩ : ByteArray)) ++ t20063) ++ (⟨#[62]⟩ : ByteArray)) ++ bt20067.1).size + 1 ≤ 9223372036854775807 then (some (((((((⟨#[91]⟩ : ByteArray) ++ nm) ++ (⟨#[58]⟩ : ByteArray)) ++ t20063) ++ (⟨#[62]⟩ : ByteArray)) ++ bt20067.1) ++ (⟨#[93]⟩ : ByteArray), bt20067.2)) else (none)) else (none))) = some (r1, r2) := H
                                have A140 := Aside0.mk A1400
                                clear A1400
                                replace H := Option.bind_eq_some_iff.mp H
                                obtain ⟨⟨t20067, t20068⟩, A1410, H⟩ := H
                                replace H : (if (((((⟨#[91]⟩ : ByteArray) ++ nm) ++ (⟨#[58]⟩ : ByteArray)) ++ t20063) ++ (⟨#[62]⟩ : ByteArray)).size + t20067.size ≤ 9223372036854775807 then (if ((((((⟨#[91]⟩ : ByteArray) ++ nm) ++ (⟨#[58]⟩ : ByteArray)) ++ t20063) ++ (⟨#[62]⟩ : ByteArray)) ++ t20067).size + 1 ≤ 9223372036854775807 then (some (((((((⟨#[91]⟩ : ByteArray) ++ nm) ++ (⟨#[58]⟩ : ByteArray)) ++ t20063) ++ (⟨#[62]⟩ : ByteArray)) ++ t20067) ++ (⟨#[93]⟩ : ByteArray), t20068)) else (none)) else (none)) = some (r1, r2) := H
                                have A141 := Aside0.mk A1410
                                clear A1410
                                by_cases c142 : (((((⟨#[91]⟩ : ByteArray) ++ nm) ++ (⟨#[58]⟩ : ByteArray)) ++ t20063) ++ (⟨#[62]⟩ : ByteArray)).size + t20067.size ≤ 9223372036854775807
                                · rw [if_pos c142] at H
                                  have c142b0 := eq_true c142
                                  have c142b1 : decide ((((((⟨#[91]⟩ : ByteArray) ++ nm) ++ (⟨#[58]⟩ : ByteArray)) ++ t20063) ++ (⟨#[62]⟩ : ByteArray)).size + t20067.size ≤ 9223372036854775807) = true := decide_eq_true c142
                                  try have c142b2 : (9223372036854775807 < (((((⟨#[91]⟩ : ByteArray) ++ nm) ++ (⟨#[58]⟩ : ByteArray)) ++ t20063) ++ (⟨#[62]⟩ : ByteArray)).size + t20067.size) = False := eq_false (Nat.not_lt.2 c142)
                                  have c142n := c142; (try simp only [ByteArray.size_append, ba1_size] at c142n)
                                  by_cases c143 : ((((((⟨#[91]⟩ : ByteArray) ++ nm) ++ (⟨#[58]⟩ : ByteArray)) ++ t20063) ++ (⟨#[62]⟩ : ByteArray)) ++ t20067).size + 1 ≤ 9223372036854775807
                                  · rw [if_pos c143] at H
                                    have c143b0 := eq_true c143
                                    have c143b1 : decide (((((((⟨#[91]⟩ : ByteArray) ++ nm) ++ (⟨#[58]⟩ : ByteArray)) ++ t20063) ++ (⟨#[62]⟩ : ByteArray)) ++ t20067).size + 1 ≤ 9223372036854775807) = true := decide_eq_true c143
                                    try have c143b2 : (9223372036854775807 < ((((((⟨#[91]⟩ : ByteArray) ++ nm) ++ (⟨#[58]⟩ : ByteArray)) ++ t20063) ++ (⟨#[62]⟩ : ByteArray)) ++ t20067).size + 1) = False := eq_false (Nat.not_lt.2 c143)
                                    have c143n := c143; (try simp only [ByteArray.size_append, ba1_size] at c143n)
                                    simp only [Option.some.injEq, Prod.mk.injEq] at H
                                    obtain ⟨rfl, rfl⟩ := H
                                    as_aux_lemma =>
                                      go_enter Try.func40, Try.ntmps40
                                      go_upto_region 13 with (fail)
                                      go_cut [13] (fun v13 wc => v13 = .string nm ∧ Aside0 (IsS69 w0 wc g s0_0 s0_1) ∧ Aside0 (KeepBut w wc g none) ∧ Aside0 (Below w0.heap.size w0 wc))
                                      case first =>
                                        go_wp2
                                        go_meet
                                        case rel => exact ⟨by (subst hnm; subst hji35; first | rfl | (simp; done) | (simp [*]; done)), ⟨by repeat (first | (with_reducible first | exact HI0.out | apply IsS69.alloc | apply IsS69.drewN | apply IsS69.drew | apply IsS69.set_1) | exact HI0.out)⟩, ⟨by repeat (first | (with_reducible first | exact HK.out | apply KeepBut.set_ | apply keep_drewN | apply keep_drew | apply keep_alloc) | exact HK.out)⟩, ⟨by repeat (first | (with_reducible first | exact HB.out | apply below_alloc | apply pw_below_drewN | apply below_drew1 | refine below_set ?_ (IsS69.ge HI0.out)) | exact HB.out)⟩⟩
                                      case rest =>
                                        clear HI0 HK HB
                                        clear hnm hji35
                                        obtain ⟨rfl, HI0, HK, HB⟩ := hcut
                                        go_wp2_with (first | ((with_reducible refine gate_callee (f := 37) rfl ?_); refine goesL_ (some 159) rfl rfl Try.func37 (by kernel_rfl) rfl #[.pointer (some ⟨g, 0, none⟩), .int .i64 7] rfl (by (try simp only [List.map_toArray, List.map_cons, List.map_nil]); first | done | rfl | (simp only [List.length_drop, List.length_take]; rfl)) ?_; (with_reducible refine (spec_l13Rd_pick.calls k g s0_0 s0_1 7 t20038 t20039 w0 _ ?side1 ?side2 A85.out).mono ?_); (case side1 => repeat (first | (with_reducible first | exact HI0.out | apply IsS69.alloc | apply IsS69.drewN | apply IsS69.drew | apply IsS69.set_1) | exact HI0.out)); (case side2 => repeat (first | (with_reducible first | exact HB.out | apply below_alloc | apply pw_below_drewN | apply below_drew1 | refine below_set ?_ (IsS69.ge HI0.out)) | exact HB.out)); rintro e w144 ⟨rfl, hi, hb, hk⟩; refine ⟨_, rfl, ?_⟩; have n0_ := Aside0.mk (KeepBut.trans (by repeat (first | (with_reducible first | exact HK.out | apply KeepBut.set_ | apply keep_drewN | apply keep_drew | apply keep_alloc) | exact HK.out)) hk (.inl rfl)); have n1_ := Aside0.mk (hb); have n2_ := Aside0.mk (hi); clear HK; clear HB; clear HI0; have HK := n0_; have HB := n1_; have HI0 := n2_; clear n0_ n1_ n2_; (try clear hb); (try clear hb2); (try clear hk); (try clear hi)) | ((with_reducible refine gate_callee (f := 40) rfl ?_); refine goesL_ (some 248) rfl rfl Try.func40 (by kernel_rfl) rfl #[.pointer (some ⟨g, 0, none⟩), .int .i64 1, .int .i64 (wrap64 (a2 - 2)), .string a3, .string a4] rfl (by (try simp only [List.map_toArray, List.map_cons, List.map_nil]); first | done | rfl | (simp only [List.length_drop, List.length_take]; rfl)) ?_; (with_reducible refine (ih k (by omega) g s0_0 t20039 1 (wrap64 (a2 - 2)) a3 a4 t20063 t20064 w0 _ ?side1 ?side2 A136.out).mono ?_); (case side1 => repeat (first | (with_reducible first | exact HI0.out | apply IsS69.alloc | apply IsS69.drewN | apply IsS69.drew | apply IsS69.set_1) | exact HI0.out)); (case side2 => repeat (first | (with_reducible first | exact HB.out | apply below_alloc | apply pw_below_drewN | apply below_drew1 | refine below_set ?_ (IsS69.ge HI0.out)) | exact HB.out)); rintro e w145 ⟨rfl, hi, hb, hk⟩; refine ⟨_, rfl, ?_⟩; have n0_ := Aside0.mk (KeepBut.trans (by repeat (first | (with_reducible first | exact HK.out | apply KeepBut.set_ | apply keep_drewN | apply keep_drew | apply keep_alloc) | exact HK.out)) hk (.inl rfl)); have n1_ := Aside0.mk (hb); have n2_ := Aside0.mk (hi); clear HK; clear HB; clear HI0; have HK := n0_; have HB := n1_; have HI0 := n2_; clear n0_ n1_ n2_; (try clear hb); (try clear hb2); (try clear hk); (try clear hi)) | ((with_reducible refine gate_callee (f := 58) rfl ?_); refine goesL_ (some 256) rfl rfl Try.func58 (by kernel_rfl) rfl #[.string a3, .string nm] rfl (by (try simp only [List.map_toArray, List.map_cons, List.map_nil]); first | done | (simp only [hji35]; rfl) | rfl | (simp only [List.length_drop, List.length_take]; rfl)) ?_; (with_reducible refine (spec_l5Bind.calls k a3 nm t20065 _ A139.out).mono ?_); rintro e w' ⟨rfl, ⟨nd, rfl⟩⟩; refine ⟨_, rfl, ?_⟩) | ((with_reducible refine gate_callee (f := 59) rfl ?_); refine goesL_ (some 259) rfl rfl Try.func59 (by kernel_rfl) rfl #[.string a4, .string nm] rfl (by (try simp only [List.map_toArray, List.map_cons, List.map_nil]); first | done | (simp only [hji35]; rfl) | rfl | (simp only [List.length_drop, List.length_take]; rfl)) ?_; (with_reducible refine (spec_l5Unbind.calls k a4 nm t20066 _ A140.out).mono ?_); rintro e w' ⟨rfl, ⟨nd, rfl⟩⟩; refine ⟨_, rfl, ?_⟩) | ((with_reducible refine gate_callee (f := 40) rfl ?_); refine goesL_ (some 260) rfl rfl Try.func40 (by kernel_rfl) rfl #[.pointer (some ⟨g, 0, none⟩), .int .i64 0, .int .i64 (wrap64 (a2 - 2)), .string t20065, .string t20066] rfl (by (try simp only [List.map_toArray, List.map_cons, List.map_nil]); first | done | rfl | (simp only [List.length_drop, List.length_take]; rfl)) ?_; (with_reducible refine (ih k (by omega) g s0_0 t20064 0 (wrap64 (a2 - 2)) t20065 t20066 t20067 t20068 w0 _ ?side1 ?side2 A141.out).mono ?_); (case side1 => repeat (first | (with_reducible first | exact HI0.out | apply IsS69.alloc | apply IsS69.drewN | apply IsS69.drew | apply IsS69.set_1) | exact HI0.out)); (case side2 => repeat (first | (with_reducible first | exact HB.out | apply below_alloc | apply pw_below_drewN | apply below_drew1 | refine below_set ?_ (IsS69.ge HI0.out)) | exact HB.out)); rintro e w146 ⟨rfl, hi, hb, hk⟩; refine ⟨_, rfl, ?_⟩; have n0_ := Aside0.mk (KeepBut.trans (by repeat (first | (with_reducible first | exact HK.out | apply KeepBut.set_ | apply keep_drewN | apply keep_drew | apply keep_alloc) | exact HK.out)) hk (.inl rfl)); have n1_ := Aside0.mk (hb); have n2_ := Aside0.mk (hi); clear HK; clear HB; clear HI0; have HK := n0_; have HB := n1_; have HI0 := n2_; clear n0_ n1_ n2_; (try clear hb); (try clear hb2); (try clear hk); (try clear hi)))
                                        all_goals (try (exfalso; omega))
                                        go_ret
                                        exact ⟨by first | rfl | (simp [errW_none, errW_some] <;> rfl) | (simp [*, errW_none, errW_some] <;> rfl), by repeat (first | (with_reducible first | exact HI0.out | apply IsS69.alloc | apply IsS69.drewN | apply IsS69.drew | apply IsS69.set_1) | exact HI0.out), by repeat (first | (with_reducible first | exact HB.out | apply below_alloc | apply pw_below_drewN | apply below_drew1 | refine below_set ?_ (IsS69.ge HI0.out)) | exact HB.out), by repeat (first | (with_reducible first | exact HK.out | apply KeepBut.set_ | apply keep_drewN | apply keep_drew | apply keep_alloc) | exact HK.out)⟩
                                  · rw [if_neg c143] at H
                                    exact absurd H (by simp)
                                · rw [if_neg c142] at H
                                  exact absurd H (by simp)
                              · rw [if_neg c138] at H
                                exact absurd H (by simp)
                            · rw [if_neg c137] at H
                              exact absurd H (by simp)
                          · rw [if_neg c135] at H
                            exact absurd H (by simp)
                        · rw [if_neg c134] at H
                          exact absurd H (by simp)
            · exact absurd HX.out.2 c84
        · rw [if_neg c38] at H
          exact absurd H (by simp)
      · rw [if_neg c37] at H
        exact absurd H (by simp)
    · rw [if_neg c36] at H
      exact absurd H (by simp)
end Go.Proofs.Ytpklhagedifglaa.Vq
