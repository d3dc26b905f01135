/-
  Cut to what this claim uses.
-/
import Derived.Test.YtpklhagedifglaaQVq0
import Derived.Test.YtpklhagedifglaaQVq1
import Derived.Test.YtpklhagedifglaaQVq2
namespace Go.Proofs.Ytpklhagedifglaa.Vq
open Go.RowKit Go.Proofs.YtpklhagedifglaaW.PrintWords Go.Proofs.YtpklhagedifglaaW.PrintLast Go.Proofs.YtpklhagedifglaaW.PrintMore
attribute [local go_sem] max2_int min2_int max_two min_two max_three min_three max_four min_four   -- for this text's walks alone
set_option linter.unusedVariables false
set_option linter.unusedSimpArgs false
set_option maxHeartbeats 80000000 in
set_option maxRecDepth 100000 in
theorem spec_l5Draw.calls_d2 (k : Nat) (ih : ∀ m, m < k → ∀ (g : Nat) (s0_0 : List Int) (s0_1 : Int) (a1 : Int) (a2 : Int) (a3 : ByteArray) (a4 : ByteArray) (r1 : ByteArray) (r2 : Int) (w0 w : World) (hI : IsS69 w0 w g s0_0 s0_1) (hB : Below w0.heap.size w0 w) (h : spec_l5Draw.f m s0_0 s0_1 a1 a2 a3 a4 = some (r1, r2)),
    Calls Try.prog 40 #[.pointer (some ⟨g, 0, none⟩), .int .i64 a1, .int .i64 a2, .string a3, .string a4] w fun e w' => e = .returned (.string r1) ∧ IsS69 w0 w' g s0_0 r2 ∧ Below w0.heap.size w0 w' ∧ KeepBut w w' g none) : ∀ (g : Nat) (s0_0 : List Int) (s0_1 : Int) (a1 : Int) (a2 : Int) (a3 : ByteArray) (a4 : ByteArray) (r1 : ByteArray) (r2 : Int) (w0 w : World) (hI : IsS69 w0 w g s0_0 s0_1) (hB : Below w0.heap.size w0 w) (h : spec_l5Draw.f k s0_0 s0_1 a1 a2 a3 a4 = some (r1, r2)) (hx : ¬ a2 ≤ 0 ∧ ¬ a1 = 0 ∧ ¬ a1 = 1),
    Calls Try.prog 40 #[.pointer (some ⟨g, 0, none⟩), .int .i64 a1, .int .i64 a2, .string a3, .string a4] w fun e w' => e = .returned (.string r1) ∧ IsS69 w0 w' g s0_0 r2 ∧ Below w0.heap.size w0 w' ∧ KeepBut w w' g none := by
  intro g s0_0 s0_1 a1 a2 a3 a4 r1 r2 w0 w hI hB h hx
  have HX := Aside0.mk hx
  clear hx
  cases k with
  | zero => exact absurd h (by simp [spec_l5Draw.f])
  | succ k =>
  simp only [spec_l5Draw.f] at h
  have HI0 := Aside0.mk hI
  have HK := Aside0.mk (KeepBut.refl w g none)
  have HL := Aside0.mk hB.size
  clear hI
  have HW0 := Aside0.mk hB.size
  have HB := Aside0.mk hB
  clear hB
  have H := h
  clear h
  by_cases c6 : a2 ≤ 0
  · exact absurd c6 HX.out.1
  · rw [if_neg c6] at H
    have c6b0 : decide (a2 ≤ 0) = false := decide_eq_false c6
    clear c6
    obtain ⟨ji35, hji35⟩ : ∃ j_ : Int, (Int.tmod (wrap64 ((wrap64 (a2 + (a3.size : Int))) + (wrap64 (2 * (a4.size : Int))))) 5) = j_ := ⟨_, rfl⟩
    first | rw [hji35] at H | simp only [hji35] at H
    by_cases c36 : 0 ≤ (ji35)
    · rw [if_pos c36] at H
      have c36b0 := eq_true c36
      have c36b1 : decide (0 ≤ (ji35)) = true := decide_eq_true c36
      clear c36
      by_cases c37 : (ji35) ≤ (wrap64 ((ji35) + 1))
      · rw [if_pos c37] at H
        have c37b0 := eq_true c37
        have c37b1 : decide ((ji35) ≤ (wrap64 ((ji35) + 1))) = true := decide_eq_true c37
        by_cases c38 : (wrap64 ((ji35) + 1)) ≤ 5
        · rw [if_pos c38] at H
          have c38b0 := eq_true c38
          have c38b1 : decide ((wrap64 ((ji35) + 1)) ≤ 5) = true := decide_eq_true c38
          obtain ⟨nm, hnm⟩ : ∃ x_ : ByteArray, ((⟨#[118, 119, 120, 121, 122]⟩ : ByteArray).extract ((ji35) : Int).toNat ((wrap64 ((ji35) + 1)) : Int).toNat) = x_ := ⟨_, rfl⟩
          rw [hnm] at H
          by_cases c39 : a1 = 0
          · exact absurd c39 HX.out.2.1
          · rw [if_neg c39] at H
            have c39b0 : (a1 == 0) = false := beq_eq_false_iff_ne.mpr c39
            have c39b1 : (a1 != 0) = true := bne_iff_ne.mpr c39
            by_cases c84 : a1 = 1
            · exact absurd c84 HX.out.2.2
            · rw [if_neg c84] at H
              have c84b0 : (a1 == 1) = false := beq_eq_false_iff_ne.mpr c84
              have c84b1 : (a1 != 1) = true := bne_iff_ne.mpr c84
              replace H := Option.bind_eq_some_iff.mp H
              obtain ⟨⟨t20069, t20070⟩, A1470, H⟩ := H
              replace H : (if t20069 = 0 then (some ((⟨#[98]⟩ : ByteArray), t20070)) else (if t20069 = 1 then (if 1 + nm.size ≤ 9223372036854775807 then (if ((⟨#[91]⟩ : ByteArray) ++ nm).size + 1 ≤ 9223372036854775807 then ((spec_l5Draw.f k s0_0 t20070 1 (wrap64 (a2 - 2)) a3 a4).bind fun bt20071 => (if (((⟨#[91]⟩ : ByteArray) ++ nm) ++ (⟨#[58]⟩ : ByteArray)).size + bt20071.1.size ≤ 9223372036854775807 then (if ((((⟨#[91]⟩ : ByteArray) ++ nm) ++ (⟨#[58]⟩ : ByteArray)) ++ bt20071.1).size + 1 ≤ 9223372036854775807 then ((spec_l5Bind.f k a3 nm).bind fun t20073 => ((spec_l5Unbind.f k a4 nm).bind fun t20074 => ((spec_l5Draw.f k s0_0 bt20071.2 1 (wrap64 (a2 - 2)) t20073 t20074).bind fun bt20075 => (if (((((⟨#[91]⟩ : ByteArray) ++ nm) ++ (⟨#[58]⟩ : ByteArray)) ++ bt20071.1) ++ (⟨#[62]⟩ : ByteArray)).size + bt20075.1.size ≤ 9223372036854775807 then (if ((((((⟨#[91]⟩ : ByteArray) ++ nm) ++ (⟨#[58]⟩ : ByteArray)) ++ bt20071.1) ++ (⟨#[62]⟩ : ByteArray)) ++ bt20075.1).size + 1 ≤ 9223372036854775807 then (some (((((((⟨#[91]⟩ : ByteArray) ++ nm) ++ (⟨#[58]⟩ : ByteArray)) ++ bt20071.1) ++ (⟨#[62]⟩ : ByteArray)) ++ bt20075.1) ++ (⟨#[93]⟩ : ByteArray), bt20075.2)) else (none)) else (none))))) else (none)) else (none))) else (none)) else (none)) else (if 1 + nm.size ≤ 9223372036854775807 then (if ((⟨#[91]⟩ : ByteArray) ++ nm).size + 1 ≤ 9223372036854775807 then ((spec_l5Draw.f k s0_0 t20070 2 (wrap64 (a2 - 2)) a3 a4).bind fun bt20077 => (if (((⟨#[91]⟩ : ByteArray) ++ nm) ++ (⟨#[58]⟩ : ByteArray)).size + bt20077.1.size ≤ 9223372036854775807 then (if ((((⟨#[91]⟩ : ByteArray) ++ nm) ++ (⟨#[58]⟩ : ByteArray)) ++ bt20077.1).size + 1 ≤ 9223372036854775807 then ((spec_l5Unbind.f k a3 nm).bind fun t20079 => ((spec_l5Bind.f k a4 nm).bind fun t20080 => ((spec_l5Draw.f k s0_0 bt20077.2 1 (wrap64 (a2 - 2)) t20079 t20080).bind fun bt20081 => (if (((((⟨#[91]⟩ : ByteArray) ++ nm) ++ (⟨#[58]⟩ : ByteArray)) ++ bt20077.1) ++ (⟨#[62]⟩ : ByteArray)).size + bt20081.1.size ≤ 9223372036854775807 then (if ((((((⟨#[91]⟩ : ByteArray) ++ nm) ++ (⟨#[58]⟩ : ByteArray)) ++ bt20077.1) ++ (⟨#[62]⟩ : ByteArray)) ++ bt20081.1).size + 1 ≤ 9223372036854775807 then (some (((((((⟨#[91]⟩ : ByteArray) ++ nm) ++ (⟨#[58]⟩ : ByteArray)) ++ bt20077.1) ++ (⟨#[62]⟩ : ByteArray)) ++ bt20081.1) ++ (⟨#[93]⟩ : ByteArray), bt20081.2)) else (none)) else (none))))) else (none)) else (none))) else (none)) else (none)))) = some (r1, r2) := H
              have A147 := Aside0.mk A1470
              clear A1470
              by_cases c148 : t20069 = 0
              · rw [if_pos c148] at H
                have c148b0 : (t20069 == 0) = true := beq_iff_eq.mpr c148
                have c148b1 : (t20069 != 0) = false := bne_eq_false_iff_eq.mpr c148
                clear c148
                simp only [Option.some.injEq, Prod.mk.injEq] at H
                obtain ⟨rfl, rfl⟩ := H
                as_aux_lemma =>
                  go_enter Try.func40, Try.ntmps40
                  go_upto_region 13 with (fail)
                  go_cut [13] (fun v13 wc => v13 = .string nm ∧ Aside0 (IsS69 w0 wc g s0_0 s0_1) ∧ Aside0 (KeepBut w wc g none) ∧ Aside0 (Below w0.heap.size w0 wc))
                  case first =>
                    go_wp2
                    go_meet
                    case rel => exact ⟨by (subst hnm; subst hji35; first | rfl | (simp; done) | (simp [*]; done)), ⟨by repeat (first | (with_reducible first | exact HI0.out | apply IsS69.alloc | apply IsS69.drewN | apply IsS69.drew | apply IsS69.set_1) | exact HI0.out)⟩, ⟨by repeat (first | (with_reducible first | exact HK.out | apply KeepBut.set_ | apply keep_drewN | apply keep_drew | apply keep_alloc) | exact HK.out)⟩, ⟨by repeat (first | (with_reducible first | exact HB.out | apply below_alloc | apply pw_below_drewN | apply below_drew1 | refine below_set ?_ (IsS69.ge HI0.out)) | exact HB.out)⟩⟩
                  case rest =>
                    clear HI0 HK HB
                    clear hnm hji35
                    obtain ⟨rfl, HI0, HK, HB⟩ := hcut
                    go_wp2_with (first | ((with_reducible refine gate_callee (f := 37) rfl ?_); refine goesL_ (some 264) rfl rfl Try.func37 (by kernel_rfl) rfl #[.pointer (some ⟨g, 0, none⟩), .int .i64 3] rfl (by (try simp only [List.map_toArray, List.map_cons, List.map_nil]); first | done | rfl | (simp only [List.length_drop, List.length_take]; rfl)) ?_; (with_reducible refine (spec_l13Rd_pick.calls k g s0_0 s0_1 3 t20069 t20070 w0 _ ?side1 ?side2 A147.out).mono ?_); (case side1 => repeat (first | (with_reducible first | exact HI0.out | apply IsS69.alloc | apply IsS69.drewN | apply IsS69.drew | apply IsS69.set_1) | exact HI0.out)); (case side2 => repeat (first | (with_reducible first | exact HB.out | apply below_alloc | apply pw_below_drewN | apply below_drew1 | refine below_set ?_ (IsS69.ge HI0.out)) | exact HB.out)); rintro e w149 ⟨rfl, hi, hb, hk⟩; refine ⟨_, rfl, ?_⟩; have n0_ := Aside0.mk (KeepBut.trans (by repeat (first | (with_reducible first | exact HK.out | apply KeepBut.set_ | apply keep_drewN | apply keep_drew | apply keep_alloc) | exact HK.out)) hk (.inl rfl)); have n1_ := Aside0.mk (hb); have n2_ := Aside0.mk (hi); clear HK; clear HB; clear HI0; have HK := n0_; have HB := n1_; have HI0 := n2_; clear n0_ n1_ n2_; (try clear hb); (try clear hb2); (try clear hk); (try clear hi)))
                    all_goals (try (exfalso; omega))
                    go_ret
                    exact ⟨by first | rfl | (simp [errW_none, errW_some] <;> rfl) | (simp [*, errW_none, errW_some] <;> rfl), by repeat (first | (with_reducible first | exact HI0.out | apply IsS69.alloc | apply IsS69.drewN | apply IsS69.drew | apply IsS69.set_1) | exact HI0.out), by repeat (first | (with_reducible first | exact HB.out | apply below_alloc | apply pw_below_drewN | apply below_drew1 | refine below_set ?_ (IsS69.ge HI0.out)) | exact HB.out), by repeat (first | (with_reducible first | exact HK.out | apply KeepBut.set_ | apply keep_drewN | apply keep_drew | apply keep_alloc) | exact HK.out)⟩
              · rw [if_neg c148] at H
                have c148b0 : (t20069 == 0) = false := beq_eq_false_iff_ne.mpr c148
                have c148b1 : (t20069 != 0) = true := bne_iff_ne.mpr c148
                by_cases c150 : t20069 = 1
                · rw [if_pos c150] at H
                  have c150b0 : (t20069 == 1) = true := beq_iff_eq.mpr c150
                  have c150b1 : (t20069 != 1) = false := bne_eq_false_iff_eq.mpr c150
                  clear c150
                  by_cases c151 : 1 + nm.size ≤ 9223372036854775807
                  · rw [if_pos c151] at H
                    have c151b0 := eq_true c151
                    have c151b1 : decide (1 + nm.size ≤ 9223372036854775807) = true := decide_eq_true c151
                    try have c151b2 : (9223372036854775807 < 1 + nm.size) = False := eq_false (Nat.not_lt.2 c151)
                    have c151n := c151; (try simp only [ByteArray.size_append, ba1_size] at c151n)
                    by_cases c152 : ((⟨#[91]⟩ : ByteArray) ++ nm).size + 1 ≤ 9223372036854775807
                    · rw [if_pos c152] at H
                      have c152b0 := eq_true c152
                      have c152b1 : decide (((⟨#[91]⟩ : ByteArray) ++ nm).size + 1 ≤ 9223372036854775807) = true := decide_eq_true c152
                      try have c152b2 : (9223372036854775807 < ((⟨#[91]⟩ : ByteArray) ++ nm).size + 1) = False := eq_false (Nat.not_lt.2 c152)
                      have c152n := c152; (try simp only [ByteArray.size_append, ba1_size] at c152n)
                      replace H := Option.bind_eq_some_iff.mp H
                      obtain ⟨⟨t20071, t20072⟩, A1530, H⟩ := H
                      replace H : (if (((⟨#[91]⟩ : ByteArray) ++ nm) ++ (⟨#[58]⟩ : ByteArray)).size + t20071.size ≤ 9223372036854775807 then (if ((((⟨#[91]⟩ : ByteArray) ++ nm) ++ (⟨#[58]⟩ : ByteArray)) ++ t20071).size + 1 ≤ 9223372036854775807 then ((spec_l5Bind.f k a3 nm).bind fun t20073 => ((spec_l5Unbind.f k a4 nm).bind fun t20074 => ((spec_l5Draw.f k s0_0 t20072 1 (wrap64 (a2 - 2)) t20073 t20074).bind fun bt20075 => (if (((((⟨#[91]⟩ : ByteArray) ++ nm) ++ (⟨#[58]⟩ : ByteArray)) ++ t20071) ++ (⟨#[62]⟩ : ByteArray)).size + bt20075.1.size ≤ 9223372036854775807 then (if ((((((⟨#[91]⟩ : ByteArray) ++ nm) ++ (⟨#[58]⟩ : ByteArray)) ++ t20071) ++ (⟨#[62]⟩ : ByteArray)) ++ bt20075.1).size + 1 ≤ 9223372036854775807 then (some (((((((⟨#[91]⟩ : ByteArray) ++ nm) ++ (⟨#[58]⟩ : ByteArray)) ++ t20071) ++ (⟨#[62]⟩ : ByteArray)) ++ bt20075.1) ++ (⟨#[93]⟩ : ByteArray), bt20075.2)) else (none)) else (none))))) else (none)) else (none)) = some (r1, r2) := H
                      have A153 := Aside0.mk A1530
                      clear A1530
                      by_cases c154 : (((⟨#[91]⟩ : ByteArray) ++ nm) ++ (⟨#[58]⟩ : ByteArray)).size + t20071.size ≤ 9223372036854775807
                      · rw [if_pos c154] at H
                        have c154b0 := eq_true c154
                        have c154b1 : decide ((((⟨#[91]⟩ : ByteArray) ++ nm) ++ (⟨#[58]⟩ : ByteArray)).size + t20071.size ≤ 9223372036854775807) = true := decide_eq_true c154
                        try have c154b2 : (9223372036854775807 < (((⟨#[91]⟩ : ByteArray) ++ nm) ++ (⟨#[58]⟩ : ByteArray)).size + t20071.size) = False := eq_false (Nat.not_lt.2 c154)
                        have c154n := c154; (try simp only [ByteArray.size_append, ba1_size] at c154n)
                        by_cases c155 : ((((⟨#[91]⟩ : ByteArray) ++ nm) ++ (⟨#[58]⟩ : ByteArray)) ++ t20071).size + 1 ≤ 9223372036854775807
                        · rw [if_pos c155] at H
                          have c155b0 := eq_true c155
                          have c155b1 : decide (((((⟨#[91]⟩ : ByteArray) ++ nm) ++ (⟨#[58]⟩ : ByteArray)) ++ t20071).size + 1 ≤ 9223372036854775807) = true := decide_eq_true c155
                          try have c155b2 : (9223372036854775807 < ((((⟨#[91]⟩ : ByteArray) ++ nm) ++ (⟨#[58]⟩ : ByteArray)) ++ t20071).size + 1) = False := eq_false (Nat.not_lt.2 c155)
                          have c155n := c155; (try simp only [ByteArray.size_append, ba1_size] at c155n)
                          replace H := Option.bind_eq_some_iff.mp H
                          obtain ⟨t20073, A1560, H⟩ := H
                          replace H : ((spec_l5Unbind.f k a4 nm).bind fun t20074 => ((spec_l5Draw.f k s0_0 t20072 1 (wrap64 (a2 - 2)) t20073 t20074).bind fun bt20075 => (if (((((⟨#[91]⟩ : ByteArray) ++ nm) ++ (⟨#[58]⟩ : ByteArray)) ++ t20071) ++ (⟨#[62]⟩ : ByteArray)).size + bt20075.1.size ≤ 9223372036854775807 then (if ((((((⟨#[91]⟩ : ByteArray) ++ nm) ++ (⟨#[58]⟩ : ByteArray)) ++ t20071) ++ (⟨#[62]⟩ : ByteArray)) ++ bt20075.1).size + 1 ≤ 9223372036854775807 then (some (((((((⟨#[91]⟩ : ByteArray) ++ nm) ++ (⟨#[58]⟩ : ByteArray)) ++ t20071) ++ (⟨#[62]⟩ : ByteArray)) ++ bt20075.1) ++ (⟨#[93]⟩ : ByteArray), bt20075.2)) else (none)) else (none)))) = some (r1, r2) := H
                          have A156 := Aside0.mk A1560
                          clear A1560
                          replace H := Option.bind_eq_some_iff.mp H
                          obtain ⟨t20074, A1570, H⟩ := H
                          replace H : ((spec_l5Draw.f k s0_0 t20072 1 (wrap64 (a2 - 2)) t20073 t20074).bind fun bt20075 => (if (((((⟨#[91]⟩ : ByteArray) ++ nm) ++ (⟨#[58]⟩ : ByteArray)) ++ t20071) ++ (⟨#[62]⟩ : ByteArray)).size + bt20075.1.size ≤ 9223372036854775807 then (if ((((((⟨#[91]⟩ : ByteArray) ++ nm) ++ (⟨#[58]⟩ : ByteArray)) ++ t20071) ++ (⟨#[62]⟩ : ByteArray)) ++ bt20075.1).size + 1 ≤ 9223372036854775807 then (some (((((((⟨#[91]⟩ : ByteArray) ++ nm) ++ (⟨#[58]⟩ : ByteArray)) ++ t20071) ++ (⟨#[62]⟩ : ByteArray)) ++ bt20075.1) ++ (⟨#[93]⟩ : ByteArray), bt20075.2)) else (none)) else (none))) = some (r1, r2) := H
                          have A157 := Aside0.mk A1570
                          clear A1570
                          replace H := Option.bind_eq_some_iff.mp H
                          obtain ⟨⟨t20075, t20076⟩, A1580, H⟩ := H
                          replace H : (if (((((⟨#[91]⟩ : ByteArray) ++ nm) ++ (⟨#[58]⟩ : ByteArray)) ++ t20071) ++ (⟨#[62]⟩ : ByteArray)).size + t20075.size ≤ 9223372036854775807 then (if ((((((⟨#[91]⟩ : ByteArray) ++ nm) ++ (⟨#[58]⟩ : ByteArray)) ++ t20071) ++ (⟨#[62]⟩ : ByteArray)) ++ t20075).size + 1 ≤ 9223372036854775807 then (some (((((((⟨#[91]⟩ : ByteArray) ++ nm) ++ (⟨#[58]⟩ : ByteArray)) ++ t20071) ++ (⟨#[62]⟩ : ByteArray)) ++ t20075) ++ (⟨#[93]⟩ : ByteArray), t20076)) else (none)) else (none)) = some (r1, r2) := H
                          have A158 := Aside0.mk A1580
                          clear A1580
                          by_cases c159 : (((((⟨#[91]⟩ : ByteArray) ++ nm) ++ (⟨#[58]⟩ : ByteArray)) ++ t20071) ++ (⟨#[62]⟩ : ByteArray)).size + t20075.size ≤ 9223372036854775807
                          · rw [if_pos c159] at H
                            have c159b0 := eq_true c159
                            have c159b1 : decide ((((((⟨#[91]⟩ : ByteArray) ++ nm) ++ (⟨#[58]⟩ : ByteArray)) ++ t20071) ++ (⟨#[62]⟩ : ByteArray)).size + t20075.size ≤ 9223372036854775807) = true := decide_eq_true c159
                            try have c159b2 : (9223372036854775807 < (((((⟨#[91]⟩ : ByteArray) ++ nm) ++ (⟨#[58]⟩ : ByteArray)) ++ t20071) ++ (⟨#[62]⟩ : ByteArray)).size + t20075.size) = False := eq_false (Nat.not_lt.2 c159)
                            have c159n := c159; (try simp only [ByteArray.size_append, ba1_size] at c159n)
                            by_cases c160 : ((((((⟨#[91]⟩ : ByteArray) ++ nm) ++ (⟨#[58]⟩ : ByteArray)) ++ t20071) ++ (⟨#[62]⟩ : ByteArray)) ++ t20075).size + 1 ≤ 9223372036854775807
                            · rw [if_pos c160] at H
                              have c160b0 := eq_true c160
                              have c160b1 : decide (((((((⟨#[91]⟩ : ByteArray) ++ nm) ++ (⟨#[58]⟩ : ByteArray)) ++ t20071) ++ (⟨#[62]⟩ : ByteArray)) ++ t20075).size + 1 ≤ 9223372036854775807) = true := decide_eq_true c160
                              try have c160b2 : (9223372036854775807 < ((((((⟨#[91]⟩ : ByteArray) ++ nm) ++ (⟨#[58]⟩ : ByteArray)) ++ t20071) ++ (⟨#[62]⟩ : ByteArray)) ++ t20075).size + 1) = False := eq_false (Nat.not_lt.2 c160)
                              have c160n := c160; (try simp only [ByteArray.size_append, ba1_size] at c160n)
                              simp only [Option.some.injEq, Prod.mk.injEq] at H
                              obtain ⟨rfl, rfl⟩ := H
                              as_aux_lemma =>
                                go_enter Try.func40, Try.ntmps40
                                go_upto_region 13 with (fail)
                                go_cut [13] (fun v13 wc => v13 = .string nm ∧ Aside0 (IsS69 w0 wc g s0_0 s0_1) ∧ Aside0 (KeepBut w wc g none) ∧ Aside0 (Below w0.heap.size w0 wc))
                                case first =>
                                  go_wp2
                                  go_meet
                                  case rel => exact ⟨by (subst hnm; subst hji35; first | rfl | (simp; done) | (simp [*]; done)), ⟨by repeat (first | (with_reducible first | exact HI0.out | apply IsS69.alloc | apply IsS69.drewN | apply IsS69.drew | apply IsS69.set_1) | exact HI0.out)⟩, ⟨by repeat (first | (with_reducible first | exact HK.out | apply KeepBut.set_ | apply keep_drewN | apply keep_drew | apply keep_alloc) | exact HK.out)⟩, ⟨by repeat (first | (with_reducible first | exact HB.out | apply below_alloc | apply pw_below_drewN | apply below_drew1 | refine below_set ?_ (IsS69.ge HI0.out)) | exact HB.out)⟩⟩
                                case rest =>
                                  clear HI0 HK HB
                                  clear hnm hji35
                                  obtain ⟨rfl, HI0, HK, HB⟩ := hcut
                                  go_wp2_with (first | ((with_reducible refine gate_callee (f := 37) rfl ?_); refine goesL_ (some 264) rfl rfl Try.func37 (by kernel_rfl) rfl #[.pointer (some ⟨g, 0, none⟩), .int .i64 3] rfl (by (try simp only [List.map_toArray, List.map_cons, List.map_nil]); first | done | rfl | (simp only [List.length_drop, List.length_take]; rfl)) ?_; (with_reducible refine (spec_l13Rd_pick.calls k g s0_0 s0_1 3 t20069 t20070 w0 _ ?side1 ?side2 A147.out).mono ?_); (case side1 => repeat (first | (with_reducible first | exact HI0.out | apply IsS69.alloc | apply IsS69.drewN | apply IsS69.drew | apply IsS69.set_1) | exact HI0.out)); (case side2 => repeat (first | (with_reducible first | exact HB.out | apply below_alloc | apply pw_below_drewN | apply below_drew1 | refine below_set ?_ (IsS69.ge HI0.out)) | exact HB.out)); rintro e w161 ⟨rfl, hi, hb, hk⟩; refine ⟨_, rfl, ?_⟩; have n0_ := Aside0.mk (KeepBut.trans (by repeat (first | (with_reducible first | exact HK.out | apply KeepBut.set_ | apply keep_drewN | apply keep_drew | apply keep_alloc) | exact HK.out)) hk (.inl rfl)); have n1_ := Aside0.mk (hb); have n2_ := Aside0.mk (hi); clear HK; clear HB; clear HI0; have HK := n0_; have HB := n1_; have HI0 := n2_; clear n0_ n1_ n2_; (try clear hb); (try clear hb2); (try clear hk); (try clear hi)) | ((with_reducible refine gate_callee (f := 40) rfl ?_); refine goesL_ (some 277) rfl rfl Try.func40 (by kernel_rfl) rfl #[.pointer (some ⟨g, 0, none⟩), .int .i64 1, .int .i64 (wrap64 (a2 - 2)), .string a3, .string a4] rfl (by (try simp only [List.map_toArray, List.map_cons, List.map_nil]); first | done | rfl | (simp only [List.length_drop, List.length_take]; rfl)) ?_; (with_reducible refine (ih k (by omega) g s0_0 t20070 1 (wrap64 (a2 - 2)) a3 a4 t20071 t20072 w0 _ ?side1 ?side2 A153.out).mono ?_); (case side1 => repeat (first | (with_reducible first | exact HI0.out | apply IsS69.alloc | apply IsS69.drewN | apply IsS69.drew | apply IsS69.set_1) | exact HI0.out)); (case side2 => repeat (first | (with_reducible first | exact HB.out | apply below_alloc | apply pw_below_drewN | apply below_drew1 | refine below_set ?_ (IsS69.ge HI0.out)) | exact HB.out)); rintro e w162 ⟨rfl, hi, hb, hk⟩; refine ⟨_, rfl, ?_⟩; have n0_ := Aside0.mk (KeepBut.trans (by repeat (first | (with_reducible first | exact HK.out | apply KeepBut.set_ | apply keep_drewN | apply keep_drew | apply keep_alloc) | exact HK.out)) hk (.inl rfl)); have n1_ := Aside0.mk (hb); have n2_ := Aside0.mk (hi); clear HK; clear HB; clear HI0; have HK := n0_; have HB := n1_; have HI0 := n2_; clear n0_ n1_ n2_; (try clear hb); (try clear hb2); (try clear hk); (try clear hi)) | ((with_reducible refine gate_callee (f := 58) rfl ?_); refine goesL_ (some 285) rfl rfl Try.func58 (by kernel_rfl) rfl #[.string a3, .string nm] rfl (by (try simp only [List.map_toArray, List.map_cons, List.map_nil]); first | done | (simp only [hji35]; rfl) | rfl | (simp only [List.length_drop, List.length_take]; rfl)) ?_; (with_reducible refine (spec_l5Bind.calls k a3 nm t20073 _ A156.out).mono ?_); rintro e w' ⟨rfl, ⟨nd, rfl⟩⟩; refine ⟨_, rfl, ?_⟩) | ((with_reducible refine gate_callee (f := 59) rfl ?_); refine goesL_ (some 288) rfl rfl Try.func59 (by kernel_rfl) rfl #[.string a4, .string nm] rfl (by (try simp only [List.map_toArray, List.map_cons, List.map_nil]); first | done | (simp only [hji35]; rfl) | rfl | (simp only [List.length_drop, List.length_take]; rfl)) ?_; (with_reducible refine (spec_l5Unbind.calls k a4 nm t20074 _ A157.out).mono ?_); rintro e w' ⟨rfl, ⟨nd, rfl⟩⟩; refine ⟨_, rfl, ?_⟩) | ((with_reducible refine gate_callee (f := 40) rfl ?_); refine goesL_ (some 289) rfl rfl Try.func40 (by kernel_rfl) rfl #[.pointer (some ⟨g, 0, none⟩), .int .i64 1, .int .i64 (wrap64 (a2 - 2)), .string t20073, .string t20074] rfl (by (try simp only [List.map_toArray, List.map_cons, List.map_nil]); first | done | rfl | (simp only [List.length_drop, List.length_take]; rfl)) ?_; (with_reducible refine (ih k (by omega) g s0_0 t20072 1 (wrap64 (a2 - 2)) t20073 t20074 t20075 t20076 w0 _ ?side1 ?side2 A158.out).mono ?_); (case side1 => repeat (first | (with_reducible first | exact HI0.out | apply IsS69.alloc | apply IsS69.drewN | apply IsS69.drew | apply IsS69.set_1) | exact HI0.out)); (case side2 => repeat (first | (with_reducible first | exact HB.out | apply below_alloc | apply pw_below_drewN | apply below_drew1 | refine below_set ?_ (IsS69.ge HI0.out)) | exact HB.out)); rintro e w163 ⟨rfl, hi, hb, hk⟩; refine ⟨_, rfl, ?_⟩; have n0_ := Aside0.mk (KeepBut.trans (by repeat (first | (with_reducible first | exact HK.out | apply KeepBut.set_ | apply keep_drewN | apply keep_drew | apply keep_alloc) | exact HK.out)) hk (.inl rfl)); have n1_ := Aside0.mk (hb); have n2_ := Aside0.mk (hi); clear HK; clear HB; clear HI0; have HK := n0_; have HB := n1_; have HI0 := n2_; clear n0_ n1_ n2_; (try clear hb); (try clear hb2); (try clear hk); (try clear hi)))
                                  all_goals (try (exfalso; omega))
                                  go_ret
                                  exact ⟨by first | rfl | (simp [errW_none, errW_some] <;> rfl) | (simp [*, errW_none, errW_some] <;> rfl), by repeat (first | (with_reducible first | exact HI0.out | apply IsS69.alloc | apply IsS69.drewN | apply IsS69.drew | apply IsS69.set_1) | exact HI0.out), by repeat (first | (with_reducible first | exact HB.out | apply below_alloc | apply pw_below_drewN | apply below_drew1 | refine below_set ?_ (IsS69.ge HI0.out)) | exact HB.out), by repeat (first | (with_reducible first | exact HK.out | apply KeepBut.set_ | apply keep_drewN | apply keep_drew | apply keep_alloc) | exact HK.out)⟩
                            · rw [if_neg c160] at H
                              exact absurd H (by simp)
                          · rw [if_neg c159] at H
                            exact absurd H (by simp)
                        · rw [if_neg c155] at H
                          exact absurd H (by simp)
                      · rw [if_neg c154] at H
                        exact absurd H (by simp)
                    · rw [if_neg c152] at H
                      exact absurd H (by simp)
                  · rw [if_neg c151] at H
                    exact absurd H (by simp)
                · rw [if_neg c150] at H
                  have c150b0 : (t20069 == 1) = false := beq_eq_false_iff_ne.mpr c150
                  have c150b1 : (t20069 != 1) = true := bne_iff_ne.mpr c150
                  by_cases c164 : 1 + nm.size ≤ 9223372036854775807
                  · rw [if_pos c164] at H
                    have c164b0 := eq_true c164
                    have c164b1 : decide (1 + nm.size ≤ 9223372036854775807) = true := decide_eq_true c164
                    try have c164b2 : (9223372036854775807 < 1 + nm.size) = False := eq_false (Nat.not_lt.2 c164)
                    have c164n := c164; (try simp only [ByteArray.size_append, ba1_size] at c164n)
                    by_cases c165 : ((⟨#[91]⟩ : ByteArray) ++ nm).size + 1 ≤ 9223372036854775807
                    · rw [if_pos c165] at H
                      have c165b0 := eq_true c165
                      have c165b1 : decide (((⟨#[91]⟩ : ByteArray) ++ nm).size + 1 ≤ 9223372036854775807) = true := decide_eq_true c165
                      try have c165b2 : (9223372036854775807 < ((⟨#[91]⟩ : ByteArray) ++ nm).size + 1) = False := eq_false (Nat.not_lt.2 c165)
                      have c165n := c165; (try simp only [ByteArray.size_append, ba1_size] at c165n)
                      replace H := Option.bind_eq_some_iff.mp H
                      obtain ⟨⟨t20077, t20078⟩, A1660, H⟩ := H
                      replace H : (if (((⟨#[91]⟩ : ByteArray) ++ nm) ++ (⟨#[58]⟩ : ByteArray)).size + t20077.size ≤ 9223372036854775807 then (if ((((⟨#[91]⟩ : ByteArray) ++ nm) ++ (⟨#[58]⟩ : ByteArray)) ++ t20077).size + 1 ≤ 9223372036854775807 then ((spec_l5Unbind.f k a3 nm).bind fun t20079 => ((spec_l5Bind.f k a4 nm).bind fun t20080 => ((spec_l5Draw.f k s0_0 t20078 1 (wrap64 (a2 - 2)) t20079 t20080).bind fun bt20081 => (if (((((⟨#[91]⟩ : ByteArray) ++ nm) ++ (⟨#[58]⟩ : ByteArray)) ++ t20077) ++ (⟨#[62]⟩ : ByteArray)).size + bt20081.1.size ≤ 9223372036854775807 then (if ((((((⟨#[91]⟩ : ByteArray) ++ nm) ++ (⟨#[58]⟩ : ByteArray)) ++ t20077) ++ (⟨#[62]⟩ : ByteArray)) ++ bt20081.1).size + 1 ≤ 9223372036854775807 then (some (((((((⟨#[91]⟩ : ByteArray) ++ nm) ++ (⟨#[58]⟩ : ByteArray)) ++ t20077) ++ (⟨#[62]⟩ : ByteArray)) ++ bt20081.1) ++ (⟨#[93]⟩ : ByteArray), bt20081.2)) else (none)) else (none))))) else (none)) else (none)) = some (r1, r2) := H
                      have A166 := Aside0.mk A1660
                      clear A1660
                      by_cases c167 : (((⟨#[91]⟩ : ByteArray) ++ nm) ++ (⟨#[58]⟩ : ByteArray)).size + t20077.size ≤ 9223372036854775807
                      · rw [if_pos c167] at H
                        have c167b0 := eq_true c167
                        have c167b1 : decide ((((⟨#[91]⟩ : ByteArray) ++ nm) ++ (⟨#[58]⟩ : ByteArray)).size + t20077.size ≤ 9223372036854775807) = true := decide_eq_true c167
                        try have c167b2 : (9223372036854775807 < (((⟨#[91]⟩ : ByteArray) ++ nm) ++ (⟨#[58]⟩ : ByteArray)).size + t20077.size) = False := eq_false (Nat.not_lt.2 c167)
                        have c167n := c167; (try simp only [ByteArray.size_append, ba1_size] at c167n)
                        by_cases c168 : ((((⟨#[91]⟩ : ByteArray) ++ nm) ++ (⟨#[58]⟩ : ByteArray)) ++ t20077).size + 1 ≤ 9223372036854775807
                        · rw [if_pos c168] at H
                          have c168b0 := eq_true c168
                          have c168b1 : decide (((((⟨#[91]⟩ : ByteArray) ++ nm) ++ (⟨#[58]⟩ : ByteArray)) ++ t20077).size + 1 ≤ 9223372036854775807) = true := decide_eq_true c168
                          try have c168b2 : (9223372036854775807 < ((((⟨#[91]⟩ : ByteArray) ++ nm) ++ (⟨#[58]⟩ : ByteArray)) ++ t20077).size + 1) = False := eq_false (Nat.not_lt.2 c168)
                          have c168n := c168; (try simp only [ByteArray.size_append, ba1_size] at c168n)
                          replace H := Option.bind_eq_some_iff.mp H
                          obtain ⟨t20079, A1690, H⟩ := H
                          replace H : ((spec_l5Bind.f k a4 nm).bind fun t20080 => ((spec_l5Draw.f k s0_0 t20078 1 (wrap64 (a2 - 2)) t20079 t20080).bind fun bt20081 => (if (((((⟨#[91]⟩ : ByteArray) ++ nm) ++ (⟨#[58]⟩ : ByteArray)) ++ t20077) ++ (⟨#[62]⟩ : ByteArray)).size + bt20081.1.size ≤ 9223372036854775807 then (if ((((((⟨#[91]⟩ : ByteArray) ++ nm) ++ (⟨#[58]⟩ : ByteArray)) ++ t20077) ++ (⟨#[62]⟩ : ByteArray)) ++ bt20081.1).size + 1 ≤ 9223372036854775807 then (some (((((((⟨#[91]⟩ : ByteArray) ++ nm) ++ (⟨#[58]⟩ : ByteArray)) ++ t20077) ++ (⟨#[62]⟩ : ByteArray)) ++ bt20081.1) ++ (⟨#[93]⟩ : ByteArray), bt20081.2)) else (none)) else (none)))) = some (r1, r2) := H
                          have A169 := Aside0.mk A1690
                          clear A1690
                          replace H := Option.bind_eq_some_iff.mp H
                          obtain ⟨t20080, A1700, H⟩ := H
                          replace H : ((spec_l5Draw.f k s0_0 t20078 1 (wrap64 (a2 - 2)) t20079 t20080).bind fun bt20081 => (if (((((⟨#[91]⟩ : ByteArray) ++ nm) ++ (⟨#[58]⟩ : ByteArray)) ++ t20077) ++ (⟨#[62]⟩ : ByteArray)).size + bt20081.1.size ≤ 9223372036854775807 then (if ((((((⟨#[91]⟩ : ByteArray) ++ nm) ++ (⟨#[58]⟩ : ByteArray)) ++ t20077) ++ (⟨#[62]⟩ : ByteArray)) ++ bt20081.1).size + 1 ≤ 9223372036854775807 then (some (((((((⟨#[91]⟩ : ByteArray) ++ nm) ++ (⟨#[58]⟩ : ByteArray)) ++ t20077) ++ (⟨#[62]⟩ : ByteArray)) ++ bt20081.1) ++ (⟨#[93]⟩ : ByteArray), bt20081.2)) else (none)) else (none))) = some (r1, r2) := H
                          have A170 := Aside0.mk A1700
                          clear A1700
                          replace H := Option.bind_eq_some_iff.mp H
                          obtain ⟨⟨t20081, t20082⟩, A1710, H⟩ := H
                          replace H : (if (((((⟨#[91]⟩ : ByteArray) ++ nm) ++ (⟨#[58]⟩ : ByteArray)) ++ t20077) ++ (⟨#[62]⟩ : ByteArray)).size + t20081.size ≤ 9223372036854775807 then (if ((((((⟨#[91]⟩ : ByteArray) ++ nm) ++ (⟨#[58]⟩ : ByteArray)) ++ t20077) ++ (⟨#[62]⟩ : ByteArray)) ++ t20081).size + 1 ≤ 9223372036854775807 then (some (((((((⟨#[91]⟩ : ByteArray) ++ nm) ++ (⟨#[58]⟩ : ByteArray)) ++ t20077) ++ (⟨#[62]⟩ : ByteArray)) ++ t20081) ++ (⟨#[93]⟩ : ByteArray), t20082)) else (none)) else (none)) = some (r1, r2) := H
                          have A171 := Aside0.mk A1710
                          clear A1710
                          by_cases c172 : (((((⟨#[91]⟩ : ByteArray) ++ nm) ++ (⟨#[58]⟩ : ByteArray)) ++ t20077) ++ (⟨#[62]⟩ : ByteArray)).size + t20081.size ≤ 9223372036854775807
                          · rw [if_pos c172] at H
                            have c172b0 := eq_true c172
                            have c172b1 : decide ((((((⟨#[91]⟩ : ByteArray) ++ nm) ++ (⟨#[58]⟩ : ByteArray)) ++ t20077) ++ (⟨#[62]⟩ : ByteArray)).size + t20081.size ≤ 9223372036854775807) = true := decide_eq_true c172
                            try have c172b2 : (9223372036854775807 < (((((⟨#[91]⟩ : ByteArray) ++ nm) ++ (⟨#[58]⟩ : ByteArray)) ++ t20077) ++ (⟨#[62]⟩ : ByteArray)).size + t20081.size) = False := eq_false (Nat.not_lt.2 c172)
                            have c172n := c172; (try simp only [ByteArray.size_append, ba1_size] at c172n)
                            by_cases c173 : ((((((⟨#[91]⟩ : ByteArray) ++ nm) ++ (⟨#[58]⟩ : ByteArray)) ++ t20077) ++ (⟨#[62]⟩ : ByteArray)) ++ t20081).size + 1 ≤ 9223372036854775807
                            · rw [if_pos c173] at H
                              have c173b0 := eq_true c173
                              have c173b1 : decide (((((((⟨#[91]⟩ : ByteArray) ++ nm) ++ (⟨#[58]⟩ : ByteArray)) ++ t20077) ++ (⟨#[62]⟩ : ByteArray)) ++ t20081).size + 1 ≤ 9223372036854775807) = true := decide_eq_true c173
                              try have c173b2 : (9223372036854775807 < ((((((⟨#[91]⟩ : ByteArray) ++ nm) ++ (⟨#[58]⟩ : ByteArray)) ++ t20077) ++ (⟨#[62]⟩ : ByteArray)) ++ t20081).size + 1) = False := eq_false (Nat.not_lt.2 c173)
                              have c173n := c173; (try simp only [ByteArray.size_append, ba1_size] at c173n)
                              simp only [Option.some.injEq, Prod.mk.injEq] at H
                              obtain ⟨rfl, rfl⟩ := H
                              as_aux_lemma =>
                                go_enter Try.func40, Try.ntmps40
                                go_upto_region 13 with (fail)
                                go_cut [13] (fun v13 wc => v13 = .string nm ∧ Aside0 (IsS69 w0 wc g s0_0 s0_1) ∧ Aside0 (KeepBut w wc g none) ∧ Aside0 (Below w0.heap.size w0 wc))
                                case first =>
                                  go_wp2
                                  go_meet
                                  case rel => exact ⟨by (subst hnm; subst hji35; first | rfl | (simp; done) | (simp [*]; done)), ⟨by repeat (first | (with_reducible first | exact HI0.out | apply IsS69.alloc | apply IsS69.drewN | apply IsS69.drew | apply IsS69.set_1) | exact HI0.out)⟩, ⟨by repeat (first | (with_reducible first | exact HK.out | apply KeepBut.set_ | apply keep_drewN | apply keep_drew | apply keep_alloc) | exact HK.out)⟩, ⟨by repeat (first | (with_reducible first | exact HB.out | apply below_alloc | apply pw_below_drewN | apply below_drew1 | refine below_set ?_ (IsS69.ge HI0.out)) | exact HB.out)⟩⟩
                                case rest =>
                                  clear HI0 HK HB
                                  clear hnm hji35
                                  obtain ⟨rfl, HI0, HK, HB⟩ := hcut
                                  go_wp2_with (first | ((with_reducible refine gate_callee (f := 37) rfl ?_); refine goesL_ (some 264) rfl rfl Try.func37 (by kernel_rfl) rfl #[.pointer (some ⟨g, 0, none⟩), .int .i64 3] rfl (by (try simp only [List.map_toArray, List.map_cons, List.map_nil]); first | done | rfl | (simp only [List.length_drop, List.length_take]; rfl)) ?_; (with_reducible refine (spec_l13Rd_pick.calls k g s0_0 s0_1 3 t20069 t20070 w0 _ ?side1 ?side2 A147.out).mono ?_); (case side1 => repeat (first | (with_reducible first | exact HI0.out | apply IsS69.alloc | apply IsS69.drewN | apply IsS69.drew | apply IsS69.set_1) | exact HI0.out)); (case side2 => repeat (first | (with_reducible first | exact HB.out | apply below_alloc | apply pw_below_drewN | apply below_drew1 | refine below_set ?_ (IsS69.ge HI0.out)) | exact HB.out)); rintro e w174 ⟨rfl, hi, hb, hk⟩; refine ⟨_, rfl, ?_⟩; have n0_ := Aside0.mk (KeepBut.trans (by repeat (first | (with_reducible first | exact HK.out | apply KeepBut.set_ | apply keep_drewN | apply keep_drew | apply keep_alloc) | exact HK.out)) hk (.inl rfl)); have n1_ := Aside0.mk (hb); have n2_ := Aside0.mk (hi); clear HK; clear HB; clear HI0; have HK := n0_; have HB := n1_; have HI0 := n2_; clear n0_ n1_ n2_; (try clear hb); (try clear hb2); (try clear hk); (try clear hi)) | ((with_reducible refine gate_callee (f := 40) rfl ?_); refine goesL_ (some 300) rfl rfl Try.func40 (by kernel_rfl) rfl #[.pointer (some ⟨g, 0, none⟩), .int .i64 2, .int .i64 (wrap64 (a2 - 2)), .string a3, .string a4] rfl (by (try simp only [List.map_toArray, List.map_cons, List.map_nil]); first | done | rfl | (simp only [List.length_drop, List.length_take]; rfl)) ?_; (with_reducible refine (ih k (by omega) g s0_0 t20070 2 (wrap64 (a2 - 2)) a3 a4 t20077 t20078 w0 _ ?side1 ?side2 A166.out).mono ?_); (case side1 => repeat (first | (with_reducible first | exact HI0.out | apply IsS69.alloc | apply IsS69.drewN | apply IsS69.drew | apply IsS69.set_1) | exact HI0.out)); (case side2 => repeat (first | (with_reducible first | exact HB.out | apply below_alloc | apply pw_below_drewN | apply below_drew1 | refine below_set ?_ (IsS69.ge HI0.out)) | exact HB.out)); rintro e w175 ⟨rfl, hi, hb, hk⟩; refine ⟨_, rfl, ?_⟩; have n0_ := Aside0.mk (KeepBut.trans (by repeat (first | (with_reducible first | exact HK.out | apply KeepBut.set_ | apply keep_drewN | apply keep_drew | apply keep_alloc) | exact HK.out)) hk (.inl rfl)); have n1_ := Aside0.mk (hb); have n2_ := Aside0.mk (hi); clear HK; clear HB; clear HI0; have HK := n0_; have HB := n1_; have HI0 := n2_; clear n0_ n1_ n2_; (try clear hb); (try clear hb2); (try clear hk); (try clear hi)) | ((with_reducible refine gate_callee (f := 59) rfl ?_); refine goesL_ (some 308) rfl rfl Try.func59 (by kernel_rfl) rfl #[.string a3, .string nm] rfl (by (try simp only [List.map_toArray, List.map_cons, List.map_nil]); first | done | (simp only [hji35]; rfl) | rfl | (simp only [List.length_drop, List.length_take]; rfl)) ?_; (with_reducible refine (spec_l5Unbind.calls k a3 nm t20079 _ A169.out).mono ?_); rintro e w' ⟨rfl, ⟨nd, rfl⟩⟩; refine ⟨_, rfl, ?_⟩) | ((with_reducible refine gate_callee (f := 58) rfl ?_); refine goesL_ (some 311) rfl rfl Try.func58 (by kernel_rfl) rfl #[.string a4, .string nm] rfl (by (try simp only [List.map_toArray, List.map_cons, List.map_nil]); first | done | (simp only [hji35]; rfl) | rfl | (simp only [List.length_drop, List.length_take]; rfl)) ?_; (with_reducible refine (spec_l5Bind.calls k a4 nm t20080 _ A170.out).mono ?_); rintro e w' ⟨rfl, ⟨nd, rfl⟩⟩; refine ⟨_, rfl, ?_⟩) | ((with_reducible refine gate_callee (f := 40) rfl ?_); refine goesL_ (some 312) rfl rfl Try.func40 (by kernel_rfl) rfl #[.pointer (some ⟨g, 0, none⟩), .int .i64 1, .int .i64 (wrap64 (a2 - 2)), .string t20079, .string t20080] rfl (by (try simp only [List.map_toArray, List.map_cons, List.map_nil]); first | done | rfl | (simp only [List.length_drop, List.length_take]; rfl)) ?_; (with_reducible refine (ih k (by omega) g s0_0 t20078 1 (wrap64 (a2 - 2)) t20079 t20080 t20081 t20082 w0 _ ?side1 ?side2 A171.out).mono ?_); (case side1 => repeat (first | (with_reducible first | exact HI0.out | apply IsS69.alloc | apply IsS69.drewN | apply IsS69.drew | apply IsS69.set_1) | exact HI0.out)); (case side2 => repeat (first | (with_reducible first | exact HB.out | apply below_alloc | apply pw_below_drewN | apply below_drew1 | refine below_set ?_ (IsS69.ge HI0.out)) | exact HB.out)); rintro e w176 ⟨rfl, hi, hb, hk⟩; refine ⟨_, rfl, ?_⟩; have n0_ := Aside0.mk (KeepBut.trans (by repeat (first | (with_reducible first | exact HK.out | apply KeepBut.set_ | apply keep_drewN | apply keep_drew | apply keep_alloc) | exact HK.out)) hk (.inl rfl)); have n1_ := Aside0.mk (hb); have n2_ := Aside0.mk (hi); clear HK; clear HB; clear HI0; have HK := n0_; have HB := n1_; have HI0 := n2_; clear n0_ n1_ n2_; (try clear hb); (try clear hb2); (try clear hk); (try clear hi)))
                                  all_goals (try (exfalso; omega))
                                  go_ret
                                  exact ⟨by first | rfl | (simp [errW_none, errW_some] <;> rfl) | (simp [*, errW_none, errW_some] <;> rfl), by repeat (first | (with_reducible first | exact HI0.out | apply IsS69.alloc | apply IsS69.drewN | apply IsS69.drew | apply IsS69.set_1) | exact HI0.out), by repeat (first | (with_reducible first | exact HB.out | apply below_alloc | apply pw_below_drewN | apply below_drew1 | refine below_set ?_ (IsS69.ge HI0.out)) | exact HB.out), by repeat (first | (with_reducible first | exact HK.out | apply KeepBut.set_ | apply keep_drewN | apply keep_drew | apply keep_alloc) | exact HK.out)⟩
                            · rw [if_neg c173] at H
                              exact absurd H (by simp)
                          · rw [if_neg c172] at H
                            exact absurd H (by simp)
                        · rw [if_neg c168] at H
                          exact absurd H (by simp)
                      · rw [if_neg c167] at H
                        exact absurd H (by simp)
                    · rw [if_neg c165] at H
                      exact absurd H (by simp)
                  · rw [if_neg c164] at H
                    exact absurd H (by simp)
        · rw [if_neg c38] at H
          exact absurd H (by simp)
      · rw [if_neg c37] at H
        exact absurd H (by simp)
    · rw [if_neg c36] at H
      exact absurd H (by simp)
end Go.Proofs.Ytpklhagedifglaa.Vq
