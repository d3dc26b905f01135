/-
  Cut to what this claim uses.
-/
import Derived.Test.YtpklhagedifglaaQVq0
import Derived.Test.YtpklhagedifglaaQVq1
import Derived.Test.YtpklhagedifglaaQVq2
namespace Go.Proofs.Ytpklhagedifglaa.Vq
open Go.RowKit Go.Proofs.YtpklhagedifglaaW.PrintWords Go.Proofs.YtpklhagedifglaaW.PrintLast Go.Proofs.YtpklhagedifglaaW.PrintMore
attribute [local go_sem] max2_int min2_int max_two min_two max_three min_three max_four min_four   -- for this text's walks alone
set_option linter.unusedVariables false
set_option linter.unusedSimpArgs false
set_option maxHeartbeats 80000000 in
set_option maxRecDepth 100000 in
theorem spec_l5Draw.calls_d0_2 (k : Nat) (ih : ∀ m, m < k → ∀ (g : Nat) (s0_0 : List Int) (s0_1 : Int) (a1 : Int) (a2 : Int) (a3 : ByteArray) (a4 : ByteArray) (r1 : ByteArray) (r2 : Int) (w0 w : World) (hI : IsS69 w0 w g s0_0 s0_1) (hB : Below w0.heap.size w0 w) (h : spec_l5Draw.f m s0_0 s0_1 a1 a2 a3 a4 = some (r1, r2)),
    Calls Try.prog 40 #[.pointer (some ⟨g, 0, none⟩), .int .i64 a1, .int .i64 a2, .string a3, .string a4] w fun e w' => e = .returned (.string r1) ∧ IsS69 w0 w' g s0_0 r2 ∧ Below w0.heap.size w0 w' ∧ KeepBut w w' g none) : ∀ (g : Nat) (s0_0 : List Int) (s0_1 : Int) (a1 : Int) (a2 : Int) (a3 : ByteArray) (a4 : ByteArray) (r1 : ByteArray) (r2 : Int) (w0 w : World) (hI : IsS69 w0 w g s0_0 s0_1) (hB : Below w0.heap.size w0 w) (h : spec_l5Draw.f k s0_0 s0_1 a1 a2 a3 a4 = some (r1, r2)) (hx : (¬ a2 ≤ 0 ∧ a1 = 0) ∧ ∀ t_ q_, spec_l13Rd_pick.f (k - 1) s0_0 s0_1 7 = some (t_, q_) → t_ = 2),
    Calls Try.prog 40 #[.pointer (some ⟨g, 0, none⟩), .int .i64 a1, .int .i64 a2, .string a3, .string a4] w fun e w' => e = .returned (.string r1) ∧ IsS69 w0 w' g s0_0 r2 ∧ Below w0.heap.size w0 w' ∧ KeepBut w w' g none := by
  intro g s0_0 s0_1 a1 a2 a3 a4 r1 r2 w0 w hI hB h hx
  have HX := Aside0.mk hx
  clear hx
  cases k with
  | zero => exact absurd h (by simp [spec_l5Draw.f])
  | succ k =>
  simp only [spec_l5Draw.f] at h
  have HI0 := Aside0.mk hI
  have HK := Aside0.mk (KeepBut.refl w g none)
  have HL := Aside0.mk hB.size
  clear hI
  have HW0 := Aside0.mk hB.size
  have HB := Aside0.mk hB
  clear hB
  have H := h
  clear h
  by_cases c6 : a2 ≤ 0
  · exact absurd c6 HX.out.1.1
  · rw [if_neg c6] at H
    have c6b0 : decide (a2 ≤ 0) = false := decide_eq_false c6
    clear c6
    obtain ⟨ji35, hji35⟩ : ∃ j_ : Int, (Int.tmod (wrap64 ((wrap64 (a2 + (a3.size : Int))) + (wrap64 (2 * (a4.size : Int))))) 5) = j_ := ⟨_, rfl⟩
    first | rw [hji35] at H | simp only [hji35] at H
    by_cases c36 : 0 ≤ (ji35)
    · rw [if_pos c36] at H
      have c36b0 := eq_true c36
      have c36b1 : decide (0 ≤ (ji35)) = true := decide_eq_true c36
      clear c36
      by_cases c37 : (ji35) ≤ (wrap64 ((ji35) + 1))
      · rw [if_pos c37] at H
        have c37b0 := eq_true c37
        have c37b1 : decide ((ji35) ≤ (wrap64 ((ji35) + 1))) = true := decide_eq_true c37
        by_cases c38 : (wrap64 ((ji35) + 1)) ≤ 5
        · rw [if_pos c38] at H
          have c38b0 := eq_true c38
          have c38b1 : decide ((wrap64 ((ji35) + 1)) ≤ 5) = true := decide_eq_true c38
          obtain ⟨nm, hnm⟩ : ∃ x_ : ByteArray, ((⟨#[118, 119, 120, 121, 122]⟩ : ByteArray).extract ((ji35) : Int).toNat ((wrap64 ((ji35) + 1)) : Int).toNat) = x_ := ⟨_, rfl⟩
          rw [hnm] at H
          by_cases c39 : a1 = 0
          · rw [if_pos c39] at H
            have c39b0 : (a1 == 0) = true := beq_iff_eq.mpr c39
            have c39b1 : (a1 != 0) = false := bne_eq_false_iff_eq.mpr c39
            clear c39
            replace H := Option.bind_eq_some_iff.mp H
            obtain ⟨⟨t20012, t20013⟩, A400, H⟩ := H
            replace H : (if t20012 = 0 then ((spec_l5Draw.f k s0_0 t20013 1 (wrap64 (a2 - 1)) a3 a4).bind fun bt20014 => (if 1 + bt20014.1.size ≤ 9223372036854775807 then (some ((⟨#[83]⟩ : ByteArray) ++ bt20014.1, bt20014.2)) else (none))) else (if t20012 = 1 then ((spec_l13Rd_of.f k s0_0 t20013 (([(⟨#[77]⟩ : ByteArray), (⟨#[78]⟩ : ByteArray)] : List ByteArray))).bind fun bt20019 => ((spec_l5Draw.f k s0_0 bt20019.2 1 (wrap64 (a2 - 1)) a3 a4).bind fun bt20021 => (if bt20019.1.size + bt20021.1.size ≤ 9223372036854775807 then (some (bt20019.1 ++ bt20021.1, bt20021.2)) else (none)))) else (if t20012 = 2 then ((spec_l5Draw.f k s0_0 t20013 1 (wrap64 (a2 - 2)) a3 a4).bind fun bt20023 => (if 1 + bt20023.1.size ≤ 9223372036854775807 then (if ((⟨#[40]⟩ : ByteArray) ++ bt20023.1).size + 1 ≤ 9223372036854775807 then ((spec_l5Draw.f k s0_0 bt20023.2 0 (wrap64 (a2 - 2)) a3 a4).bind fun bt20025 => (if (((⟨#[40]⟩ : ByteArray) ++ bt20023.1) ++ (⟨#[64]⟩ : ByteArray)).size + bt20025.1.size ≤ 9223372036854775807 then (if ((((⟨#[40]⟩ : ByteArray) ++ bt20023.1) ++ (⟨#[64]⟩ : ByteArray)) ++ bt20025.1).size + 1 ≤ 9223372036854775807 then (some (((((⟨#[40]⟩ : ByteArray) ++ bt20023.1) ++ (⟨#[64]⟩ : ByteArray)) ++ bt20025.1) ++ (⟨#[41]⟩ : ByteArray), bt20025.2)) else (none)) else (none))) else (none)) else (none))) else (if t20012 = 3 then ((spec_l5Draw.f k s0_0 t20013 0 0 a3 a4).bind fun bt20027 => (some (bt20027.1, bt20027.2))) else ((spec_l5Draw.f k s0_0 t20013 0 (wrap64 (a2 - 2)) a3 a4).bind fun bt20029 => (if 1 + bt20029.1.size ≤ 9223372036854775807 then ((spec_l13Rd_of.f k s0_0 bt20029.2 (([(⟨#[43]⟩ : ByteArray), (⟨#[42]⟩ : ByteArray), (⟨#[94]⟩ : ByteArray), (⟨#[45]⟩ : ByteArray), (⟨#[61]⟩ : ByteArray), (⟨#[60]⟩ : ByteArray)] : List ByteArray))).bind fun bt20034 => (if ((⟨#[40]⟩ : ByteArray) ++ bt20029.1).size + bt20034.1.size ≤ 9223372036854775807 then ((spec_l5Draw.f k s0_0 bt20034.2 0 (wrap64 (a2 - 2)) a3 a4).bind fun bt20036 => (if (((⟨#[40]⟩ : ByteArray) ++ bt20029.1) ++ bt20034.1).size + bt20036.1.size ≤ 9223372036854775807 then (if ((((⟨#[40]⟩ : ByteArray) ++ bt20029.1) ++ bt20034.1) ++ bt20036.1).size + 1 ≤ 9223372036854775807 then (some (((((⟨#[40]⟩ : ByteArray) ++ bt20029.1) ++ bt20034.1) ++ bt20036.1) ++ (⟨#[41]⟩ : ByteArray), bt20036.2)) else (none)) else (none))) else (none))) else (none))))))) = some (r1, r2) := H
            have A40 := Aside0.mk A400
            clear A400
            by_cases c41 : t20012 = 0
            · exact absurd c41 (by rw [HX.out.2 _ _ A40.out]; decide)
            · rw [if_neg c41] at H
              have c41b0 : (t20012 == 0) = false := beq_eq_false_iff_ne.mpr c41
              have c41b1 : (t20012 != 0) = true := bne_iff_ne.mpr c41
              by_cases c46 : t20012 = 1
              · exact absurd c46 (by rw [HX.out.2 _ _ A40.out]; decide)
              · rw [if_neg c46] at H
                have c46b0 : (t20012 == 1) = false := beq_eq_false_iff_ne.mpr c46
                have c46b1 : (t20012 != 1) = true := bne_iff_ne.mpr c46
                by_cases c56 : t20012 = 2
                · rw [if_pos c56] at H
                  have c56b0 : (t20012 == 2) = true := beq_iff_eq.mpr c56
                  have c56b1 : (t20012 != 2) = false := bne_eq_false_iff_eq.mpr c56
                  clear c56
                  replace H := Option.bind_eq_some_iff.mp H
                  obtain ⟨⟨t20023, t20024⟩, A570, H⟩ := H
                  replace H : (if 1 + t20023.size ≤ 9223372036854775807 then (if ((⟨#[40]⟩ : ByteArray) ++ t20023).size + 1 ≤ 9223372036854775807 then ((spec_l5Draw.f k s0_0 t20024 0 (wrap64 (a2 - 2)) a3 a4).bind fun bt20025 => (if (((⟨#[40]⟩ : ByteArray) ++ t20023) ++ (⟨#[64]⟩ : ByteArray)).size + bt20025.1.size ≤ 9223372036854775807 then (if ((((⟨#[40]⟩ : ByteArray) ++ t20023) ++ (⟨#[64]⟩ : ByteArray)) ++ bt20025.1).size + 1 ≤ 9223372036854775807 then (some (((((⟨#[40]⟩ : ByteArray) ++ t20023) ++ (⟨#[64]⟩ : ByteArray)) ++ bt20025.1) ++ (⟨#[41]⟩ : ByteArray), bt20025.2)) else (none)) else (none))) else (none)) else (none)) = some (r1, r2) := H
                  have A57 := Aside0.mk A570
                  clear A570
                  by_cases c58 : 1 + t20023.size ≤ 9223372036854775807
                  · rw [if_pos c58] at H
                    have c58b0 := eq_true c58
                    have c58b1 : decide (1 + t20023.size ≤ 9223372036854775807) = true := decide_eq_true c58
                    try have c58b2 : (9223372036854775807 < 1 + t20023.size) = False := eq_false (Nat.not_lt.2 c58)
                    have c58n := c58; (try simp only [ByteArray.size_append, ba1_size] at c58n)
                    by_cases c59 : ((⟨#[40]⟩ : ByteArray) ++ t20023).size + 1 ≤ 9223372036854775807
                    · rw [if_pos c59] at H
                      have c59b0 := eq_true c59
                      have c59b1 : decide (((⟨#[40]⟩ : ByteArray) ++ t20023).size + 1 ≤ 9223372036854775807) = true := decide_eq_true c59
                      try have c59b2 : (9223372036854775807 < ((⟨#[40]⟩ : ByteArray) ++ t20023).size + 1) = False := eq_false (Nat.not_lt.2 c59)
                      have c59n := c59; (try simp only [ByteArray.size_append, ba1_size] at c59n)
                      replace H := Option.bind_eq_some_iff.mp H
                      obtain ⟨⟨t20025, t20026⟩, A600, H⟩ := H
                      replace H : (if (((⟨#[40]⟩ : ByteArray) ++ t20023) ++ (⟨#[64]⟩ : ByteArray)).size + t20025.size ≤ 9223372036854775807 then (if ((((⟨#[40]⟩ : ByteArray) ++ t20023) ++ (⟨#[64]⟩ : ByteArray)) ++ t20025).size + 1 ≤ 9223372036854775807 then (some (((((⟨#[40]⟩ : ByteArray) ++ t20023) ++ (⟨#[64]⟩ : ByteArray)) ++ t20025) ++ (⟨#[41]⟩ : ByteArray), t20026)) else (none)) else (none)) = some (r1, r2) := H
                      have A60 := Aside0.mk A600
                      clear A600
                      by_cases c61 : (((⟨#[40]⟩ : ByteArray) ++ t20023) ++ (⟨#[64]⟩ : ByteArray)).size + t20025.size ≤ 9223372036854775807
                      · rw [if_pos c61] at H
                        have c61b0 := eq_true c61
                        have c61b1 : decide ((((⟨#[40]⟩ : ByteArray) ++ t20023) ++ (⟨#[64]⟩ : ByteArray)).size + t20025.size ≤ 9223372036854775807) = true := decide_eq_true c61
                        try have c61b2 : (9223372036854775807 < (((⟨#[40]⟩ : ByteArray) ++ t20023) ++ (⟨#[64]⟩ : ByteArray)).size + t20025.size) = False := eq_false (Nat.not_lt.2 c61)
                        have c61n := c61; (try simp only [ByteArray.size_append, ba1_size] at c61n)
                        by_cases c62 : ((((⟨#[40]⟩ : ByteArray) ++ t20023) ++ (⟨#[64]⟩ : ByteArray)) ++ t20025).size + 1 ≤ 9223372036854775807
                        · rw [if_pos c62] at H
                          have c62b0 := eq_true c62
                          have c62b1 : decide (((((⟨#[40]⟩ : ByteArray) ++ t20023) ++ (⟨#[64]⟩ : ByteArray)) ++ t20025).size + 1 ≤ 9223372036854775807) = true := decide_eq_true c62
                          try have c62b2 : (9223372036854775807 < ((((⟨#[40]⟩ : ByteArray) ++ t20023) ++ (⟨#[64]⟩ : ByteArray)) ++ t20025).size + 1) = False := eq_false (Nat.not_lt.2 c62)
                          have c62n := c62; (try simp only [ByteArray.size_append, ba1_size] at c62n)
                          simp only [Option.some.injEq, Prod.mk.injEq] at H
                          obtain ⟨rfl, rfl⟩ := H
                          as_aux_lemma =>
                            go_enter Try.func40, Try.ntmps40
                            go_upto_region 13 with (fail)
                            go_cut [13] (fun v13 wc => v13 = .string nm ∧ Aside0 (IsS69 w0 wc g s0_0 s0_1) ∧ Aside0 (KeepBut w wc g none) ∧ Aside0 (Below w0.heap.size w0 wc))
                            case first =>
                              go_wp2
                              go_meet
                              case rel => exact ⟨by (subst hnm; subst hji35; first | rfl | (simp; done) | (simp [*]; done)), ⟨by repeat (first | (with_reducible first | exact HI0.out | apply IsS69.alloc | apply IsS69.drewN | apply IsS69.drew | apply IsS69.set_1) | exact HI0.out)⟩, ⟨by repeat (first | (with_reducible first | exact HK.out | apply KeepBut.set_ | apply keep_drewN | apply keep_drew | apply keep_alloc) | exact HK.out)⟩, ⟨by repeat (first | (with_reducible first | exact HB.out | apply below_alloc | apply pw_below_drewN | apply below_drew1 | refine below_set ?_ (IsS69.ge HI0.out)) | exact HB.out)⟩⟩
                            case rest =>
                              clear HI0 HK HB
                              clear hnm hji35
                              obtain ⟨rfl, HI0, HK, HB⟩ := hcut
                              go_wp2_with (first | ((with_reducible refine gate_callee (f := 37) rfl ?_); refine goesL_ (some 91) rfl rfl Try.func37 (by kernel_rfl) rfl #[.pointer (some ⟨g, 0, none⟩), .int .i64 7] rfl (by (try simp only [List.map_toArray, List.map_cons, List.map_nil]); first | done | rfl | (simp only [List.length_drop, List.length_take]; rfl)) ?_; (with_reducible refine (spec_l13Rd_pick.calls k g s0_0 s0_1 7 t20012 t20013 w0 _ ?side1 ?side2 A40.out).mono ?_); (case side1 => repeat (first | (with_reducible first | exact HI0.out | apply IsS69.alloc | apply IsS69.drewN | apply IsS69.drew | apply IsS69.set_1) | exact HI0.out)); (case side2 => repeat (first | (with_reducible first | exact HB.out | apply below_alloc | apply pw_below_drewN | apply below_drew1 | refine below_set ?_ (IsS69.ge HI0.out)) | exact HB.out)); rintro e w63 ⟨rfl, hi, hb, hk⟩; refine ⟨_, rfl, ?_⟩; have n0_ := Aside0.mk (KeepBut.trans (by repeat (first | (with_reducible first | exact HK.out | apply KeepBut.set_ | apply keep_drewN | apply keep_drew | apply keep_alloc) | exact HK.out)) hk (.inl rfl)); have n1_ := Aside0.mk (hb); have n2_ := Aside0.mk (hi); clear HK; clear HB; clear HI0; have HK := n0_; have HB := n1_; have HI0 := n2_; clear n0_ n1_ n2_; (try clear hb); (try clear hb2); (try clear hk); (try clear hi)) | ((with_reducible refine gate_callee (f := 40) rfl ?_); refine goesL_ (some 120) rfl rfl Try.func40 (by kernel_rfl) rfl #[.pointer (some ⟨g, 0, none⟩), .int .i64 1, .int .i64 (wrap64 (a2 - 2)), .string a3, .string a4] rfl (by (try simp only [List.map_toArray, List.map_cons, List.map_nil]); first | done | rfl | (simp only [List.length_drop, List.length_take]; rfl)) ?_; (with_reducible refine (ih k (by omega) g s0_0 t20013 1 (wrap64 (a2 - 2)) a3 a4 t20023 t20024 w0 _ ?side1 ?side2 A57.out).mono ?_); (case side1 => repeat (first | (with_reducible first | exact HI0.out | apply IsS69.alloc | apply IsS69.drewN | apply IsS69.drew | apply IsS69.set_1) | exact HI0.out)); (case side2 => repeat (first | (with_reducible first | exact HB.out | apply below_alloc | apply pw_below_drewN | apply below_drew1 | refine below_set ?_ (IsS69.ge HI0.out)) | exact HB.out)); rintro e w64 ⟨rfl, hi, hb, hk⟩; refine ⟨_, rfl, ?_⟩; have n0_ := Aside0.mk (KeepBut.trans (by repeat (first | (with_reducible first | exact HK.out | apply KeepBut.set_ | apply keep_drewN | apply keep_drew | apply keep_alloc) | exact HK.out)) hk (.inl rfl)); have n1_ := Aside0.mk (hb); have n2_ := Aside0.mk (hi); clear HK; clear HB; clear HI0; have HK := n0_; have HB := n1_; have HI0 := n2_; clear n0_ n1_ n2_; (try clear hb); (try clear hb2); (try clear hk); (try clear hi)) | ((with_reducible refine gate_callee (f := 40) rfl ?_); refine goesL_ (some 128) rfl rfl Try.func40 (by kernel_rfl) rfl #[.pointer (some ⟨g, 0, none⟩), .int .i64 0, .int .i64 (wrap64 (a2 - 2)), .string a3, .string a4] rfl (by (try simp only [List.map_toArray, List.map_cons, List.map_nil]); first | done | rfl | (simp only [List.length_drop, List.length_take]; rfl)) ?_; (with_reducible refine (ih k (by omega) g s0_0 t20024 0 (wrap64 (a2 - 2)) a3 a4 t20025 t20026 w0 _ ?side1 ?side2 A60.out).mono ?_); (case side1 => repeat (first | (with_reducible first | exact HI0.out | apply IsS69.alloc | apply IsS69.drewN | apply IsS69.drew | apply IsS69.set_1) | exact HI0.out)); (case side2 => repeat (first | (with_reducible first | exact HB.out | apply below_alloc | apply pw_below_drewN | apply below_drew1 | refine below_set ?_ (IsS69.ge HI0.out)) | exact HB.out)); rintro e w65 ⟨rfl, hi, hb, hk⟩; refine ⟨_, rfl, ?_⟩; have n0_ := Aside0.mk (KeepBut.trans (by repeat (first | (with_reducible first | exact HK.out | apply KeepBut.set_ | apply keep_drewN | apply keep_drew | apply keep_alloc) | exact HK.out)) hk (.inl rfl)); have n1_ := Aside0.mk (hb); have n2_ := Aside0.mk (hi); clear HK; clear HB; clear HI0; have HK := n0_; have HB := n1_; have HI0 := n2_; clear n0_ n1_ n2_; (try clear hb); (try clear hb2); (try clear hk); (try clear hi)))
                              all_goals (try (exfalso; omega))
                              go_ret
                              exact ⟨by first | rfl | (simp [errW_none, errW_some] <;> rfl) | (simp [*, errW_none, errW_some] <;> rfl), by repeat (first | (with_reducible first | exact HI0.out | apply IsS69.alloc | apply IsS69.drewN | apply IsS69.drew | apply IsS69.set_1) | exact HI0.out), by repeat (first | (with_reducible first | exact HB.out | apply below_alloc | apply pw_below_drewN | apply below_drew1 | refine below_set ?_ (IsS69.ge HI0.out)) | exact HB.out), by repeat (first | (with_reducible first | exact HK.out | apply KeepBut.set_ | apply keep_drewN | apply keep_drew | apply keep_alloc) | exact HK.out)⟩
                        · rw [if_neg c62] at H
                          exact absurd H (by simp)
                      · rw [if_neg c61] at H
                        exact absurd H (by simp)
                    · rw [if_neg c59] at H
                      exact absurd H (by simp)
                  · rw [if_neg c58] at H
                    exact absurd H (by simp)
                · exact absurd (HX.out.2 _ _ A40.out) c56
          · exact absurd HX.out.1.2 c39
        · rw [if_neg c38] at H
          exact absurd H (by simp)
      · rw [if_neg c37] at H
        exact absurd H (by simp)
    · rw [if_neg c36] at H
      exact absurd H (by simp)
end Go.Proofs.Ytpklhagedifglaa.Vq
