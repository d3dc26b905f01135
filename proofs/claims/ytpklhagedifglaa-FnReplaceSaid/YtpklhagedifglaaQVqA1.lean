/-
  Cut to what this claim uses.
-/
import Derived.Test.YtpklhagedifglaaQVq0
import Derived.Test.YtpklhagedifglaaQVq1
import Derived.Test.YtpklhagedifglaaQVq2
namespace Go.Proofs.Ytpklhagedifglaa.Vq
open Go.RowKit Go.Proofs.YtpklhagedifglaaW.PrintWords Go.Proofs.YtpklhagedifglaaW.PrintLast Go.Proofs.YtpklhagedifglaaW.PrintMore
attribute [local go_sem] max2_int min2_int max_two min_two max_three min_three max_four min_four   -- for this text's walks alone
set_option linter.unusedVariables false
set_option linter.unusedSimpArgs false
set_option maxHeartbeats 80000000 in
set_option maxRecDepth 100000 in
theorem spec_l5Draw.calls_d0_1 (k : Nat) (ih : ∀ m, m < k → ∀ (g : Nat) (s0_0 : List Int) (s0_1 : Int) (a1 : Int) (a2 : Int) (a3 : ByteArray) (a4 : ByteArray) (r1 : ByteArray) (r2 : Int) (w0 w : World) (hI : IsS69 w0 w g s0_0 s0_1) (hB : Below w0.heap.size w0 w) (h : spec_l5Draw.f m s0_0 s0_1 a1 a2 a3 a4 = some (r1, r2)),
    Calls Try.prog 40 #[.pointer (some ⟨g, 0, none⟩), .int .i64 a1, .int .i64 a2, .string a3, .string a4] w fun e w' => e = .returned (.string r1) ∧ IsS69 w0 w' g s0_0 r2 ∧ Below w0.heap.size w0 w' ∧ KeepBut w w' g none) : ∀ (g : Nat) (s0_0 : List Int) (s0_1 : Int) (a1 : Int) (a2 : Int) (a3 : ByteArray) (a4 : ByteArray) (r1 : ByteArray) (r2 : Int) (w0 w : World) (hI : IsS69 w0 w g s0_0 s0_1) (hB : Below w0.heap.size w0 w) (h : spec_l5Draw.f k s0_0 s0_1 a1 a2 a3 a4 = some (r1, r2)) (hx : (¬ a2 ≤ 0 ∧ a1 = 0) ∧ ∀ t_ q_, spec_l13Rd_pick.f (k - 1) s0_0 s0_1 7 = some (t_, q_) → t_ = 1),
    Calls Try.prog 40 #[.pointer (some ⟨g, 0, none⟩), .int .i64 a1, .int .i64 a2, .string a3, .string a4] w fun e w' => e = .returned (.string r1) ∧ IsS69 w0 w' g s0_0 r2 ∧ Below w0.heap.size w0 w' ∧ KeepBut w w' g none := by
  intro g s0_0 s0_1 a1 a2 a3 a4 r1 r2 w0 w hI hB h hx
  have HX := Aside0.mk hx
  clear hx
  cases k with
  | zero => exact absurd h (by simp [spec_l5Draw.f])
  | succ k =>
  simp only [spec_l5Draw.f] at h
  have HI0 := Aside0.mk hI
  have HK := Aside0.mk (KeepBut.refl w g none)
  have HL := Aside0.mk hB.size
  clear hI
  have HW0 := Aside0.mk hB.size
  have HB := Aside0.mk hB
  clear hB
  have H := h
  clear h
  by_cases c6 : a2 ≤ 0
  · exact absurd c6 HX.out.1.1
  · rw [if_neg c6] at H
    have c6b0 : decide (a2 ≤ 0) = false := decide_eq_false c6
    clear c6
    obtain ⟨ji35, hji35⟩ : ∃ j_ : Int, (Int.tmod (wrap64 ((wrap64 (a2 + (a3.size : Int))) + (wrap64 (2 * (a4.size : Int))))) 5) = j_ := ⟨_, rfl⟩
    first | rw [hji35] at H | simp only [hji35] at H
    by_cases c36 : 0 ≤ (ji35)
    · rw [if_pos c36] at H
      have c36b0 := eq_true c36
      have c36b1 : decide (0 ≤ (ji35)) = true := decide_eq_true c36
      clear c36
      by_cases c37 : (ji35) ≤ (wrap64 ((ji35) + 1))
      · rw [if_pos c37] at H
        have c37b0 := eq_true c37
        have c37b1 : decide ((ji35) ≤ (wrap64 ((ji35) + 1))) = true := decide_eq_true c37
        by_cases c38 : (wrap64 ((ji35) + 1)) ≤ 5
        · rw [if_pos c38] at H
          have c38b0 := eq_true c38
          have c38b1 : decide ((wrap64 ((ji35) + 1)) ≤ 5) = true := decide_eq_true c38
          obtain ⟨nm, hnm⟩ : ∃ x_ : ByteArray, ((⟨#[118, 119, 120, 121, 122]⟩ : ByteArray).extract ((ji35) : Int).toNat ((wrap64 ((ji35) + 1)) : Int).toNat) = x_ := ⟨_, rfl⟩
          rw [hnm] at H
          by_cases c39 : a1 = 0
          · rw [if_pos c39] at H
            have c39b0 : (a1 == 0) = true := beq_iff_eq.mpr c39
            have c39b1 : (a1 != 0) = false := bne_eq_false_iff_eq.mpr c39
            clear c39
            replace H := Option.bind_eq_some_iff.mp H
            obtain ⟨⟨t20012, t20013⟩, A400, H⟩ := H
            replace H : (if t20012 = 0 then ((spec_l5Draw.f k s0_0 t20013 1 (wrap64 (a2 - 1)) a3 a4).bind fun bt20014 => (if 1 + bt20014.1.size ≤ 9223372036854775807 then (some ((⟨#[83]⟩ : ByteArray) ++ bt20014.1, bt20014.2)) else (none))) else (if t20012 = 1 then ((spec_l13Rd_of.f k s0_0 t20013 (([(⟨#[77]⟩ : ByteArray), (⟨#[78]⟩ : ByteArray)] : List ByteArray))).bind fun bt20019 => ((spec_l5Draw.f k s0_0 bt20019.2 1 (wrap64 (a2 - 1)) a3 a4).bind fun bt20021 => (if bt20019.1.size + bt20021.1.size ≤ 9223372036854775807 then (some (bt20019.1 ++ bt20021.1, bt20021.2)) else (none)))) else (if t20012 = 2 then ((spec_l5Draw.f k s0_0 t20013 1 (wrap64 (a2 - 2)) a3 a4).bind fun bt20023 => (if 1 + bt20023.1.size ≤ 9223372036854775807 then (if ((⟨#[40]⟩ : ByteArray) ++ bt20023.1).size + 1 ≤ 9223372036854775807 then ((spec_l5Draw.f k s0_0 bt20023.2 0 (wrap64 (a2 - 2)) a3 a4).bind fun bt20025 => (if (((⟨#[40]⟩ : ByteArray) ++ bt20023.1) ++ (⟨#[64]⟩ : ByteArray)).size + bt20025.1.size ≤ 9223372036854775807 then (if ((((⟨#[40]⟩ : ByteArray) ++ bt20023.1) ++ (⟨#[64]⟩ : ByteArray)) ++ bt20025.1).size + 1 ≤ 9223372036854775807 then (some (((((⟨#[40]⟩ : ByteArray) ++ bt20023.1) ++ (⟨#[64]⟩ : ByteArray)) ++ bt20025.1) ++ (⟨#[41]⟩ : ByteArray), bt20025.2)) else (none)) else (none))) else (none)) else (none))) else (if t20012 = 3 then ((spec_l5Draw.f k s0_0 t20013 0 0 a3 a4).bind fun bt20027 => (some (bt20027.1, bt20027.2))) else ((spec_l5Draw.f k s0_0 t20013 0 (wrap64 (a2 - 2)) a3 a4).bind fun bt20029 => (if 1 + bt20029.1.size ≤ 9223372036854775807 then ((spec_l13Rd_of.f k s0_0 bt20029.2 (([(⟨#[43]⟩ : ByteArray), (⟨#[42]⟩ : ByteArray), (⟨#[94]⟩ : ByteArray), (⟨#[45]⟩ : ByteArray), (⟨#[61]⟩ : ByteArray), (⟨#[60]⟩ : ByteArray)] : List ByteArray))).bind fun bt20034 => (if ((⟨#[40]⟩ : ByteArray) ++ bt20029.1).size + bt20034.1.size ≤ 9223372036854775807 then ((spec_l5Draw.f k s0_0 bt20034.2 0 (wrap64 (a2 - 2)) a3 a4).bind fun bt20036 => (if (((⟨#[40]⟩ : ByteArray) ++ bt20029.1) ++ bt20034.1).size + bt20036.1.size ≤ 9223372036854775807 then (if ((((⟨#[40]⟩ : ByteArray) ++ bt20029.1) ++ bt20034.1) ++ bt20036.1).size + 1 ≤ 9223372036854775807 then (some (((((⟨#[40]⟩ : ByteArray) ++ bt20029.1) ++ bt20034.1) ++ bt20036.1) ++ (⟨#[41]⟩ : ByteArray), bt20036.2)) else (none)) else (none))) else (none))) else (none))))))) = some (r1, r2) := H
            have A40 := Aside0.mk A400
            clear A400
            by_cases c41 : t20012 = 0
            · exact absurd c41 (by rw [HX.out.2 _ _ A40.out]; decide)
            · rw [if_neg c41] at H
              have c41b0 : (t20012 == 0) = false := beq_eq_false_iff_ne.mpr c41
              have c41b1 : (t20012 != 0) = true := bne_iff_ne.mpr c41
              by_cases c46 : t20012 = 1
              · rw [if_pos c46] at H
                have c46b0 : (t20012 == 1) = true := beq_iff_eq.mpr c46
                have c46b1 : (t20012 != 1) = false := bne_eq_false_iff_eq.mpr c46
                clear c46
                obtain ⟨y20016, hy20016⟩ : ∃ y_ : List ByteArray, y_ = (([(⟨#[77]⟩ : ByteArray), (⟨#[78]⟩ : ByteArray)] : List ByteArray)) := ⟨_, rfl⟩
                replace H : ((spec_l13Rd_of.f k s0_0 t20013 y20016).bind fun bt20019 => ((spec_l5Draw.f k s0_0 bt20019.2 1 (wrap64 (a2 - 1)) a3 a4).bind fun bt20021 => (if bt20019.1.size + bt20021.1.size ≤ 9223372036854775807 then (some (bt20019.1 ++ bt20021.1, bt20021.2)) else (none)))) = some (r1, r2) := by first | (rw [hy20016]; with_reducible exact H) | (have H2_ := (Option.bind_some _ _).symm.trans H; rw [hy20016]; with_reducible exact H2_) | (have H2_ := (Option.bind_some _ _).symm.trans H; with_reducible exact H2_) | with_reducible exact H | (rw [hy20016]; exact H) | exact H
                have Ny20016 := Aside0.mk hy20016
                clear hy20016
                replace H := Option.bind_eq_some_iff.mp H
                obtain ⟨⟨t20019, t20020⟩, A470, H⟩ := H
                replace H : ((spec_l5Draw.f k s0_0 t20020 1 (wrap64 (a2 - 1)) a3 a4).bind fun bt20021 => (if t20019.size + bt20021.1.size ≤ 9223372036854775807 then (some (t20019 ++ bt20021.1, bt20021.2)) else (none))) = some (r1, r2) := H
                have A47 := Aside0.mk A470
                clear A470
                replace H := Option.bind_eq_some_iff.mp H
                obtain ⟨⟨t20021, t20022⟩, A480, H⟩ := H
                replace H : (if t20019.size + t20021.size ≤ 9223372036854775807 then (some (t20019 ++ t20021, t20022)) else (none)) = some (r1, r2) := H
                have A48 := Aside0.mk A480
                clear A480
                by_cases c49 : t20019.size + t20021.size ≤ 9223372036854775807
                · rw [if_pos c49] at H
                  have c49b0 := eq_true c49
                  have c49b1 : decide (t20019.size + t20021.size ≤ 9223372036854775807) = true := decide_eq_true c49
                  try have c49b2 : (9223372036854775807 < t20019.size + t20021.size) = False := eq_false (Nat.not_lt.2 c49)
                  have c49n := c49; (try simp only [ByteArray.size_append, ba1_size] at c49n)
                  simp only [Option.some.injEq, Prod.mk.injEq] at H
                  obtain ⟨rfl, rfl⟩ := H
                  as_aux_lemma =>
                    go_enter Try.func40, Try.ntmps40
                    go_upto_region 13 with (fail)
                    go_cut [13] (fun v13 wc => v13 = .string nm ∧ Aside0 (IsS69 w0 wc g s0_0 s0_1) ∧ Aside0 (KeepBut w wc g none) ∧ Aside0 (Below w0.heap.size w0 wc))
                    case first =>
                      go_wp2
                      go_meet
                      case rel => exact ⟨by (subst hnm; subst hji35; first | rfl | (simp; done) | (simp [*]; done)), ⟨by repeat (first | (with_reducible first | exact HI0.out | apply IsS69.alloc | apply IsS69.drewN | apply IsS69.drew | apply IsS69.set_1) | exact HI0.out)⟩, ⟨by repeat (first | (with_reducible first | exact HK.out | apply KeepBut.set_ | apply keep_drewN | apply keep_drew | apply keep_alloc) | exact HK.out)⟩, ⟨by repeat (first | (with_reducible first | exact HB.out | apply below_alloc | apply pw_below_drewN | apply below_drew1 | refine below_set ?_ (IsS69.ge HI0.out)) | exact HB.out)⟩⟩
                    case rest =>
                      clear HI0 HK HB
                      clear hnm hji35
                      obtain ⟨rfl, HI0, HK, HB⟩ := hcut
                      go_wp2_with (first | ((with_reducible refine gate_callee (f := 37) rfl ?_); refine goesL_ (some 91) rfl rfl Try.func37 (by kernel_rfl) rfl #[.pointer (some ⟨g, 0, none⟩), .int .i64 7] rfl (by (try simp only [List.map_toArray, List.map_cons, List.map_nil]); first | done | rfl | (simp only [List.length_drop, List.length_take]; rfl)) ?_; (with_reducible refine (spec_l13Rd_pick.calls k g s0_0 s0_1 7 t20012 t20013 w0 _ ?side1 ?side2 A40.out).mono ?_); (case side1 => repeat (first | (with_reducible first | exact HI0.out | apply IsS69.alloc | apply IsS69.drewN | apply IsS69.drew | apply IsS69.set_1) | exact HI0.out)); (case side2 => repeat (first | (with_reducible first | exact HB.out | apply below_alloc | apply pw_below_drewN | apply below_drew1 | refine below_set ?_ (IsS69.ge HI0.out)) | exact HB.out)); rintro e w50 ⟨rfl, hi, hb, hk⟩; refine ⟨_, rfl, ?_⟩; have n0_ := Aside0.mk (KeepBut.trans (by repeat (first | (with_reducible first | exact HK.out | apply KeepBut.set_ | apply keep_drewN | apply keep_drew | apply keep_alloc) | exact HK.out)) hk (.inl rfl)); have n1_ := Aside0.mk (hb); have n2_ := Aside0.mk (hi); clear HK; clear HB; clear HI0; have HK := n0_; have HB := n1_; have HI0 := n2_; clear n0_ n1_ n2_; (try clear hb); (try clear hb2); (try clear hk); (try clear hi)) | ((with_reducible refine gate_dst (N := 104) rfl ?_); refine Kd.R_lit Kd.string _ 9 ?hg (N := 104) ?hd (xs := ([(⟨#[77]⟩ : ByteArray), (⟨#[78]⟩ : ByteArray)] : List ByteArray)) (inner := [.string (⟨#[77]⟩ : ByteArray), .string (⟨#[78]⟩ : ByteArray)]) (ok := fun _ => True) (okp := fun _ => True) ?hr ?hp (fun _ hk => hk) trivial (Below.refl _ _) (Nat.le_refl _) (by simp) ?_; (case hd => rfl); (case hg => rfl); (case hr => first | (go_simp; done) | (go_simp; rfl)); (case hp => exact (Reps.one (show Kd.M Kd.string _ _ _ (⟨#[77]⟩ : ByteArray) [.string (⟨#[77]⟩ : ByteArray)] from rfl) (Reps.one (show Kd.M Kd.string _ _ _ (⟨#[78]⟩ : ByteArray) [.string (⟨#[78]⟩ : ByteArray)] from rfl) (Reps.none _ _)))); intro v20017 w51 ho52 hb hg_ hnew_; clear hg_ hnew_; (first | rw [← Ny20016.out] at ho52 | (simp only [Int.reduceToNat] at ho52; rw [← Ny20016.out] at ho52)); have n0_ := Aside0.mk (Kd.R_lower ho52 (keep_size (w := w) (g := g) (row := none) (by repeat (first | (with_reducible first | exact HK.out | apply KeepBut.set_ | apply keep_drewN | apply keep_drew | apply keep_alloc) | exact HK.out)))); have n1_ := Aside0.mk (IsS69.below (by repeat (first | (with_reducible first | exact HI0.out | apply IsS69.alloc | apply IsS69.drewN | apply IsS69.drew | apply IsS69.set_1) | exact HI0.out)) hb); have n2_ := Aside0.mk (KeepBut.trans (by repeat (first | (with_reducible first | exact HK.out | apply KeepBut.set_ | apply keep_drewN | apply keep_drew | apply keep_alloc) | exact HK.out)) (KeepBut.of_below hb g none) (.inl rfl)); have n3_ := Aside0.mk (below_step (by repeat (first | (with_reducible first | exact HB.out | apply below_alloc | apply pw_below_drewN | apply below_drew1 | refine below_set ?_ (IsS69.ge HI0.out)) | exact HB.out)) hb); clear HI0; clear HK; clear HB; have HO20018 := n0_; have HI0 := n1_; have HK := n2_; have HB := n3_; clear n0_ n1_ n2_ n3_; clear hb ho52; obtain ⟨Ao53, co53, eo53⟩ := Kd.R_slice HO20018.out; subst eo53) | ((with_reducible refine gate_callee (f := 31) rfl ?_); refine goesL_ (some 105) rfl rfl Try.func31 (by kernel_rfl) rfl #[.pointer (some ⟨g, 0, none⟩), .slice Ao53 y20016.length co53] rfl (by (try simp only [List.map_toArray, List.map_cons, List.map_nil]); first | done | rfl | (simp only [List.length_drop, List.length_take]; rfl)) ?_; (with_reducible refine (spec_l13Rd_of.calls k g s0_0 t20013 _ _ y20016 t20019 t20020 w0 _ ?side1 ?side2 ?side3 ?side4 ?side5 A47.out).mono ?_); (case side1 => repeat (first | (with_reducible first | exact HI0.out | apply IsS69.alloc | apply IsS69.drewN | apply IsS69.drew | apply IsS69.set_1) | exact HI0.out)); (case side2 => repeat (first | (with_reducible first | exact HB.out | apply below_alloc | apply pw_below_drewN | apply below_drew1 | refine below_set ?_ (IsS69.ge HI0.out)) | exact HB.out)); (case side3 => repeat (first | exact (Kd.R_reads' HO20018.out).2.2 | (with_reducible refine Kd.C_alloc ?_ _) | (with_reducible refine Kd.C_drewN ?_ _) | (with_reducible refine Kd.C_drew ?_))); (case side4 => exact (Kd.R_reads' HO20018.out).2.1); (case side5 => exact far_slice (IsS69.own_ne HI0.out HO20018.out (by decide))); rintro e w54 ⟨rfl, hi, hb, hk⟩; refine ⟨_, rfl, ?_⟩; have n0_ := Aside0.mk (Kd.R_mono (Kd.R_keep (IsS69.apart (show IsS69 w0 _ g s0_0 t20013 from by repeat (first | (with_reducible first | exact HI0.out | apply IsS69.alloc | apply IsS69.drewN | apply IsS69.drew | apply IsS69.set_1) | exact HI0.out)) (by (with_reducible repeat (first | apply Kd.R_alloc | apply Kd.R_drewN | apply Kd.R_drew)); exact HO20018.out) (by decide)) hk (fun _ h => h.2)) (fun _ h => h.1)); have n1_ := Aside0.mk (KeepBut.trans (by repeat (first | (with_reducible first | exact HK.out | apply KeepBut.set_ | apply keep_drewN | apply keep_drew | apply keep_alloc) | exact HK.out)) hk (.inl rfl)); have n2_ := Aside0.mk (hb); have n3_ := Aside0.mk (hi); clear HO20018; clear HK; clear HB; clear HI0; have HO20018 := n0_; have HK := n1_; have HB := n2_; have HI0 := n3_; clear n0_ n1_ n2_ n3_; (try clear hb); (try clear hb2); (try clear hk); (try clear hi)) | ((with_reducible refine gate_callee (f := 40) rfl ?_); refine goesL_ (some 111) rfl rfl Try.func40 (by kernel_rfl) rfl #[.pointer (some ⟨g, 0, none⟩), .int .i64 1, .int .i64 (wrap64 (a2 - 1)), .string a3, .string a4] rfl (by (try simp only [List.map_toArray, List.map_cons, List.map_nil]); first | done | rfl | (simp only [List.length_drop, List.length_take]; rfl)) ?_; (with_reducible refine (ih k (by omega) g s0_0 t20020 1 (wrap64 (a2 - 1)) a3 a4 t20021 t20022 w0 _ ?side1 ?side2 A48.out).mono ?_); (case side1 => repeat (first | (with_reducible first | exact HI0.out | apply IsS69.alloc | apply IsS69.drewN | apply IsS69.drew | apply IsS69.set_1) | exact HI0.out)); (case side2 => repeat (first | (with_reducible first | exact HB.out | apply below_alloc | apply pw_below_drewN | apply below_drew1 | refine below_set ?_ (IsS69.ge HI0.out)) | exact HB.out)); rintro e w55 ⟨rfl, hi, hb, hk⟩; refine ⟨_, rfl, ?_⟩; have n0_ := Aside0.mk (Kd.R_mono (Kd.R_keep (IsS69.apart (show IsS69 w0 _ g s0_0 t20020 from by repeat (first | (with_reducible first | exact HI0.out | apply IsS69.alloc | apply IsS69.drewN | apply IsS69.drew | apply IsS69.set_1) | exact HI0.out)) (by (with_reducible repeat (first | apply Kd.R_alloc | apply Kd.R_drewN | apply Kd.R_drew)); exact HO20018.out) (by decide)) hk (fun _ h => h.2)) (fun _ h => h.1)); have n1_ := Aside0.mk (KeepBut.trans (by repeat (first | (with_reducible first | exact HK.out | apply KeepBut.set_ | apply keep_drewN | apply keep_drew | apply keep_alloc) | exact HK.out)) hk (.inl rfl)); have n2_ := Aside0.mk (hb); have n3_ := Aside0.mk (hi); clear HO20018; clear HK; clear HB; clear HI0; have HO20018 := n0_; have HK := n1_; have HB := n2_; have HI0 := n3_; clear n0_ n1_ n2_ n3_; (try clear hb); (try clear hb2); (try clear hk); (try clear hi)))
                      all_goals (try (exfalso; omega))
                      go_ret
                      exact ⟨by first | rfl | (simp [errW_none, errW_some] <;> rfl) | (simp [*, errW_none, errW_some] <;> rfl), by repeat (first | (with_reducible first | exact HI0.out | apply IsS69.alloc | apply IsS69.drewN | apply IsS69.drew | apply IsS69.set_1) | exact HI0.out), by repeat (first | (with_reducible first | exact HB.out | apply below_alloc | apply pw_below_drewN | apply below_drew1 | refine below_set ?_ (IsS69.ge HI0.out)) | exact HB.out), by repeat (first | (with_reducible first | exact HK.out | apply KeepBut.set_ | apply keep_drewN | apply keep_drew | apply keep_alloc) | exact HK.out)⟩
                · rw [if_neg c49] at H
                  exact absurd H (by simp)
              · exact absurd (HX.out.2 _ _ A40.out) c46
          · exact absurd HX.out.1.2 c39
        · rw [if_neg c38] at H
          exact absurd H (by simp)
      · rw [if_neg c37] at H
        exact absurd H (by simp)
    · rw [if_neg c36] at H
      exact absurd H (by simp)
end Go.Proofs.Ytpklhagedifglaa.Vq
