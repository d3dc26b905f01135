-- Written for this claim by a program (wip/hyb/hyb.py).
import Derived.Test.YtifnnehjpgodfaaWe0
import Derived.Test.YtifnnehjpgodfaaWe2
namespace Go.Proofs.Ytifnnehjpgodfaa.We
open Go.RowKit Go.Proofs.YtifnnehjpgodfaaW.PrintWords Go.Proofs.YtifnnehjpgodfaaW.PrintLast Go.Proofs.YtifnnehjpgodfaaW.PrintMore
attribute [local go_sem] max2_int min2_int max_two min_two max_three min_three max_four min_four   -- for this text's walks alone
set_option linter.unusedVariables false
set_option linter.unusedSimpArgs false

/-! ### impl_WeaveData: function 30 -/
/-- Are numbers data? -/
def dataB (l : List Int) : Bool := if (l.length : Int) ≤ 400 then decide (idxOut 10006 l 0 < 0) else false
theorem dataB_eq (l : List Int) : impl_dataOk.f l = some (dataB l) := by
  unfold impl_dataOk.f impl_within.f dataB
  by_cases h : (l.length : Int) ≤ 400
  · rw [if_pos h, if_pos h, if_pos (by omega)]; rfl
  · rw [if_neg h, if_neg h]
theorem dataB_len {l : List Int} (h : dataB l = true) : l.length ≤ 400 := by
  unfold dataB at h; split at h
  · omega
  · cases h
/-- What is woven of two lists by flags; none if one of them is too short or too long. -/
def weaveGo : List Int → List Int → List Int → List Int → Option (List Int)
  | [], a, b, o => if a.isEmpty && b.isEmpty then some o else none
  | f :: fs, a, b, o => if f = 0 then (match b with | [] => none | x :: b' => weaveGo fs a b' (o ++ [x])) else (match a with | [] => none | x :: a' => weaveGo fs a' b (o ++ [x]))
def weaveR (o : Option (List Int)) : List Int × Bool := match o with | some l => (l, true) | none => ([], false)
def impl_WeaveData.f (l0 l1 l2 : List Int) : Option (List Int × Bool) := some (if dataB l0 && dataB l1 && dataB l2 then weaveR (weaveGo l0 l1 l2 []) else ([], false))

theorem dataOk_call (A0 : Option Addr) (c0 : Nat) (l0 : List Int) (w W : World) (hr0 : Kd.C (Kd.int .i64) w A0 l0.length l0) (hc0 : l0.length ≤ c0) (hB : Below w.heap.size w W) (b : Bool) (hb : dataB l0 = b) :
    Calls Try.prog 45 #[.slice A0 l0.length c0] W fun e w' => e = .returned (.bool b) ∧ Below W.heap.size W w' := impl_dataOk.calls A0 c0 l0 b W (Kd.C_below hr0 hB) hc0 (by rw [dataB_eq, hb])

set_option maxHeartbeats 1000000 in
theorem weave_no0 (A0 : Option Addr) (c0 : Nat) (l0 : List Int) (A1 : Option Addr) (c1 : Nat) (l1 : List Int) (A2 : Option Addr) (c2 : Nat) (l2 : List Int) (w : World) (hr0 : Kd.C (Kd.int .i64) w A0 l0.length l0) (hc0 : l0.length ≤ c0) (h0 : dataB l0 = false) :
    Calls Try.prog 30 #[.slice A0 l0.length c0, .slice A1 l1.length c1, .slice A2 l2.length c2] w fun e w' => e = .returned (.tuple #[.slice none 0 0, .bool false]) ∧ Below w.heap.size w w' := by
  have HB := Aside0.mk (show Below w.heap.size w ((w.alloc (.cells #[.slice A1 l1.length c1] 23)).alloc (.cells #[.slice A2 l2.length c2] 23)) from below_alloc (below_alloc (Below.refl _ _) _) _)
  have H0 := Aside0.mk (dataOk_call A0 c0 l0 w _ hr0 hc0 HB.out false h0)
  clear hr0 h0
  go_enter Try.func30, Try.ntmps30
  go_wp2_with (go_at_call 45; refine H0.out.mono ?_; rintro e w1 ⟨rfl, hb⟩)
  go_ret2
  exact ⟨rfl, below_step HB.out hb⟩

set_option maxHeartbeats 1000000 in
theorem weave_no1 (A0 : Option Addr) (c0 : Nat) (l0 : List Int) (A1 : Option Addr) (c1 : Nat) (l1 : List Int) (A2 : Option Addr) (c2 : Nat) (l2 : List Int) (w : World) (hr0 : Kd.C (Kd.int .i64) w A0 l0.length l0) (hc0 : l0.length ≤ c0) (hr1 : Kd.C (Kd.int .i64) w A1 l1.length l1) (hc1 : l1.length ≤ c1) (h0 : dataB l0 = true) (h1 : dataB l1 = false) :
    Calls Try.prog 30 #[.slice A0 l0.length c0, .slice A1 l1.length c1, .slice A2 l2.length c2] w fun e w' => e = .returned (.tuple #[.slice none 0 0, .bool false]) ∧ Below w.heap.size w w' := by
  obtain ⟨W, hW⟩ : ∃ W, W = ((w.alloc (.cells #[.slice A1 l1.length c1] 23)).alloc (.cells #[.slice A2 l2.length c2] 23)) := ⟨_, rfl⟩
  have HB := Aside0.mk (show Below w.heap.size w ((w.alloc (.cells #[.slice A1 l1.length c1] 23)).alloc (.cells #[.slice A2 l2.length c2] 23)) from below_alloc (below_alloc (Below.refl _ _) _) _)
  have H0 := Aside0.mk (dataOk_call A0 c0 l0 w _ hr0 hc0 HB.out true h0)
  have H1 := Aside0.mk (fun W1 (hB : Below w.heap.size w W1) => dataOk_call A1 c1 l1 w W1 hr1 hc1 hB false h1)
  clear hr0 h0 hr1 h1 hW
  go_enter Try.func30, Try.ntmps30
  go_wp2_with fail
  refine H0.out.mono ?_
  rintro e w1 ⟨rfl, hb⟩
  have hc4 := hb.cell (p := ⟨w.heap.size, 0, none⟩) (by simp; omega)
  have HB1 := Aside0.mk (below_step HB.out hb)
  clear hb
  go_wp2_with (go_at_call 45; refine (H1.out _ HB1.out).mono ?_; rintro e w2 ⟨rfl, hb2⟩)
  go_ret2
  exact ⟨rfl, below_step HB1.out hb2⟩

set_option maxHeartbeats 1000000 in
theorem weave_no2 (A0 : Option Addr) (c0 : Nat) (l0 : List Int) (A1 : Option Addr) (c1 : Nat) (l1 : List Int) (A2 : Option Addr) (c2 : Nat) (l2 : List Int) (w : World) (hr0 : Kd.C (Kd.int .i64) w A0 l0.length l0) (hc0 : l0.length ≤ c0) (hr1 : Kd.C (Kd.int .i64) w A1 l1.length l1) (hc1 : l1.length ≤ c1) (hr2 : Kd.C (Kd.int .i64) w A2 l2.length l2) (hc2 : l2.length ≤ c2) (h0 : dataB l0 = true) (h1 : dataB l1 = true) (h2 : dataB l2 = false) :
    Calls Try.prog 30 #[.slice A0 l0.length c0, .slice A1 l1.length c1, .slice A2 l2.length c2] w fun e w' => e = .returned (.tuple #[.slice none 0 0, .bool false]) ∧ Below w.heap.size w w' := by
  have HB := Aside0.mk (show Below w.heap.size w ((w.alloc (.cells #[.slice A1 l1.length c1] 23)).alloc (.cells #[.slice A2 l2.length c2] 23)) from below_alloc (below_alloc (Below.refl _ _) _) _)
  have H0 := Aside0.mk (dataOk_call A0 c0 l0 w _ hr0 hc0 HB.out true h0)
  have H1 := Aside0.mk (fun W1 (hB : Below w.heap.size w W1) => dataOk_call A1 c1 l1 w W1 hr1 hc1 hB true h1)
  have H2 := Aside0.mk (fun W1 (hB : Below w.heap.size w W1) => dataOk_call A2 c2 l2 w W1 hr2 hc2 hB false h2)
  clear hr0 h0 hr1 h1 hr2 h2
  go_enter Try.func30, Try.ntmps30
  go_wp2_with fail
  refine H0.out.mono ?_
  rintro e w1 ⟨rfl, hb⟩
  have hc4 := hb.cell (p := ⟨w.heap.size, 0, none⟩) (by simp; omega)
  have hc5 := hb.cell (p := ⟨w.heap.size + 1, 0, none⟩) (by simp)
  have HB1 := Aside0.mk (below_step HB.out hb)
  have hz1 := Aside0.mk (show w.heap.size + 1 + 1 ≤ w1.heap.size by have := hb.size; simpa using this)
  clear hb
  go_wp2_with fail
  refine (H1.out _ HB1.out).mono ?_
  rintro e w2 ⟨rfl, hb2⟩
  have hs2 := hb2.cell (p := ⟨w.heap.size + 1, 0, none⟩) (by show w.heap.size + 1 < w1.heap.size; have := hz1.out; omega)
  have hc6 := hs2.trans hc5
  have HB2 := Aside0.mk (below_step HB1.out hb2)
  clear hb2 hc4 hc5 hs2
  go_wp2_with (go_at_call 45; refine (H2.out _ HB2.out).mono ?_; rintro e w3 ⟨rfl, hb3⟩)
  go_ret2
  exact ⟨rfl, below_step HB2.out hb3⟩

/-- Where the loop begins: three calls have been made. -/
theorem heap_two (w : World) (x y : Obj) : ((w.alloc x).alloc y).heap[w.heap.size]? = some x ∧ ((w.alloc x).alloc y).heap[w.heap.size + 1]? = some y := by
  constructor
  · show ((w.heap.push x).push y)[w.heap.size]? = _
    simp [Array.getElem?_push]
  · show ((w.heap.push x).push y)[w.heap.size + 1]? = _
    rw [Array.getElem?_push, if_pos (by simp)]

set_option maxHeartbeats 2000000 in
theorem weave_yes (A0 : Option Addr) (c0 : Nat) (l0 : List Int) (A1 : Option Addr) (c1 : Nat) (l1 : List Int) (A2 : Option Addr) (c2 : Nat) (l2 : List Int) (w : World) (hr0 : Kd.C (Kd.int .i64) w A0 l0.length l0) (hc0 : l0.length ≤ c0) (hr1 : Kd.C (Kd.int .i64) w A1 l1.length l1) (hc1 : l1.length ≤ c1) (hr2 : Kd.C (Kd.int .i64) w A2 l2.length l2) (hc2 : l2.length ≤ c2) (h0 : dataB l0 = true) (h1 : dataB l1 = true) (h2 : dataB l2 = true) (r1 : List Int) (r2 : Bool) (hw : weaveR (weaveGo l0 l1 l2 []) = (r1, r2)) :
    Calls Try.prog 30 #[.slice A0 l0.length c0, .slice A1 l1.length c1, .slice A2 l2.length c2] w fun e w' => ∃ v0_ : Value, e = .returned (.tuple #[v0_, .bool r2]) ∧ Kd.R (Kd.int .i64) 3 w' w.heap.size (fun _ => True) v0_ r1 ∧ Below w.heap.size w w' := by
  have HB := Aside0.mk (show Below w.heap.size w ((w.alloc (.cells #[.slice A1 l1.length c1] 23)).alloc (.cells #[.slice A2 l2.length c2] 23)) from below_alloc (below_alloc (Below.refl _ _) _) _)
  have H0 := Aside0.mk (dataOk_call A0 c0 l0 w _ hr0 hc0 HB.out true h0)
  have H1 := Aside0.mk (fun W1 (hB : Below w.heap.size w W1) => dataOk_call A1 c1 l1 w W1 hr1 hc1 hB true h1)
  have H2 := Aside0.mk (fun W1 (hB : Below w.heap.size w W1) => dataOk_call A2 c2 l2 w W1 hr2 hc2 hB true h2)
  have HL0 := Aside0.mk (dataB_len h0)
  have HR0 := Aside0.mk hr0
  have HR1 := Aside0.mk hr1
  have HR2 := Aside0.mk hr2
  have HW := Aside0.mk hw
  have HCC := Aside0.mk (And.intro hc1 hc2)
  clear hr0 h0 hr1 h1 hr2 h2 hw
  go_enter Try.func30, Try.ntmps30
  go_wp2_with fail
  refine H0.out.mono ?_
  rintro e w1 ⟨rfl, hb⟩
  have HG1 := Aside0.mk (show w1.heap[w.heap.size]? = some (.cells #[.slice A1 l1.length c1] 23 (0, 0)) from (hb.block w.heap.size (by simp; omega)).trans (heap_two w _ _).1)
  have HG2 := Aside0.mk (show w1.heap[w.heap.size + 1]? = some (.cells #[.slice A2 l2.length c2] 23 (0, 0)) from (hb.block (w.heap.size + 1) (by simp)).trans (heap_two w _ _).2)
  have hc4 := cell_of_one HG1.out
  have HB1 := Aside0.mk (below_step HB.out hb)
  have hz1 := Aside0.mk (show w.heap.size + 1 + 1 ≤ w1.heap.size by have := hb.size; simpa using this)
  clear hb
  go_wp2_with fail
  refine (H1.out _ HB1.out).mono ?_
  rintro e w2 ⟨rfl, hb2⟩
  have HG3 := Aside0.mk ((hb2.block w.heap.size (by have := hz1.out; omega)).trans HG1.out)
  have HG4 := Aside0.mk ((hb2.block (w.heap.size + 1) (by have := hz1.out; omega)).trans HG2.out)
  have HB2 := Aside0.mk (below_step HB1.out hb2)
  have hz2 := Aside0.mk (show w.heap.size + 1 + 1 ≤ w2.heap.size by have := hb2.size; have := hz1.out; omega)
  have hc5 := cell_of_one HG4.out
  clear hb2 hc4 HG1 HG2 hz1 HB1
  go_wp2_with fail
  refine (H2.out _ HB2.out).mono ?_
  rintro e w3 ⟨rfl, hb3⟩
  have HG1 := Aside0.mk ((hb3.block w.heap.size (by have := hz2.out; omega)).trans HG3.out)
  have HG2 := Aside0.mk ((hb3.block (w.heap.size + 1) (by have := hz2.out; omega)).trans HG4.out)
  have HB3 := Aside0.mk (below_step HB2.out hb3)
  have hz3 := Aside0.mk (show w.heap.size + 1 + 1 ≤ w3.heap.size by have := hb3.size; have := hz2.out; omega)
  clear hb3 hc5 HG3 HG4 hz2 HB2 HB H0 H1 H2
  have HL1 := Aside0.mk (show l0.length ≤ 400 from HL0.out)
  go_wp2_with fail
  go_loopg [8, 28] l0.length (fun kq v8 v28 w' => ∃ (x28 : Int) (i : Nat) (a' b' o : List Int) (Aa Ab : Option Addr) (ca cb : Nat), v28 = .int .i64 x28 ∧ Aside0 (x28 = (i : Int)) ∧ Aside0 (kq + i = l0.length) ∧ Aside0 (w'.heap[w.heap.size]? = some (.cells #[.slice Aa a'.length ca] 23 (0, 0))) ∧ Aside0 (w'.heap[w.heap.size + 1]? = some (.cells #[.slice Ab b'.length cb] 23 (0, 0))) ∧ Aside0 (a'.length ≤ ca) ∧ Aside0 (b'.length ≤ cb) ∧ Aside0 (Kd.C (Kd.int .i64) w Aa a'.length a') ∧ Aside0 (Kd.C (Kd.int .i64) w Ab b'.length b') ∧ Aside0 (Kd.R (Kd.int .i64) 3 w' w.heap.size (fun k_ => k_ ≠ w.heap.size ∧ k_ ≠ w.heap.size + 1) v8 o) ∧ Aside0 (weaveR (weaveGo (l0.drop i) a' b' o) = (r1, r2)) ∧ Aside0 (o.length ≤ i) ∧ Aside0 (Below w.heap.size w w') ∧ Aside0 (w.heap.size + 1 + 1 ≤ w'.heap.size))
  case atStart =>
    refine ⟨0, 0, l1, l2, [], A1, A2, c1, c2, rfl, ⟨rfl⟩, ⟨by omega⟩, ⟨?_⟩, ⟨?_⟩, ⟨hc1⟩, ⟨hc2⟩, HR1, HR2, ⟨?_⟩, ⟨by rw [List.drop_zero]; exact HW.out⟩, ⟨by simp⟩, ⟨below_alloc HB3.out _⟩, ⟨?_⟩⟩
    · exact (Below.heap_alloc w3 _ _ (by have := hz3.out; omega)).trans HG1.out
    · exact (Below.heap_alloc w3 _ _ (by have := hz3.out; omega)).trans HG2.out
    · have h2 := World.ownsRow_lit (base := w.heap.size) (e := 3) (size := 1) w3 #[] 0 (by have := hz3.out; omega) (by simp [maxLen]) (by simp)
      have h3 : (w3.alloc (.cells #[] 3)).ownsRow w.heap.size 3 1 (.slice (some ⟨w3.heap.size, 0, none⟩) 0 0) 0 [] := by simpa using h2
      refine ⟨fun k hk => ?_, [], h3, Reps.none _ _⟩
      have : w3.heap.size = k := by simpa [Value.ownBlock] using hk
      have := hz3.out
      constructor <;> omega
    · have := hz3.out; simp; omega
  case round =>
    obtain ⟨x28, i, a', b', o, Aa, Ab, ca, cb, rfl, HX, HK, HGa, HGb, Hca, Hcb, HCa, HCb, HO, HV, HN, HB, HZ⟩ := hrel
    have hcA := cell_of_one HGa.out
    have hcB := cell_of_one HGb.out
    by_cases c1 : x28 < (l0.length : Int)
    · have c1b : decide (x28 < (l0.length : Int)) = true := decide_eq_true c1
      have hi0 : (0 : Int) ≤ x28 := by have := HX.out; omega
      have hi1 : x28 < (l0.length : Int) := c1
      have c1' : i < l0.length := by have := HX.out; omega
      obtain ⟨ad6, e6, hx6⟩ := Kd.at_int HR0.out x28 hi0 hi1
      cases e6
      (try replace hx6 := (HB.out.cell (World.block_lt_of_cell? w _ hx6)).trans hx6)
      have HD := Aside0.mk (show l0.drop i = rd l0 x28 :: l0.drop (i + 1) from by rw [HX.out, List.drop_eq_getElem_cons c1']; simp [rd, List.getD_eq_getElem?_getD, List.getElem?_eq_getElem c1'])
      clear c1 c1'
      replace hi0 := eq_true hi0
      replace hi1 := eq_true hi1
      by_cases c2 : rd l0 x28 = 0
      · have c2b : decide (rd l0 x28 = 0) = true := decide_eq_true c2
        have HV2 := HV.out
        rw [HD.out] at HV2
        clear HV
        cases b' with
        | nil =>
          simp only [weaveGo, if_pos c2, weaveR, Prod.mk.injEq] at HV2
          obtain ⟨rfl, rfl⟩ := HV2
          go_wp2
          go_ret2
          exact ⟨_, rfl, Kd.R_nil _ _ _ _ _, HB.out⟩
        | cons x b' =>
          simp only [weaveGo, if_pos c2] at HV2
          have HV := Aside0.mk HV2
          clear HV2
          have p0 : (0 : Int) ≤ 0 := by omega
          have q0 : (0 : Int) < ((x :: b').length : Int) := by simp
          obtain ⟨ad7, e7, hx7⟩ := Kd.at_int HCb.out (0 : Int) p0 q0
          cases e7
          (try replace hx7 := (HB.out.cell (World.block_lt_of_cell? w _ hx7)).trans hx7)
          have hx7' : rd (x :: b') 0 = x := rfl
          try rw [hx7'] at hx7
          have hx70 : wr.cell? (ad7.add 0) = some (.int .i64 x) := hx7
          have hx71 : wr.cell? ad7 = some (.int .i64 x) := by have h_ : ad7.add 0 = ad7 := by simp [Addr.add]
                                                              rw [← h_]; exact hx70
          obtain ⟨i0_, hi0_, _, hsz_, _⟩ := info_parts info3
          have hcut := cut_from (P := Try.prog) 23 3 .i64 Try.underlying23 hi0_ 1 hsz_ (some ad7) (x :: b').length cb (1 : Int) (by omega) (by simp; omega)
          go_wp2_with (first | ((with_reducible refine gate_builtin (b := .append) (xs := #[.tmp 39, .tmp 45]) rfl ?_); (try (refine gate_guard (by rfl) ?_; dsimp only)); at_builtin; refine Kd.R_append (Kd.int .i64) (w0 := w) w.heap.size rfl (.tmp 39) (.tmp 45) 23 3 (.int .i64 0) 8 rfl Try.underlying23 info3 rfl (by decide) (by omega) u8 o x [.int .i64 x] (fun k_ => k_ ≠ w.heap.size ∧ k_ ≠ w.heap.size + 1) (fun _ => False) rfl rfl ?aP (fun _ hk => hk.elim) ?aF ?aO ?aB ?aS ?aL ?_; (case aP => exact rfl); (case aB => exact HB.out); (case aF => exact fun k hk => by have := HZ.out; constructor <;> omega); (case aO => exact HO.out); (case aS => exact below_size HB.out); (case aL => have := HN.out; have := HK.out; have := HL1.out; omega); intro v9 w21 ho hb hg hat; have HO2 := Aside0.mk ho; have HB2 := Aside0.mk hb; have HGa2 := Aside0.mk ((hg.block w.heap.size (by have := HZ.out; omega) (fun e_ => (HO.out.1 _ e_.symm).1 rfl)).trans HGa.out); have HGb2 := Aside0.mk ((hg.block (w.heap.size + 1) (by have := HZ.out; omega) (fun e_ => (HO.out.1 _ e_.symm).2 rfl)).trans HGb.out); have HZ2 := Aside0.mk (show w.heap.size + 1 + 1 ≤ w21.heap.size from by have := hg.size; have := HZ.out; omega); have hc8 := cell_of_one HGb2.out; have hf8 := free_of_one HGb2.out; clear ho hb hg hat))
          all_goals
            have hlt := of_eq_true hi1
            have hD := Kd.C_drop (m := 1) (c := cb) HCb.out (by simp) Hcb.out
            have hcl : b'.length + 1 ≤ cb := by have := Hcb.out; simpa using this
            go_roundg (gk - 1)
            case measure => have := HK.out; have := HX.out; omega
            case rel =>
              refine ⟨wrap64 (x28 + 1), i + 1, a', b', o ++ [x], Aa, _, ca, _, rfl, ⟨?_⟩, ⟨?_⟩, ⟨(Below.heap_setCell _ _ _ _ (by simp)).trans HGa2.out⟩, ⟨one_setCell HGb2.out⟩, Hca, ⟨?_⟩, HCa, ⟨?_⟩, ⟨Kd.R_far HO2.out (fun k hk => hk.2) _⟩, ⟨HV.out⟩, ⟨?_⟩, ⟨HB2.out.setCell (by simp) _⟩, ⟨by simpa using HZ2.out⟩⟩
              · rw [HX.out, wrap64]; have := HL1.out; have := HX.out; omega
              · have := HK.out; have := HX.out; omega
              · omega
              · first | (rw [if_pos (by assumption)] at hD; exact hD) | (rw [if_neg (by assumption)] at hD; exact hD) | simpa [*] using hD
              · have := HN.out; simp; omega
      · have c2b : decide (rd l0 x28 = 0) = false := decide_eq_false c2
        have HV2 := HV.out
        rw [HD.out] at HV2
        clear HV
        cases a' with
        | nil =>
          simp only [weaveGo, if_neg c2, weaveR, Prod.mk.injEq] at HV2
          obtain ⟨rfl, rfl⟩ := HV2
          go_wp2
          go_ret2
          exact ⟨_, rfl, Kd.R_nil _ _ _ _ _, HB.out⟩
        | cons x a' =>
          simp only [weaveGo, if_neg c2] at HV2
          have HV := Aside0.mk HV2
          clear HV2
          have p0 : (0 : Int) ≤ 0 := by omega
          have q0 : (0 : Int) < ((x :: a').length : Int) := by simp
          obtain ⟨ad7, e7, hx7⟩ := Kd.at_int HCa.out (0 : Int) p0 q0
          cases e7
          (try replace hx7 := (HB.out.cell (World.block_lt_of_cell? w _ hx7)).trans hx7)
          have hx7' : rd (x :: a') 0 = x := rfl
          try rw [hx7'] at hx7
          have hx70 : wr.cell? (ad7.add 0) = some (.int .i64 x) := hx7
          have hx71 : wr.cell? ad7 = some (.int .i64 x) := by have h_ : ad7.add 0 = ad7 := by simp [Addr.add]
                                                              rw [← h_]; exact hx70
          obtain ⟨i0_, hi0_, _, hsz_, _⟩ := info_parts info3
          have hcut := cut_from (P := Try.prog) 23 3 .i64 Try.underlying23 hi0_ 1 hsz_ (some ad7) (x :: a').length ca (1 : Int) (by omega) (by simp; omega)
          go_wp2_with (first | ((with_reducible refine gate_builtin (b := .append) (xs := #[.tmp 39, .tmp 45]) rfl ?_); (try (refine gate_guard (by rfl) ?_; dsimp only)); at_builtin; refine Kd.R_append (Kd.int .i64) (w0 := w) w.heap.size rfl (.tmp 39) (.tmp 45) 23 3 (.int .i64 0) 8 rfl Try.underlying23 info3 rfl (by decide) (by omega) u8 o x [.int .i64 x] (fun k_ => k_ ≠ w.heap.size ∧ k_ ≠ w.heap.size + 1) (fun _ => False) rfl rfl ?aP (fun _ hk => hk.elim) ?aF ?aO ?aB ?aS ?aL ?_; (case aP => exact rfl); (case aB => exact HB.out); (case aF => exact fun k hk => by have := HZ.out; constructor <;> omega); (case aO => exact HO.out); (case aS => exact below_size HB.out); (case aL => have := HN.out; have := HK.out; have := HL1.out; omega); intro v9 w21 ho hb hg hat; have HO2 := Aside0.mk ho; have HB2 := Aside0.mk hb; have HGa2 := Aside0.mk ((hg.block w.heap.size (by have := HZ.out; omega) (fun e_ => (HO.out.1 _ e_.symm).1 rfl)).trans HGa.out); have HGb2 := Aside0.mk ((hg.block (w.heap.size + 1) (by have := HZ.out; omega) (fun e_ => (HO.out.1 _ e_.symm).2 rfl)).trans HGb.out); have HZ2 := Aside0.mk (show w.heap.size + 1 + 1 ≤ w21.heap.size from by have := hg.size; have := HZ.out; omega); have hc8 := cell_of_one HGa2.out; have hf8 := free_of_one HGa2.out; clear ho hb hg hat))
          all_goals
            have hlt := of_eq_true hi1
            have hD := Kd.C_drop (m := 1) (c := ca) HCa.out (by simp) Hca.out
            have hcl : a'.length + 1 ≤ ca := by have := Hca.out; simpa using this
            go_roundg (gk - 1)
            case measure => have := HK.out; have := HX.out; omega
            case rel =>
              refine ⟨wrap64 (x28 + 1), i + 1, a', b', o ++ [x], _, Ab, _, cb, rfl, ⟨?_⟩, ⟨?_⟩, ⟨one_setCell HGa2.out⟩, ⟨(Below.heap_setCell _ _ _ _ (by simp)).trans HGb2.out⟩, ⟨?_⟩, Hcb, ⟨?_⟩, HCb, ⟨Kd.R_far HO2.out (fun k hk => hk.1) _⟩, ⟨HV.out⟩, ⟨?_⟩, ⟨HB2.out.setCell (by simp) _⟩, ⟨by simpa using HZ2.out⟩⟩
              · rw [HX.out, wrap64]; have := HL1.out; have := HX.out; omega
              · have := HK.out; have := HX.out; omega
              · omega
              · first | (rw [if_pos (by assumption)] at hD; exact hD) | (rw [if_neg (by assumption)] at hD; exact hD) | simpa [*] using hD
              · have := HN.out; simp; omega
    · have c1b : decide (x28 < (l0.length : Int)) = false := decide_eq_false c1
      have HV2 := HV.out
      rw [List.drop_eq_nil_of_le (by have := HX.out; omega), weaveGo] at HV2
      clear c1
      clear HV
      cases a' with
      | nil =>
        cases b' with
        | nil =>
          simp only [List.isEmpty_nil, Bool.and_self, if_true, weaveR, Prod.mk.injEq] at HV2
          obtain ⟨rfl, rfl⟩ := HV2
          go_wp2
          go_ret2
          exact ⟨_, rfl, Kd.R_mono HO.out (fun _ _ => trivial), HB.out⟩
        | cons y b' =>
          simp only [List.isEmpty_nil, List.isEmpty_cons, Bool.and_false, Bool.false_eq_true, if_false, weaveR, Prod.mk.injEq] at HV2
          obtain ⟨rfl, rfl⟩ := HV2
          go_wp2
          go_ret2
          exact ⟨_, rfl, Kd.R_nil _ _ _ _ _, HB.out⟩
      | cons y a' =>
        simp only [List.isEmpty_cons, Bool.false_and, Bool.false_eq_true, if_false, weaveR, Prod.mk.injEq] at HV2
        obtain ⟨rfl, rfl⟩ := HV2
        go_wp2
        go_ret2
        exact ⟨_, rfl, Kd.R_nil _ _ _ _ _, HB.out⟩
theorem impl_WeaveData.calls (A0 : Option Addr) (c0 : Nat) (l0 : List Int) (A1 : Option Addr) (c1 : Nat) (l1 : List Int) (A2 : Option Addr) (c2 : Nat) (l2 : List Int) (r1 : List Int) (r2 : Bool) (w : World) (hr0 : Kd.C (Kd.int .i64) w A0 l0.length l0) (hc0 : l0.length ≤ c0) (hr1 : Kd.C (Kd.int .i64) w A1 l1.length l1) (hc1 : l1.length ≤ c1) (hr2 : Kd.C (Kd.int .i64) w A2 l2.length l2) (hc2 : l2.length ≤ c2) (h : impl_WeaveData.f l0 l1 l2 = some (r1, r2)) :
    Calls Try.prog 30 #[.slice A0 l0.length c0, .slice A1 l1.length c1, .slice A2 l2.length c2] w fun e w' => ∃ v0_ : Value, e = .returned (.tuple #[v0_, .bool r2]) ∧ Kd.R (Kd.int .i64) 3 w' w.heap.size (fun _ => True) v0_ r1 ∧ Below w.heap.size w w' := by
  unfold impl_WeaveData.f at h
  have no : (dataB l0 && dataB l1 && dataB l2) = false → (Calls Try.prog 30 #[.slice A0 l0.length c0, .slice A1 l1.length c1, .slice A2 l2.length c2] w fun e w' => e = .returned (.tuple #[.slice none 0 0, .bool false]) ∧ Below w.heap.size w w') → (Calls Try.prog 30 #[.slice A0 l0.length c0, .slice A1 l1.length c1, .slice A2 l2.length c2] w fun e w' => ∃ v0_ : Value, e = .returned (.tuple #[v0_, .bool r2]) ∧ Kd.R (Kd.int .i64) 3 w' w.heap.size (fun _ => True) v0_ r1 ∧ Below w.heap.size w w') := by
    intro hn hC
    rw [hn] at h
    simp only [Bool.false_eq_true, if_false, Option.some.injEq, Prod.mk.injEq] at h
    obtain ⟨rfl, rfl⟩ := h
    exact hC.mono fun e w' he => ⟨_, he.1, Kd.R_nil _ _ _ _ _, he.2⟩
  cases h0 : dataB l0 with
  | false => exact no (by simp [h0]) (weave_no0 A0 c0 l0 A1 c1 l1 A2 c2 l2 w hr0 hc0 h0)
  | true =>
    cases h1 : dataB l1 with
    | false => exact no (by simp [h1]) (weave_no1 A0 c0 l0 A1 c1 l1 A2 c2 l2 w hr0 hc0 hr1 hc1 h0 h1)
    | true =>
      cases h2 : dataB l2 with
      | false => exact no (by simp [h2]) (weave_no2 A0 c0 l0 A1 c1 l1 A2 c2 l2 w hr0 hc0 hr1 hc1 hr2 hc2 h0 h1 h2)
      | true =>
        rw [h0, h1, h2] at h
        exact weave_yes A0 c0 l0 A1 c1 l1 A2 c2 l2 w hr0 hc0 hr1 hc1 hr2 hc2 h0 h1 h2 r1 r2 (by simpa using h)

end Go.Proofs.Ytifnnehjpgodfaa.We
