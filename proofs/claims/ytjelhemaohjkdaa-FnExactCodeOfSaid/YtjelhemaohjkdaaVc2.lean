-- Written for this claim by a program (wip/hyb/hyb.py).
import Derived.Test.YtjelhemaohjkdaaVc0
namespace Go.Proofs.Ytjelhemaohjkdaa.Vc
open Go.RowKit Go.Proofs.YtjelhemaohjkdaaW.PrintWords Go.Proofs.YtjelhemaohjkdaaW.PrintLast Go.Proofs.YtjelhemaohjkdaaW.PrintMore
attribute [local go_sem] max2_int min2_int max_two min_two max_three min_three max_four min_four   -- for this text's walks alone
set_option linter.unusedVariables false
set_option linter.unusedSimpArgs false

/-! ### spec_l7List: function 52 -/
def spec_l7List.f : Nat → Int → Int → List (S38) → Option (List ByteArray)
  | 0, _, _, _ => none
  | k + 1, a0_0, a0_1, l0_2 => (some (([a0_0] : List Int) : List Int)).bind fun y20002 => ((some (([a0_1] : List Int) : List Int)).bind fun y20005 => (if (l0_2.length : Int) = 0 then (some (([strOfNums y20005] : List ByteArray))) else (if (l0_2.length : Int) = 1 then (if 0 < (l0_2.length : Int) then ((spec_l7List.f k ((rd_T38 l0_2 0).f0) ((rd_T38 l0_2 0).f1) ((rd_T38 l0_2 0).f2)).bind fun t20012 => ((some (([strOfNums y20002] : List ByteArray) : List ByteArray)).bind fun y20015 => (if t20012.length + y20015.length < 8796093022208 then (some (t20012 ++ y20015)) else (none)))) else (none)) else (if 0 < (l0_2.length : Int) then ((spec_l7List.f k ((rd_T38 l0_2 0).f0) ((rd_T38 l0_2 0).f1) ((rd_T38 l0_2 0).f2)).bind fun t20022 => (if a0_1 = 0 then (if 1 < (l0_2.length : Int) then ((spec_l7List.f k ((rd_T38 l0_2 1).f0) ((rd_T38 l0_2 1).f1) ((rd_T38 l0_2 1).f2)).bind fun t20026 => (if t20022.length + t20026.length < 8796093022208 then ((some (t20022 ++ t20026 : List ByteArray)).bind fun y20029 => ((some (([strOfNums y20002] : List ByteArray) : List ByteArray)).bind fun y20032 => (if y20029.length + y20032.length < 8796093022208 then (some (y20029 ++ y20032)) else (none)))) else (none))) else (none)) else (if (strOfNums y20002).size + (strOfNums y20005).size ≤ 9223372036854775807 then ((some (([(strOfNums y20002) ++ (strOfNums y20005)] : List ByteArray) : List ByteArray)).bind fun y20038 => (if t20022.length + y20038.length < 8796093022208 then ((some (t20022 ++ y20038 : List ByteArray)).bind fun y20041 => (if 1 < (l0_2.length : Int) then ((spec_l7List.f k ((rd_T38 l0_2 1).f0) ((rd_T38 l0_2 1).f1) ((rd_T38 l0_2 1).f2)).bind fun t20045 => (if y20041.length + t20045.length < 8796093022208 then ((some (y20041 ++ t20045 : List ByteArray)).bind fun y20048 => ((some (([strOfNums (([(a0_0 + 2) % 256] : List Int))] : List ByteArray) : List ByteArray)).bind fun y20054 => (if y20048.length + y20054.length < 8796093022208 then (some (y20048 ++ y20054)) else (none)))) else (none))) else (none))) else (none))) else (none)))) else (none)))))
theorem spec_l7List.mono_l : ∀ k, (∀ y0 y1 y2, LeO (spec_l7List.f k y0 y1 y2) (spec_l7List.f (k + 1) y0 y1 y2))
  | 0 => fun _ _ _ r h => by simp [spec_l7List.f] at h
  | k + 1 => by
    have ih0 := spec_l7List.mono_l k
    · intro y0 y1 y2
      unfold spec_l7List.f
      repeat' first
      | (with_reducible exact ih0 _ _ _)
      | (with_reducible exact LeO.refl _)
      | (with_reducible exact LeO.none _)
      | (with_reducible refine LeO.ite ?_ ?_)
      | (with_reducible refine LeO.bind ?_ (fun _ => ?_))
      | exact ih0 _ _ _
      | exact LeO.none _
      | refine LeO.ite ?_ ?_
      | refine LeO.bind ?_ (fun _ => ?_)
theorem spec_l7List.mono : ∀ a0 a1 a2 k, LeO (spec_l7List.f k a0 a1 a2) (spec_l7List.f (k + 1) a0 a1 a2) := by
  intro a0 a1 a2 k
  have ih0 := spec_l7List.mono_l k
  exact ih0 a0 a1 a2
def spec_l7List.T11 : Bool × List (List Nat × List Nat) := (true, [([], []), ([], []), ([1], [1]), ([2], [2]), ([3], [3]), ([4], [4]), ([0, 5, 5], [0, 5]), ([], []), ([7], [7]), ([8], [8]), ([9], [9]), ([10], [10]), ([11], [11]), ([6, 12, 6], [6, 12]), ([13, 13, 0, 1, 2, 3, 4, 5, 6, 7, 8, 9, 10, 11, 12, 13], [13])])
def spec_l7List.B11 : List Nat := [0, 0, 2, 6, 14, 30, 63, 0, 128, 384, 896, 1920, 3968, 8191, 16383]
theorem spec_l7List.tab11 : rtab .any (opsOf Try.f52 11) = spec_l7List.T11 := by kernel_rfl
theorem spec_l7List.bits11 : waitsOk spec_l7List.T11.2 spec_l7List.B11 = true := by kernel_rfl
set_option maxHeartbeats 8000000 in
set_option maxRecDepth 100000 in
theorem spec_l7List.calls (k : Nat) : ∀ (a0_0 : Int) (a0_1 : Int) (A0_2 : Option Addr) (c0_2 : Nat) (l0_2 : List (S38)) (r : List ByteArray) (w : World) (hr0_2 : Kd.C k38 w A0_2 l0_2.length l0_2) (hc0_2 : l0_2.length ≤ c0_2) (h : spec_l7List.f k a0_0 a0_1 l0_2 = some r),
    Calls Try.prog 52 #[.agg #[.int .u8 a0_0, .int .u8 a0_1, .slice A0_2 l0_2.length c0_2]] w fun e w' => ∃ v0_ : Value, e = .returned (v0_) ∧ Kd.R Kd.string 9 w' w.heap.size (fun _ => True) v0_ r ∧ Below w.heap.size w w' := by
  induction k using Nat.strongRecOn with
  | _ k ih =>
  intro a0_0 a0_1 A0_2 c0_2 l0_2 r w hr0_2 hc0_2 h
  cases k with
  | zero => exact absurd h (by simp [spec_l7List.f])
  | succ k =>
  simp only [spec_l7List.f] at h
  have hu38 := Try.underlying38
  have HR0_2 := Aside0.mk hr0_2
  have HC0_2 := Aside0.mk hc0_2
  clear hr0_2 hc0_2
  have HB := Aside0.mk (Below.refl w.heap.size w)
  have H : ((some (([a0_0] : List Int) : List Int)).bind fun y20002 => ((some (([a0_1] : List Int) : List Int)).bind fun y20005 => (if (l0_2.length : Int) = 0 then (some (([strOfNums y20005] : List ByteArray))) else (if (l0_2.length : Int) = 1 then (if 0 < (l0_2.length : Int) then ((spec_l7List.f k ((rd_T38 l0_2 0).f0) ((rd_T38 l0_2 0).f1) ((rd_T38 l0_2 0).f2)).bind fun t20012 => ((some (([strOfNums y20002] : List ByteArray) : List ByteArray)).bind fun y20015 => (if t20012.length + y20015.length < 8796093022208 then (some (t20012 ++ y20015)) else (none)))) else (none)) else (if 0 < (l0_2.length : Int) then ((spec_l7List.f k ((rd_T38 l0_2 0).f0) ((rd_T38 l0_2 0).f1) ((rd_T38 l0_2 0).f2)).bind fun t20022 => (if a0_1 = 0 then (if 1 < (l0_2.length : Int) then ((spec_l7List.f k ((rd_T38 l0_2 1).f0) ((rd_T38 l0_2 1).f1) ((rd_T38 l0_2 1).f2)).bind fun t20026 => (if t20022.length + t20026.length < 8796093022208 then ((some (t20022 ++ t20026 : List ByteArray)).bind fun y20029 => ((some (([strOfNums y20002] : List ByteArray) : List ByteArray)).bind fun y20032 => (if y20029.length + y20032.length < 8796093022208 then (some (y20029 ++ y20032)) else (none)))) else (none))) else (none)) else (if (strOfNums y20002).size + (strOfNums y20005).size ≤ 9223372036854775807 then ((some (([(strOfNums y20002) ++ (strOfNums y20005)] : List ByteArray) : List ByteArray)).bind fun y20038 => (if t20022.length + y20038.length < 8796093022208 then ((some (t20022 ++ y20038 : List ByteArray)).bind fun y20041 => (if 1 < (l0_2.length : Int) then ((spec_l7List.f k ((rd_T38 l0_2 1).f0) ((rd_T38 l0_2 1).f1) ((rd_T38 l0_2 1).f2)).bind fun t20045 => (if y20041.length + t20045.length < 8796093022208 then ((some (y20041 ++ t20045 : List ByteArray)).bind fun y20048 => ((some (([strOfNums (([(a0_0 + 2) % 256] : List Int))] : List ByteArray) : List ByteArray)).bind fun y20054 => (if y20048.length + y20054.length < 8796093022208 then (some (y20048 ++ y20054)) else (none)))) else (none))) else (none))) else (none))) else (none)))) else (none)))))) = some r := h
  clear h
  obtain ⟨y20002, hy20002⟩ : ∃ y_ : List Int, y_ = (([a0_0] : List Int)) := ⟨_, rfl⟩
  replace H : ((some (([a0_1] : List Int) : List Int)).bind fun y20005 => (if (l0_2.length : Int) = 0 then (some (([strOfNums y20005] : List ByteArray))) else (if (l0_2.length : Int) = 1 then (if 0 < (l0_2.length : Int) then ((spec_l7List.f k ((rd_T38 l0_2 0).f0) ((rd_T38 l0_2 0).f1) ((rd_T38 l0_2 0).f2)).bind fun t20012 => ((some (([strOfNums y20002] : List ByteArray) : List ByteArray)).bind fun y20015 => (if t20012.length + y20015.length < 8796093022208 then (some (t20012 ++ y20015)) else (none)))) else (none)) else (if 0 < (l0_2.length : Int) then ((spec_l7List.f k ((rd_T38 l0_2 0).f0) ((rd_T38 l0_2 0).f1) ((rd_T38 l0_2 0).f2)).bind fun t20022 => (if a0_1 = 0 then (if 1 < (l0_2.length : Int) then ((spec_l7List.f k ((rd_T38 l0_2 1).f0) ((rd_T38 l0_2 1).f1) ((rd_T38 l0_2 1).f2)).bind fun t20026 => (if t20022.length + t20026.length < 8796093022208 then ((some (t20022 ++ t20026 : List ByteArray)).bind fun y20029 => ((some (([strOfNums y20002] : List ByteArray) : List ByteArray)).bind fun y20032 => (if y20029.length + y20032.length < 8796093022208 then (some (y20029 ++ y20032)) else (none)))) else (none))) else (none)) else (if (strOfNums y20002).size + (strOfNums y20005).size ≤ 9223372036854775807 then ((some (([(strOfNums y20002) ++ (strOfNums y20005)] : List ByteArray) : List ByteArray)).bind fun y20038 => (if t20022.length + y20038.length < 8796093022208 then ((some (t20022 ++ y20038 : List ByteArray)).bind fun y20041 => (if 1 < (l0_2.length : Int) then ((spec_l7List.f k ((rd_T38 l0_2 1).f0) ((rd_T38 l0_2 1).f1) ((rd_T38 l0_2 1).f2)).bind fun t20045 => (if y20041.length + t20045.length < 8796093022208 then ((some (y20041 ++ t20045 : List ByteArray)).bind fun y20048 => ((some (([strOfNums (([(a0_0 + 2) % 256] : List Int))] : List ByteArray) : List ByteArray)).bind fun y20054 => (if y20048.length + y20054.length < 8796093022208 then (some (y20048 ++ y20054)) else (none)))) else (none))) else (none))) else (none))) else (none)))) else (none))))) = some r := by first | (rw [hy20002]; with_reducible exact H) | (have H2_ := (Option.bind_some _ _).symm.trans H; rw [hy20002]; with_reducible exact H2_) | (have H2_ := (Option.bind_some _ _).symm.trans H; with_reducible exact H2_) | with_reducible exact H | (rw [hy20002]; exact H) | exact H
  have Ny20002 := Aside0.mk hy20002
  clear hy20002
  obtain ⟨y20005, hy20005⟩ : ∃ y_ : List Int, y_ = (([a0_1] : List Int)) := ⟨_, rfl⟩
  replace H : (if (l0_2.length : Int) = 0 then (some (([strOfNums y20005] : List ByteArray))) else (if (l0_2.length : Int) = 1 then (if 0 < (l0_2.length : Int) then ((spec_l7List.f k ((rd_T38 l0_2 0).f0) ((rd_T38 l0_2 0).f1) ((rd_T38 l0_2 0).f2)).bind fun t20012 => ((some (([strOfNums y20002] : List ByteArray) : List ByteArray)).bind fun y20015 => (if t20012.length + y20015.length < 8796093022208 then (some (t20012 ++ y20015)) else (none)))) else (none)) else (if 0 < (l0_2.length : Int) then ((spec_l7List.f k ((rd_T38 l0_2 0).f0) ((rd_T38 l0_2 0).f1) ((rd_T38 l0_2 0).f2)).bind fun t20022 => (if a0_1 = 0 then (if 1 < (l0_2.length : Int) then ((spec_l7List.f k ((rd_T38 l0_2 1).f0) ((rd_T38 l0_2 1).f1) ((rd_T38 l0_2 1).f2)).bind fun t20026 => (if t20022.length + t20026.length < 8796093022208 then ((some (t20022 ++ t20026 : List ByteArray)).bind fun y20029 => ((some (([strOfNums y20002] : List ByteArray) : List ByteArray)).bind fun y20032 => (if y20029.length + y20032.length < 8796093022208 then (some (y20029 ++ y20032)) else (none)))) else (none))) else (none)) else (if (strOfNums y20002).size + (strOfNums y20005).size ≤ 9223372036854775807 then ((some (([(strOfNums y20002) ++ (strOfNums y20005)] : List ByteArray) : List ByteArray)).bind fun y20038 => (if t20022.length + y20038.length < 8796093022208 then ((some (t20022 ++ y20038 : List ByteArray)).bind fun y20041 => (if 1 < (l0_2.length : Int) then ((spec_l7List.f k ((rd_T38 l0_2 1).f0) ((rd_T38 l0_2 1).f1) ((rd_T38 l0_2 1).f2)).bind fun t20045 => (if y20041.length + t20045.length < 8796093022208 then ((some (y20041 ++ t20045 : List ByteArray)).bind fun y20048 => ((some (([strOfNums (([(a0_0 + 2) % 256] : List Int))] : List ByteArray) : List ByteArray)).bind fun y20054 => (if y20048.length + y20054.length < 8796093022208 then (some (y20048 ++ y20054)) else (none)))) else (none))) else (none))) else (none))) else (none)))) else (none)))) = some r := by first | (rw [hy20005]; with_reducible exact H) | (have H2_ := (Option.bind_some _ _).symm.trans H; rw [hy20005]; with_reducible exact H2_) | (have H2_ := (Option.bind_some _ _).symm.trans H; with_reducible exact H2_) | with_reducible exact H | (rw [hy20005]; exact H) | exact H
  have Ny20005 := Aside0.mk hy20005
  clear hy20005
  by_cases c2 : (l0_2.length : Int) = 0
  · rw [if_pos c2] at H
    have c2b0 : ((l0_2.length : Int) == 0) = true := beq_iff_eq.mpr c2
    have c2b1 : ((l0_2.length : Int) != 0) = false := bne_eq_false_iff_eq.mpr c2
    clear c2
    obtain ⟨y20008, hy20008⟩ : ∃ y_ : List ByteArray, y_ = (([strOfNums y20005] : List ByteArray)) := ⟨_, rfl⟩
    replace H : (some y20008) = some r := by first | (rw [hy20008]; with_reducible exact H) | (have H2_ := (Option.bind_some _ _).symm.trans H; rw [hy20008]; with_reducible exact H2_) | (have H2_ := (Option.bind_some _ _).symm.trans H; with_reducible exact H2_) | with_reducible exact H | (rw [hy20008]; exact H) | exact H
    have Ny20008 := Aside0.mk hy20008
    clear hy20008
    obtain rfl := Option.some.inj H
    go_enter Try.func52, Try.ntmps52
    go_wp2_with (first | ((with_reducible refine gate_dst (N := 1) rfl ?_); refine box_event ?hg (N := 1) ?hd (cs := #[.int .u8 a0_0, .int .u8 a0_1, .slice A0_2 l0_2.length c0_2]) (t := 38) ?hr ?_; (case hd => rfl); (case hg => rfl); (case hr => first | (go_simp; done) | (go_simp; rfl)); intro gb20001 hg w3 hbox hb; have n0_ := Aside0.mk (below_step (by repeat (first | (with_reducible first | exact HB.out | apply below_alloc | apply pw_below_drewN | apply below_drew1) | exact HB.out)) hb); have n1_ := Aside0.mk (hbox); have n2_ := Aside0.mk ((by rw [hg]; exact (below_size (by repeat (first | (with_reducible first | exact HB.out | apply below_alloc | apply pw_below_drewN | apply below_drew1) | exact HB.out))) : w.heap.size ≤ gb20001)); have n3_ := Aside0.mk ((by rw [hg]; exact (below_size (by repeat (first | (with_reducible first | exact HB.out | apply below_alloc | apply pw_below_drewN | apply below_drew1) | exact HB.out))) : w.heap.size ≤ gb20001)); clear HB; have HB := n0_; have BK20001 := n1_; have GW20001 := n2_; have GE20001 := n3_; clear n0_ n1_ n2_ n3_; clear hb hbox hg; have hcz4_0 : w3.cell? ⟨gb20001, 0, none⟩ = some (.int .u8 a0_0) := (blk_cell BK20001.out 0).trans rfl; have hcz4_1 : w3.cell? ⟨gb20001, 1, none⟩ = some (.int .u8 a0_1) := (blk_cell BK20001.out 1).trans rfl; have hcz4_2 : w3.cell? ⟨gb20001, 2, none⟩ = some (.slice A0_2 l0_2.length c0_2) := (blk_cell BK20001.out 2).trans rfl; have hfz4_0 := blk_frozen BK20001.out 0; have hfz4_1 := blk_frozen BK20001.out 1; have hfz4_2 := blk_frozen BK20001.out 2) | ((with_reducible refine gate_dst (N := 8) rfl ?_); refine Kd.R_lit (Kd.int .u8) _ 5 ?hg (N := 8) ?hd (xs := ([a0_0] : List Int)) (inner := [.int .u8 a0_0]) (ok := fun _ => True) (okp := fun _ => True) ?hr ?hp (fun _ hk => hk) trivial (Below.refl _ _) (Nat.le_refl _) (by simp) ?_; (case hd => rfl); (case hg => rfl); (case hr => first | (go_simp; done) | (go_simp; rfl)); (case hp => exact (Reps.one (show Kd.M (Kd.int .u8) _ _ _ a0_0 [.int .u8 a0_0] from rfl) (Reps.none _ _))); intro v20003 w5 ho6 hb hg_ hnew_; clear hg_ hnew_; (first | rw [← Ny20002.out] at ho6 | (simp only [Int.reduceToNat] at ho6; rw [← Ny20002.out] at ho6)); have n0_ := Aside0.mk (Kd.R_lower ho6 (below_size (by repeat (first | (with_reducible first | exact HB.out | apply below_alloc | apply pw_below_drewN | apply below_drew1 | refine below_set ?_ GE20001.out) | exact HB.out)))); have n1_ := Aside0.mk (blk_below (g := gb20001) (o := .cells #[.int .u8 a0_0, .int .u8 a0_1, .slice A0_2 l0_2.length c0_2] 38 (0, 0)) (by (with_reducible repeat (first | refine blk_drewN ?_ _ | refine blk_drew ?_ | refine blk_alloc ?_ _)); exact BK20001.out) hb); have n2_ := Aside0.mk (below_step (by repeat (first | (with_reducible first | exact HB.out | apply below_alloc | apply pw_below_drewN | apply below_drew1 | refine below_set ?_ GE20001.out) | exact HB.out)) hb); clear BK20001; clear HB; have HO20004 := n0_; have BK20001 := n1_; have HB := n2_; clear n0_ n1_ n2_; clear hb ho6; have hcv7 := own_string (P := Try.prog) Try.underlying33 Try.underlying5 Try.underlying9 (Kd.own_of_R HO20004.out); have hcz8_0 : w5.cell? ⟨gb20001, 0, none⟩ = some (.int .u8 a0_0) := (blk_cell BK20001.out 0).trans rfl; have hcz8_1 : w5.cell? ⟨gb20001, 1, none⟩ = some (.int .u8 a0_1) := (blk_cell BK20001.out 1).trans rfl; have hcz8_2 : w5.cell? ⟨gb20001, 2, none⟩ = some (.slice A0_2 l0_2.length c0_2) := (blk_cell BK20001.out 2).trans rfl; have hfz8_0 := blk_frozen BK20001.out 0; have hfz8_1 := blk_frozen BK20001.out 1; have hfz8_2 := blk_frozen BK20001.out 2) | ((with_reducible refine gate_dst (N := 12) rfl ?_); refine Kd.R_lit (Kd.int .u8) _ 5 ?hg (N := 12) ?hd (xs := ([a0_1] : List Int)) (inner := [.int .u8 a0_1]) (ok := fun _ => True) (okp := fun _ => True) ?hr ?hp (fun _ hk => hk) trivial (Below.refl _ _) (Nat.le_refl _) (by simp) ?_; (case hd => rfl); (case hg => rfl); (case hr => first | (go_simp; done) | (go_simp; rfl)); (case hp => exact (Reps.one (show Kd.M (Kd.int .u8) _ _ _ a0_1 [.int .u8 a0_1] from rfl) (Reps.none _ _))); intro v20006 w9 ho10 hb hg_ hnew_; clear hg_ hnew_; (first | rw [← Ny20005.out] at ho10 | (simp only [Int.reduceToNat] at ho10; rw [← Ny20005.out] at ho10)); have n0_ := Aside0.mk (Kd.R_elder' (by (with_reducible repeat (first | apply Kd.R_alloc | apply Kd.R_drewN | apply Kd.R_drew)); exact HO20004.out) (Kd.R_base ho10) hb); have n1_ := Aside0.mk (Kd.R_lower (Kd.R_new' ho10 (Kd.R_lt (by (with_reducible repeat (first | apply Kd.R_alloc | apply Kd.R_drewN | apply Kd.R_drew)); exact HO20004.out))) (below_size (by repeat (first | (with_reducible first | exact HB.out | apply below_alloc | apply pw_below_drewN | apply below_drew1 | refine below_set ?_ GE20001.out) | exact HB.out)))); have n2_ := Aside0.mk (blk_below (g := gb20001) (o := .cells #[.int .u8 a0_0, .int .u8 a0_1, .slice A0_2 l0_2.length c0_2] 38 (0, 0)) (by (with_reducible repeat (first | refine blk_drewN ?_ _ | refine blk_drew ?_ | refine blk_alloc ?_ _)); exact BK20001.out) hb); have n3_ := Aside0.mk (below_step (by repeat (first | (with_reducible first | exact HB.out | apply below_alloc | apply pw_below_drewN | apply below_drew1 | refine below_set ?_ GE20001.out) | exact HB.out)) hb); clear HO20004; clear BK20001; clear HB; have HO20004 := n0_; have HO20007 := n1_; have BK20001 := n2_; have HB := n3_; clear n0_ n1_ n2_ n3_; clear hb ho10; have hcv11 := own_string (P := Try.prog) Try.underlying33 Try.underlying5 Try.underlying9 (Kd.own_of_R HO20007.out); have hcz12_0 : w9.cell? ⟨gb20001, 0, none⟩ = some (.int .u8 a0_0) := (blk_cell BK20001.out 0).trans rfl; have hcz12_1 : w9.cell? ⟨gb20001, 1, none⟩ = some (.int .u8 a0_1) := (blk_cell BK20001.out 1).trans rfl; have hcz12_2 : w9.cell? ⟨gb20001, 2, none⟩ = some (.slice A0_2 l0_2.length c0_2) := (blk_cell BK20001.out 2).trans rfl; have hfz12_0 := blk_frozen BK20001.out 0; have hfz12_1 := blk_frozen BK20001.out 1; have hfz12_2 := blk_frozen BK20001.out 2) | ((with_reducible refine gate_dst (N := 20) rfl ?_); refine Kd.R_lit Kd.string _ 9 ?hg (N := 20) ?hd (xs := ([strOfNums y20005] : List ByteArray)) (inner := [.string (strOfNums y20005)]) (ok := fun _ => True) (okp := fun _ => True) ?hr ?hp (fun _ hk => hk) trivial (Below.refl _ _) (Nat.le_refl _) (by simp) ?_; (case hd => rfl); (case hg => rfl); (case hr => first | (go_simp; done) | (go_simp; rfl)); (case hp => exact (Reps.one (show Kd.M Kd.string _ _ _ (strOfNums y20005) [.string (strOfNums y20005)] from rfl) (Reps.none _ _))); intro v20009 w13 ho14 hb hg_ hnew_; clear hg_ hnew_; (first | rw [← Ny20008.out] at ho14 | (simp only [Int.reduceToNat] at ho14; rw [← Ny20008.out] at ho14)); have n0_ := Aside0.mk (Kd.R_below (by (with_reducible repeat (first | apply Kd.R_alloc | apply Kd.R_drewN | apply Kd.R_drew)); exact HO20004.out) hb); have n1_ := Aside0.mk (Kd.R_below (by (with_reducible repeat (first | apply Kd.R_alloc | apply Kd.R_drewN | apply Kd.R_drew)); exact HO20007.out) hb); have n2_ := Aside0.mk (Kd.R_lower ho14 (below_size (by repeat (first | (with_reducible first | exact HB.out | apply below_alloc | apply pw_below_drewN | apply below_drew1 | refine below_set ?_ GE20001.out) | exact HB.out)))); have n3_ := Aside0.mk (blk_below (g := gb20001) (o := .cells #[.int .u8 a0_0, .int .u8 a0_1, .slice A0_2 l0_2.length c0_2] 38 (0, 0)) (by (with_reducible repeat (first | refine blk_drewN ?_ _ | refine blk_drew ?_ | refine blk_alloc ?_ _)); exact BK20001.out) hb); have n4_ := Aside0.mk (below_step (by repeat (first | (with_reducible first | exact HB.out | apply below_alloc | apply pw_below_drewN | apply below_drew1 | refine below_set ?_ GE20001.out) | exact HB.out)) hb); clear HO20004; clear HO20007; clear BK20001; clear HB; have HO20004 := n0_; have HO20007 := n1_; have HO20010 := n2_; have BK20001 := n3_; have HB := n4_; clear n0_ n1_ n2_ n3_ n4_; clear hb ho14))
    go_ret
    exact ⟨_, by first | rfl | (simp [errW_none, errW_some] <;> rfl) | (simp [*, errW_none, errW_some] <;> rfl), by (with_reducible repeat (first | apply Kd.R_alloc | apply Kd.R_drewN | apply Kd.R_drew)); exact HO20010.out, by repeat (first | (with_reducible first | exact HB.out | apply below_alloc | apply pw_below_drewN | apply below_drew1 | refine below_set ?_ GE20001.out) | exact HB.out)⟩
  · rw [if_neg c2] at H
    have c2b0 : ((l0_2.length : Int) == 0) = false := beq_eq_false_iff_ne.mpr c2
    have c2b1 : ((l0_2.length : Int) != 0) = true := bne_iff_ne.mpr c2
    have c2b2 : ¬ (l0_2 = []) := fun h_ => c2 (by rw [h_]; rfl)
    by_cases c15 : (l0_2.length : Int) = 1
    · rw [if_pos c15] at H
      have c15b0 : ((l0_2.length : Int) == 1) = true := beq_iff_eq.mpr c15
      have c15b1 : ((l0_2.length : Int) != 1) = false := bne_eq_false_iff_eq.mpr c15
      clear c15
      by_cases c16 : 0 < (l0_2.length : Int)
      · rw [if_pos c16] at H
        have c16b0 : decide (0 < (l0_2.length : Int)) = true := decide_eq_true c16
        have c16b1 : decide (0 < l0_2.length) = true := decide_eq_true (by omega)
        clear c16
        replace H := Option.bind_eq_some_iff.mp H
        obtain ⟨t20012, A170, H⟩ := H
        replace H : ((some (([strOfNums y20002] : List ByteArray) : List ByteArray)).bind fun y20015 => (if t20012.length + y20015.length < 8796093022208 then (some (t20012 ++ y20015)) else (none))) = some r := H
        have A17 := Aside0.mk A170
        clear A170
        obtain ⟨y20015, hy20015⟩ : ∃ y_ : List ByteArray, y_ = (([strOfNums y20002] : List ByteArray)) := ⟨_, rfl⟩
        replace H : (if t20012.length + y20015.length < 8796093022208 then (some (t20012 ++ y20015)) else (none)) = some r := by first | (rw [hy20015]; with_reducible exact H) | (have H2_ := (Option.bind_some _ _).symm.trans H; rw [hy20015]; with_reducible exact H2_) | (have H2_ := (Option.bind_some _ _).symm.trans H; with_reducible exact H2_) | with_reducible exact H | (rw [hy20015]; exact H) | exact H
        have Ny20015 := Aside0.mk hy20015
        clear hy20015
        by_cases c18 : t20012.length + y20015.length < 8796093022208
        · rw [if_pos c18] at H
          have LMc18 := Aside0.mk c18
          clear c18
          obtain ⟨y20018, hy20018⟩ : ∃ y_ : List ByteArray, y_ = (t20012 ++ y20015) := ⟨_, rfl⟩
          replace H : (some y20018) = some r := by first | (rw [hy20018]; with_reducible exact H) | (have H2_ := (Option.bind_some _ _).symm.trans H; rw [hy20018]; with_reducible exact H2_) | (have H2_ := (Option.bind_some _ _).symm.trans H; with_reducible exact H2_) | with_reducible exact H | (rw [hy20018]; exact H) | exact H
          have Ny20018 := Aside0.mk hy20018
          clear hy20018
          obtain rfl := Option.some.inj H
          go_enter Try.func52, Try.ntmps52
          go_wp2_with (first | ((with_reducible refine gate_dst (N := 1) rfl ?_); refine box_event ?hg (N := 1) ?hd (cs := #[.int .u8 a0_0, .int .u8 a0_1, .slice A0_2 l0_2.length c0_2]) (t := 38) ?hr ?_; (case hd => rfl); (case hg => rfl); (case hr => first | (go_simp; done) | (go_simp; rfl)); intro gb20001 hg w19 hbox hb; have n0_ := Aside0.mk (below_step (by repeat (first | (with_reducible first | exact HB.out | apply below_alloc | apply pw_below_drewN | apply below_drew1) | exact HB.out)) hb); have n1_ := Aside0.mk (hbox); have n2_ := Aside0.mk ((by rw [hg]; exact (below_size (by repeat (first | (with_reducible first | exact HB.out | apply below_alloc | apply pw_below_drewN | apply below_drew1) | exact HB.out))) : w.heap.size ≤ gb20001)); have n3_ := Aside0.mk ((by rw [hg]; exact (below_size (by repeat (first | (with_reducible first | exact HB.out | apply below_alloc | apply pw_below_drewN | apply below_drew1) | exact HB.out))) : w.heap.size ≤ gb20001)); clear HB; have HB := n0_; have BK20001 := n1_; have GW20001 := n2_; have GE20001 := n3_; clear n0_ n1_ n2_ n3_; clear hb hbox hg; have hcz20_0 : w19.cell? ⟨gb20001, 0, none⟩ = some (.int .u8 a0_0) := (blk_cell BK20001.out 0).trans rfl; have hcz20_1 : w19.cell? ⟨gb20001, 1, none⟩ = some (.int .u8 a0_1) := (blk_cell BK20001.out 1).trans rfl; have hcz20_2 : w19.cell? ⟨gb20001, 2, none⟩ = some (.slice A0_2 l0_2.length c0_2) := (blk_cell BK20001.out 2).trans rfl; have hfz20_0 := blk_frozen BK20001.out 0; have hfz20_1 := blk_frozen BK20001.out 1; have hfz20_2 := blk_frozen BK20001.out 2) | ((with_reducible refine gate_dst (N := 8) rfl ?_); refine Kd.R_lit (Kd.int .u8) _ 5 ?hg (N := 8) ?hd (xs := ([a0_0] : List Int)) (inner := [.int .u8 a0_0]) (ok := fun _ => True) (okp := fun _ => True) ?hr ?hp (fun _ hk => hk) trivial (Below.refl _ _) (Nat.le_refl _) (by simp) ?_; (case hd => rfl); (case hg => rfl); (case hr => first | (go_simp; done) | (go_simp; rfl)); (case hp => exact (Reps.one (show Kd.M (Kd.int .u8) _ _ _ a0_0 [.int .u8 a0_0] from rfl) (Reps.none _ _))); intro v20003 w21 ho22 hb hg_ hnew_; clear hg_ hnew_; (first | rw [← Ny20002.out] at ho22 | (simp only [Int.reduceToNat] at ho22; rw [← Ny20002.out] at ho22)); have n0_ := Aside0.mk (Kd.R_lower ho22 (below_size (by repeat (first | (with_reducible first | exact HB.out | apply below_alloc | apply pw_below_drewN | apply below_drew1 | refine below_set ?_ GE20001.out) | exact HB.out)))); have n1_ := Aside0.mk (blk_below (g := gb20001) (o := .cells #[.int .u8 a0_0, .int .u8 a0_1, .slice A0_2 l0_2.length c0_2] 38 (0, 0)) (by (with_reducible repeat (first | refine blk_drewN ?_ _ | refine blk_drew ?_ | refine blk_alloc ?_ _)); exact BK20001.out) hb); have n2_ := Aside0.mk (below_step (by repeat (first | (with_reducible first | exact HB.out | apply below_alloc | apply pw_below_drewN | apply below_drew1 | refine below_set ?_ GE20001.out) | exact HB.out)) hb); clear BK20001; clear HB; have HO20004 := n0_; have BK20001 := n1_; have HB := n2_; clear n0_ n1_ n2_; clear hb ho22; have hcv23 := own_string (P := Try.prog) Try.underlying33 Try.underlying5 Try.underlying9 (Kd.own_of_R HO20004.out); have hcz24_0 : w21.cell? ⟨gb20001, 0, none⟩ = some (.int .u8 a0_0) := (blk_cell BK20001.out 0).trans rfl; have hcz24_1 : w21.cell? ⟨gb20001, 1, none⟩ = some (.int .u8 a0_1) := (blk_cell BK20001.out 1).trans rfl; have hcz24_2 : w21.cell? ⟨gb20001, 2, none⟩ = some (.slice A0_2 l0_2.length c0_2) := (blk_cell BK20001.out 2).trans rfl; have hfz24_0 := blk_frozen BK20001.out 0; have hfz24_1 := blk_frozen BK20001.out 1; have hfz24_2 := blk_frozen BK20001.out 2) | ((with_reducible refine gate_dst (N := 12) rfl ?_); refine Kd.R_lit (Kd.int .u8) _ 5 ?hg (N := 12) ?hd (xs := ([a0_1] : List Int)) (inner := [.int .u8 a0_1]) (ok := fun _ => True) (okp := fun _ => True) ?hr ?hp (fun _ hk => hk) trivial (Below.refl _ _) (Nat.le_refl _) (by simp) ?_; (case hd => rfl); (case hg => rfl); (case hr => first | (go_simp; done) | (go_simp; rfl)); (case hp => exact (Reps.one (show Kd.M (Kd.int .u8) _ _ _ a0_1 [.int .u8 a0_1] from rfl) (Reps.none _ _))); intro v20006 w25 ho26 hb hg_ hnew_; clear hg_ hnew_; (first | rw [← Ny20005.out] at ho26 | (simp only [Int.reduceToNat] at ho26; rw [← Ny20005.out] at ho26)); have n0_ := Aside0.mk (Kd.R_elder' (by (with_reducible repeat (first | apply Kd.R_alloc | apply Kd.R_drewN | apply Kd.R_drew)); exact HO20004.out) (Kd.R_base ho26) hb); have n1_ := Aside0.mk (Kd.R_lower (Kd.R_new' ho26 (Kd.R_lt (by (with_reducible repeat (first | apply Kd.R_alloc | apply Kd.R_drewN | apply Kd.R_drew)); exact HO20004.out))) (below_size (by repeat (first | (with_reducible first | exact HB.out | apply below_alloc | apply pw_below_drewN | apply below_drew1 | refine below_set ?_ GE20001.out) | exact HB.out)))); have n2_ := Aside0.mk (blk_below (g := gb20001) (o := .cells #[.int .u8 a0_0, .int .u8 a0_1, .slice A0_2 l0_2.length c0_2] 38 (0, 0)) (by (with_reducible repeat (first | refine blk_drewN ?_ _ | refine blk_drew ?_ | refine blk_alloc ?_ _)); exact BK20001.out) hb); have n3_ := Aside0.mk (below_step (by repeat (first | (with_reducible first | exact HB.out | apply below_alloc | apply pw_below_drewN | apply below_drew1 | refine below_set ?_ GE20001.out) | exact HB.out)) hb); clear HO20004; clear BK20001; clear HB; have HO20004 := n0_; have HO20007 := n1_; have BK20001 := n2_; have HB := n3_; clear n0_ n1_ n2_ n3_; clear hb ho26; have hcv27 := own_string (P := Try.prog) Try.underlying33 Try.underlying5 Try.underlying9 (Kd.own_of_R HO20007.out); have hcz28_0 : w25.cell? ⟨gb20001, 0, none⟩ = some (.int .u8 a0_0) := (blk_cell BK20001.out 0).trans rfl; have hcz28_1 : w25.cell? ⟨gb20001, 1, none⟩ = some (.int .u8 a0_1) := (blk_cell BK20001.out 1).trans rfl; have hcz28_2 : w25.cell? ⟨gb20001, 2, none⟩ = some (.slice A0_2 l0_2.length c0_2) := (blk_cell BK20001.out 2).trans rfl; have hfz28_0 := blk_frozen BK20001.out 0; have hfz28_1 := blk_frozen BK20001.out 1; have hfz28_2 := blk_frozen BK20001.out 2; have p20011 : 0 ≤ (0 : Int) := (by omega); have q20011 : 0 < (l0_2.length : Int) := of_decide_eq_true (by first | (with_reducible assumption) | assumption); obtain ⟨ad20011, A20011_2, c20011_2, e20011, hx20011_0, hx20011_1, hx20011_2, hl20011_2, hi20011_2⟩ := at_T38 HR0_2.out 0 p20011 q20011; cases e20011; have qi20011 : (0 < l0_2.length) = True := eq_true (by omega); (try rw [show ((0 : Int)).toNat = 0 from rfl] at hx20011_0); (try rw [show 0 * 3 = 0 from rfl] at hx20011_0); (try rw [Addr.add_zero'] at hx20011_0); (try rw [show ((0 : Int)).toNat = 0 from rfl] at hx20011_1); (try rw [show 0 * 3 = 0 from rfl] at hx20011_1); (try rw [Addr.add_zero'] at hx20011_1); (try rw [show ((0 : Int)).toNat = 0 from rfl] at hx20011_2); (try rw [show 0 * 3 = 0 from rfl] at hx20011_2); (try rw [Addr.add_zero'] at hx20011_2); (try replace hx20011_0 := (HB.out.cell (World.block_lt_of_cell? w _ hx20011_0)).trans hx20011_0); (try replace hx20011_1 := (HB.out.cell (World.block_lt_of_cell? w _ hx20011_1)).trans hx20011_1); (try replace hx20011_2 := (HB.out.cell (World.block_lt_of_cell? w _ hx20011_2)).trans hx20011_2); have HR20011_2 := Aside0.mk hi20011_2; have HC20011_2 := Aside0.mk hl20011_2; clear hi20011_2 hl20011_2; replace p20011 := eq_true p20011; replace q20011 := eq_true q20011) | ((with_reducible refine gate_callee (f := 52) rfl ?_); refine goesL_ (some 30) rfl rfl Try.func52 (by kernel_rfl) rfl #[.agg #[.int .u8 ((rd_T38 l0_2 0).f0), .int .u8 ((rd_T38 l0_2 0).f1), .slice A20011_2 ((rd_T38 l0_2 0).f2).length c20011_2]] rfl (by (try simp only [List.map_toArray, List.map_cons, List.map_nil]); first | done | rfl | (simp only [List.length_drop, List.length_take]; rfl)) ?_; (with_reducible refine (ih k (by omega) ((rd_T38 l0_2 0).f0) ((rd_T38 l0_2 0).f1) _ _ ((rd_T38 l0_2 0).f2) t20012 _ ?side1 ?side2 A17.out).mono ?_); (case side1 => repeat (first | exact (Kd.C_below HR20011_2.out HB.out) | (with_reducible refine Kd.C_alloc ?_ _) | (with_reducible refine Kd.C_drewN ?_ _) | (with_reducible refine Kd.C_drew ?_))); (case side2 => exact HC20011_2.out); rintro e w29 ⟨v20013, rfl, ho0, hb⟩; refine ⟨_, rfl, ?_⟩; have n0_ := Aside0.mk (Kd.R_below (by (with_reducible repeat (first | apply Kd.R_alloc | apply Kd.R_drewN | apply Kd.R_drew)); exact HO20004.out) hb); have n1_ := Aside0.mk (Kd.R_below (by (with_reducible repeat (first | apply Kd.R_alloc | apply Kd.R_drewN | apply Kd.R_drew)); exact HO20007.out) hb); have n2_ := Aside0.mk (Kd.R_lower ho0 (below_size (by repeat (first | (with_reducible first | exact HB.out | apply below_alloc | apply pw_below_drewN | apply below_drew1 | refine below_set ?_ GE20001.out) | exact HB.out)))); have n3_ := Aside0.mk (blk_below (g := gb20001) (o := .cells #[.int .u8 a0_0, .int .u8 a0_1, .slice (some ad20011) l0_2.length c0_2] 38 (0, 0)) (by (with_reducible repeat (first | refine blk_drewN ?_ _ | refine blk_drew ?_ | refine blk_alloc ?_ _)); exact BK20001.out) hb); have n4_ := Aside0.mk (below_step (by repeat (first | (with_reducible first | exact HB.out | apply below_alloc | apply pw_below_drewN | apply below_drew1 | refine below_set ?_ GE20001.out) | exact HB.out)) hb); clear HO20004; clear HO20007; clear BK20001; clear HB; have HO20004 := n0_; have HO20007 := n1_; have HO20014 := n2_; have BK20001 := n3_; have HB := n4_; clear n0_ n1_ n2_ n3_ n4_; (try clear hb); (try clear hb2); (try clear hk); (try clear hi); (try clear ho0)) | ((with_reducible refine gate_dst (N := 32) rfl ?_); refine Kd.R_lit Kd.string _ 9 ?hg (N := 32) ?hd (xs := ([strOfNums y20002] : List ByteArray)) (inner := [.string (strOfNums y20002)]) (ok := fun _ => True) (okp := fun _ => True) ?hr ?hp (fun _ hk => hk) trivial (Below.refl _ _) (Nat.le_refl _) (by simp) ?_; (case hd => rfl); (case hg => rfl); (case hr => first | (go_simp; done) | (go_simp; rfl)); (case hp => exact (Reps.one (show Kd.M Kd.string _ _ _ (strOfNums y20002) [.string (strOfNums y20002)] from rfl) (Reps.none _ _))); intro v20016 w30 ho31 hb hg_ hnew_; clear hg_ hnew_; (first | rw [← Ny20015.out] at ho31 | (simp only [Int.reduceToNat] at ho31; rw [← Ny20015.out] at ho31)); have n0_ := Aside0.mk (Kd.R_below (by (with_reducible repeat (first | apply Kd.R_alloc | apply Kd.R_drewN | apply Kd.R_drew)); exact HO20004.out) hb); have n1_ := Aside0.mk (Kd.R_below (by (with_reducible repeat (first | apply Kd.R_alloc | apply Kd.R_drewN | apply Kd.R_drew)); exact HO20007.out) hb); have n2_ := Aside0.mk (Kd.R_elder' (by (with_reducible repeat (first | apply Kd.R_alloc | apply Kd.R_drewN | apply Kd.R_drew)); exact HO20014.out) (Kd.R_base ho31) hb); have n3_ := Aside0.mk (Kd.R_lower (Kd.R_new' ho31 (Kd.R_lt (by (with_reducible repeat (first | apply Kd.R_alloc | apply Kd.R_drewN | apply Kd.R_drew)); exact HO20014.out))) (below_size (by repeat (first | (with_reducible first | exact HB.out | apply below_alloc | apply pw_below_drewN | apply below_drew1 | refine below_set ?_ GE20001.out) | exact HB.out)))); have n4_ := Aside0.mk (blk_below (g := gb20001) (o := .cells #[.int .u8 a0_0, .int .u8 a0_1, .slice (some ad20011) l0_2.length c0_2] 38 (0, 0)) (by (with_reducible repeat (first | refine blk_drewN ?_ _ | refine blk_drew ?_ | refine blk_alloc ?_ _)); exact BK20001.out) hb); have n5_ := Aside0.mk (below_step (by repeat (first | (with_reducible first | exact HB.out | apply below_alloc | apply pw_below_drewN | apply below_drew1 | refine below_set ?_ GE20001.out) | exact HB.out)) hb); clear HO20004; clear HO20007; clear HO20014; clear BK20001; clear HB; have HO20004 := n0_; have HO20007 := n1_; have HO20014 := n2_; have HO20017 := n3_; have BK20001 := n4_; have HB := n5_; clear n0_ n1_ n2_ n3_ n4_ n5_; clear hb ho31; obtain ⟨Ao33, co33, eo33⟩ := Kd.R_slice HO20017.out; subst eo33) | ((with_reducible refine gate_builtin (b := .append) (xs := #[.tmp 30, .tmp 32]) rfl ?_); at_builtin; refine Kd.R_append_rows Kd.string (w0 := w) w.heap.size rfl (.tmp 30) (.tmp 32) 25 9 (.string ⟨#[]⟩) 16 rfl Try.underlying25 info9 rfl (by decide) (by omega) v20013 t20012 y20015 _ _ _ (fun k_ => some k_ ≠ (.slice Ao33 y20015.length co33 : Value).ownBlock) (fun _ => False) rfl rfl ?aO ?aR (fun _ _ h => h) (fun _ h => h.elim) ?aF ?aB ?aS ?aL ?_; (case aR => repeat (first | exact (Kd.R_reads' HO20017.out).2.2 | (with_reducible refine Kd.C_alloc ?_ _) | (with_reducible refine Kd.C_drewN ?_ _) | (with_reducible refine Kd.C_drew ?_))); (case aB => exact (by repeat (first | (with_reducible first | exact HB.out | apply below_alloc | apply pw_below_drewN | apply below_drew1 | refine below_set ?_ GE20001.out) | exact HB.out))); (case aF => exact (fun k_ hk => Kd.fresh' (Kd.R_lt (by (with_reducible repeat (first | apply Kd.R_alloc | apply Kd.R_drewN | apply Kd.R_drew)); exact HO20017.out)) k_ hk)); (case aO => exact (by (with_reducible repeat (first | apply Kd.R_alloc | apply Kd.R_drewN | apply Kd.R_drew)); exact Kd.R_mono HO20014.out (fun _ hk => hk.2))); (case aS => exact (below_size (by repeat (first | (with_reducible first | exact HB.out | apply below_alloc | apply pw_below_drewN | apply below_drew1 | refine below_set ?_ GE20001.out) | exact HB.out)))); (case aL => have := LMc18.out; omega); intro v20019 w32 ho hb hg hat; rw [← Ny20018.out] at ho; have n0_ := Aside0.mk (blk_grown (g := gb20001) (o := .cells #[.int .u8 a0_0, .int .u8 a0_1, .slice (some ad20011) l0_2.length c0_2] 38 (0, 0)) (by (with_reducible repeat (first | refine blk_drewN ?_ _ | refine blk_drew ?_ | refine blk_alloc ?_ _)); exact BK20001.out) hg (Kd.R_ne HO20014.out BK20001.out (by decide))); have n1_ := Aside0.mk (Kd.R_over' (by (with_reducible repeat (first | apply Kd.R_alloc | apply Kd.R_drewN | apply Kd.R_drew)); exact HO20004.out) (Kd.R_typed (by (with_reducible repeat (first | apply Kd.R_alloc | apply Kd.R_drewN | apply Kd.R_drew)); exact HO20014.out)) (by decide) hg); have n2_ := Aside0.mk (Kd.R_over' (by (with_reducible repeat (first | apply Kd.R_alloc | apply Kd.R_drewN | apply Kd.R_drew)); exact HO20007.out) (Kd.R_typed (by (with_reducible repeat (first | apply Kd.R_alloc | apply Kd.R_drewN | apply Kd.R_drew)); exact HO20014.out)) (by decide) hg); have n3_ := Aside0.mk (Kd.R_after (ok := (fun _ => True)) (by (with_reducible repeat (first | apply Kd.R_alloc | apply Kd.R_drewN | apply Kd.R_drew)); exact HO20017.out) hg hat); have n4_ := Aside0.mk (hb); have n5_ := Aside0.mk (ho); clear BK20001; clear HO20004; clear HO20007; clear HO20017; clear HB; clear HO20014; have BK20001 := n0_; have HO20004 := n1_; have HO20007 := n2_; have HO20017 := n3_; have HB := n4_; have HO20020 := n5_; clear n0_ n1_ n2_ n3_ n4_ n5_; clear ho hb hg hat))
          go_ret
          exact ⟨_, by first | rfl | (simp [errW_none, errW_some] <;> rfl) | (simp [*, errW_none, errW_some] <;> rfl), by (with_reducible repeat (first | apply Kd.R_alloc | apply Kd.R_drewN | apply Kd.R_drew)); exact Kd.R_mono HO20020.out (fun _ hk => trivial), by repeat (first | (with_reducible first | exact HB.out | apply below_alloc | apply pw_below_drewN | apply below_drew1 | refine below_set ?_ GE20001.out) | exact HB.out)⟩
        · rw [if_neg c18] at H
          exact absurd H (by simp)
      · rw [if_neg c16] at H
        exact absurd H (by simp)
    · rw [if_neg c15] at H
      have c15b0 : ((l0_2.length : Int) == 1) = false := beq_eq_false_iff_ne.mpr c15
      have c15b1 : ((l0_2.length : Int) != 1) = true := bne_iff_ne.mpr c15
      by_cases c34 : 0 < (l0_2.length : Int)
      · rw [if_pos c34] at H
        have c34b0 : decide (0 < (l0_2.length : Int)) = true := decide_eq_true c34
        have c34b1 : decide (0 < l0_2.length) = true := decide_eq_true (by omega)
        clear c34
        replace H := Option.bind_eq_some_iff.mp H
        obtain ⟨t20022, A350, H⟩ := H
        replace H : (if a0_1 = 0 then (if 1 < (l0_2.length : Int) then ((spec_l7List.f k ((rd_T38 l0_2 1).f0) ((rd_T38 l0_2 1).f1) ((rd_T38 l0_2 1).f2)).bind fun t20026 => (if t20022.length + t20026.length < 8796093022208 then ((some (t20022 ++ t20026 : List ByteArray)).bind fun y20029 => ((some (([strOfNums y20002] : List ByteArray) : List ByteArray)).bind fun y20032 => (if y20029.length + y20032.length < 8796093022208 then (some (y20029 ++ y20032)) else (none)))) else (none))) else (none)) else (if (strOfNums y20002).size + (strOfNums y20005).size ≤ 9223372036854775807 then ((some (([(strOfNums y20002) ++ (strOfNums y20005)] : List ByteArray) : List ByteArray)).bind fun y20038 => (if t20022.length + y20038.length < 8796093022208 then ((some (t20022 ++ y20038 : List ByteArray)).bind fun y20041 => (if 1 < (l0_2.length : Int) then ((spec_l7List.f k ((rd_T38 l0_2 1).f0) ((rd_T38 l0_2 1).f1) ((rd_T38 l0_2 1).f2)).bind fun t20045 => (if y20041.length + t20045.length < 8796093022208 then ((some (y20041 ++ t20045 : List ByteArray)).bind fun y20048 => ((some (([strOfNums (([(a0_0 + 2) % 256] : List Int))] : List ByteArray) : List ByteArray)).bind fun y20054 => (if y20048.length + y20054.length < 8796093022208 then (some (y20048 ++ y20054)) else (none)))) else (none))) else (none))) else (none))) else (none))) = some r := H
        have A35 := Aside0.mk A350
        clear A350
        by_cases c36 : a0_1 = 0
        · rw [if_pos c36] at H
          have c36b0 : (a0_1 == 0) = true := beq_iff_eq.mpr c36
          have c36b1 : (a0_1 != 0) = false := bne_eq_false_iff_eq.mpr c36
          clear c36
          by_cases c37 : 1 < (l0_2.length : Int)
          · rw [if_pos c37] at H
            have c37b0 : decide (1 < (l0_2.length : Int)) = true := decide_eq_true c37
            have c37b1 : decide (1 < l0_2.length) = true := decide_eq_true (by omega)
            clear c37
            replace H := Option.bind_eq_some_iff.mp H
            obtain ⟨t20026, A380, H⟩ := H
            replace H : (if t20022.length + t20026.length < 8796093022208 then ((some (t20022 ++ t20026 : List ByteArray)).bind fun y20029 => ((some (([strOfNums y20002] : List ByteArray) : List ByteArray)).bind fun y20032 => (if y20029.length + y20032.length < 8796093022208 then (some (y20029 ++ y20032)) else (none)))) else (none)) = some r := H
            have A38 := Aside0.mk A380
            clear A380
            by_cases c39 : t20022.length + t20026.length < 8796093022208
            · rw [if_pos c39] at H
              have LMc39 := Aside0.mk c39
              clear c39
              obtain ⟨y20029, hy20029⟩ : ∃ y_ : List ByteArray, y_ = (t20022 ++ t20026) := ⟨_, rfl⟩
              replace H : ((some (([strOfNums y20002] : List ByteArray) : List ByteArray)).bind fun y20032 => (if y20029.length + y20032.length < 8796093022208 then (some (y20029 ++ y20032)) else (none))) = some r := by first | (rw [hy20029]; with_reducible exact H) | (have H2_ := (Option.bind_some _ _).symm.trans H; rw [hy20029]; with_reducible exact H2_) | (have H2_ := (Option.bind_some _ _).symm.trans H; with_reducible exact H2_) | with_reducible exact H | (rw [hy20029]; exact H) | exact H
              have Ny20029 := Aside0.mk hy20029
              clear hy20029
              obtain ⟨y20032, hy20032⟩ : ∃ y_ : List ByteArray, y_ = (([strOfNums y20002] : List ByteArray)) := ⟨_, rfl⟩
              replace H : (if y20029.length + y20032.length < 8796093022208 then (some (y20029 ++ y20032)) else (none)) = some r := by first | (rw [hy20032]; with_reducible exact H) | (have H2_ := (Option.bind_some _ _).symm.trans H; rw [hy20032]; with_reducible exact H2_) | (have H2_ := (Option.bind_some _ _).symm.trans H; with_reducible exact H2_) | with_reducible exact H | (rw [hy20032]; exact H) | exact H
              have Ny20032 := Aside0.mk hy20032
              clear hy20032
              by_cases c40 : y20029.length + y20032.length < 8796093022208
              · rw [if_pos c40] at H
                have LMc40 := Aside0.mk c40
                clear c40
                obtain ⟨y20035, hy20035⟩ : ∃ y_ : List ByteArray, y_ = (y20029 ++ y20032) := ⟨_, rfl⟩
                replace H : (some y20035) = some r := by first | (rw [hy20035]; with_reducible exact H) | (have H2_ := (Option.bind_some _ _).symm.trans H; rw [hy20035]; with_reducible exact H2_) | (have H2_ := (Option.bind_some _ _).symm.trans H; with_reducible exact H2_) | with_reducible exact H | (rw [hy20035]; exact H) | exact H
                have Ny20035 := Aside0.mk hy20035
                clear hy20035
                obtain rfl := Option.some.inj H
                go_enter Try.func52, Try.ntmps52
                go_wp2_with (first | ((with_reducible refine gate_dst (N := 1) rfl ?_); refine box_event ?hg (N := 1) ?hd (cs := #[.int .u8 a0_0, .int .u8 a0_1, .slice A0_2 l0_2.length c0_2]) (t := 38) ?hr ?_; (case hd => rfl); (case hg => rfl); (case hr => first | (go_simp; done) | (go_simp; rfl)); intro gb20001 hg w41 hbox hb; have n0_ := Aside0.mk (below_step (by repeat (first | (with_reducible first | exact HB.out | apply below_alloc | apply pw_below_drewN | apply below_drew1) | exact HB.out)) hb); have n1_ := Aside0.mk (hbox); have n2_ := Aside0.mk ((by rw [hg]; exact (below_size (by repeat (first | (with_reducible first | exact HB.out | apply below_alloc | apply pw_below_drewN | apply below_drew1) | exact HB.out))) : w.heap.size ≤ gb20001)); have n3_ := Aside0.mk ((by rw [hg]; exact (below_size (by repeat (first | (with_reducible first | exact HB.out | apply below_alloc | apply pw_below_drewN | apply below_drew1) | exact HB.out))) : w.heap.size ≤ gb20001)); clear HB; have HB := n0_; have BK20001 := n1_; have GW20001 := n2_; have GE20001 := n3_; clear n0_ n1_ n2_ n3_; clear hb hbox hg; have hcz42_0 : w41.cell? ⟨gb20001, 0, none⟩ = some (.int .u8 a0_0) := (blk_cell BK20001.out 0).trans rfl; have hcz42_1 : w41.cell? ⟨gb20001, 1, none⟩ = some (.int .u8 a0_1) := (blk_cell BK20001.out 1).trans rfl; have hcz42_2 : w41.cell? ⟨gb20001, 2, none⟩ = some (.slice A0_2 l0_2.length c0_2) := (blk_cell BK20001.out 2).trans rfl; have hfz42_0 := blk_frozen BK20001.out 0; have hfz42_1 := blk_frozen BK20001.out 1; have hfz42_2 := blk_frozen BK20001.out 2) | ((with_reducible refine gate_dst (N := 8) rfl ?_); refine Kd.R_lit (Kd.int .u8) _ 5 ?hg (N := 8) ?hd (xs := ([a0_0] : List Int)) (inner := [.int .u8 a0_0]) (ok := fun _ => True) (okp := fun _ => True) ?hr ?hp (fun _ hk => hk) trivial (Below.refl _ _) (Nat.le_refl _) (by simp) ?_; (case hd => rfl); (case hg => rfl); (case hr => first | (go_simp; done) | (go_simp; rfl)); (case hp => exact (Reps.one (show Kd.M (Kd.int .u8) _ _ _ a0_0 [.int .u8 a0_0] from rfl) (Reps.none _ _))); intro v20003 w43 ho44 hb hg_ hnew_; clear hg_ hnew_; (first | rw [← Ny20002.out] at ho44 | (simp only [Int.reduceToNat] at ho44; rw [← Ny20002.out] at ho44)); have n0_ := Aside0.mk (Kd.R_lower ho44 (below_size (by repeat (first | (with_reducible first | exact HB.out | apply below_alloc | apply pw_below_drewN | apply below_drew1 | refine below_set ?_ GE20001.out) | exact HB.out)))); have n1_ := Aside0.mk (blk_below (g := gb20001) (o := .cells #[.int .u8 a0_0, .int .u8 a0_1, .slice A0_2 l0_2.length c0_2] 38 (0, 0)) (by (with_reducible repeat (first | refine blk_drewN ?_ _ | refine blk_drew ?_ | refine blk_alloc ?_ _)); exact BK20001.out) hb); have n2_ := Aside0.mk (below_step (by repeat (first | (with_reducible first | exact HB.out | apply below_alloc | apply pw_below_drewN | apply below_drew1 | refine below_set ?_ GE20001.out) | exact HB.out)) hb); clear BK20001; clear HB; have HO20004 := n0_; have BK20001 := n1_; have HB := n2_; clear n0_ n1_ n2_; clear hb ho44; have hcv45 := own_string (P := Try.prog) Try.underlying33 Try.underlying5 Try.underlying9 (Kd.own_of_R HO20004.out); have hcz46_0 : w43.cell? ⟨gb20001, 0, none⟩ = some (.int .u8 a0_0) := (blk_cell BK20001.out 0).trans rfl; have hcz46_1 : w43.cell? ⟨gb20001, 1, none⟩ = some (.int .u8 a0_1) := (blk_cell BK20001.out 1).trans rfl; have hcz46_2 : w43.cell? ⟨gb20001, 2, none⟩ = some (.slice A0_2 l0_2.length c0_2) := (blk_cell BK20001.out 2).trans rfl; have hfz46_0 := blk_frozen BK20001.out 0; have hfz46_1 := blk_frozen BK20001.out 1; have hfz46_2 := blk_frozen BK20001.out 2) | ((with_reducible refine gate_dst (N := 12) rfl ?_); refine Kd.R_lit (Kd.int .u8) _ 5 ?hg (N := 12) ?hd (xs := ([a0_1] : List Int)) (inner := [.int .u8 a0_1]) (ok := fun _ => True) (okp := fun _ => True) ?hr ?hp (fun _ hk => hk) trivial (Below.refl _ _) (Nat.le_refl _) (by simp) ?_; (case hd => rfl); (case hg => rfl); (case hr => first | (go_simp; done) | (go_simp; rfl)); (case hp => exact (Reps.one (show Kd.M (Kd.int .u8) _ _ _ a0_1 [.int .u8 a0_1] from rfl) (Reps.none _ _))); intro v20006 w47 ho48 hb hg_ hnew_; clear hg_ hnew_; (first | rw [← Ny20005.out] at ho48 | (simp only [Int.reduceToNat] at ho48; rw [← Ny20005.out] at ho48)); have n0_ := Aside0.mk (Kd.R_elder' (by (with_reducible repeat (first | apply Kd.R_alloc | apply Kd.R_drewN | apply Kd.R_drew)); exact HO20004.out) (Kd.R_base ho48) hb); have n1_ := Aside0.mk (Kd.R_lower (Kd.R_new' ho48 (Kd.R_lt (by (with_reducible repeat (first | apply Kd.R_alloc | apply Kd.R_drewN | apply Kd.R_drew)); exact HO20004.out))) (below_size (by repeat (first | (with_reducible first | exact HB.out | apply below_alloc | apply pw_below_drewN | apply below_drew1 | refine below_set ?_ GE20001.out) | exact HB.out)))); have n2_ := Aside0.mk (blk_below (g := gb20001) (o := .cells #[.int .u8 a0_0, .int .u8 a0_1, .slice A0_2 l0_2.length c0_2] 38 (0, 0)) (by (with_reducible repeat (first | refine blk_drewN ?_ _ | refine blk_drew ?_ | refine blk_alloc ?_ _)); exact BK20001.out) hb); have n3_ := Aside0.mk (below_step (by repeat (first | (with_reducible first | exact HB.out | apply below_alloc | apply pw_below_drewN | apply below_drew1 | refine below_set ?_ GE20001.out) | exact HB.out)) hb); clear HO20004; clear BK20001; clear HB; have HO20004 := n0_; have HO20007 := n1_; have BK20001 := n2_; have HB := n3_; clear n0_ n1_ n2_ n3_; clear hb ho48; have hcv49 := own_string (P := Try.prog) Try.underlying33 Try.underlying5 Try.underlying9 (Kd.own_of_R HO20007.out); have hcz50_0 : w47.cell? ⟨gb20001, 0, none⟩ = some (.int .u8 a0_0) := (blk_cell BK20001.out 0).trans rfl; have hcz50_1 : w47.cell? ⟨gb20001, 1, none⟩ = some (.int .u8 a0_1) := (blk_cell BK20001.out 1).trans rfl; have hcz50_2 : w47.cell? ⟨gb20001, 2, none⟩ = some (.slice A0_2 l0_2.length c0_2) := (blk_cell BK20001.out 2).trans rfl; have hfz50_0 := blk_frozen BK20001.out 0; have hfz50_1 := blk_frozen BK20001.out 1; have hfz50_2 := blk_frozen BK20001.out 2; have p20021 : 0 ≤ (0 : Int) := (by omega); have q20021 : 0 < (l0_2.length : Int) := of_decide_eq_true (by first | (with_reducible assumption) | assumption); obtain ⟨ad20021, A20021_2, c20021_2, e20021, hx20021_0, hx20021_1, hx20021_2, hl20021_2, hi20021_2⟩ := at_T38 HR0_2.out 0 p20021 q20021; cases e20021; have qi20021 : (0 < l0_2.length) = True := eq_true (by omega); (try rw [show ((0 : Int)).toNat = 0 from rfl] at hx20021_0); (try rw [show 0 * 3 = 0 from rfl] at hx20021_0); (try rw [Addr.add_zero'] at hx20021_0); (try rw [show ((0 : Int)).toNat = 0 from rfl] at hx20021_1); (try rw [show 0 * 3 = 0 from rfl] at hx20021_1); (try rw [Addr.add_zero'] at hx20021_1); (try rw [show ((0 : Int)).toNat = 0 from rfl] at hx20021_2); (try rw [show 0 * 3 = 0 from rfl] at hx20021_2); (try rw [Addr.add_zero'] at hx20021_2); (try replace hx20021_0 := (HB.out.cell (World.block_lt_of_cell? w _ hx20021_0)).trans hx20021_0); (try replace hx20021_1 := (HB.out.cell (World.block_lt_of_cell? w _ hx20021_1)).trans hx20021_1); (try replace hx20021_2 := (HB.out.cell (World.block_lt_of_cell? w _ hx20021_2)).trans hx20021_2); have HR20021_2 := Aside0.mk hi20021_2; have HC20021_2 := Aside0.mk hl20021_2; clear hi20021_2 hl20021_2; replace p20021 := eq_true p20021; replace q20021 := eq_true q20021) | ((with_reducible refine gate_callee (f := 52) rfl ?_); refine goesL_ (some 38) rfl rfl Try.func52 (by kernel_rfl) rfl #[.agg #[.int .u8 ((rd_T38 l0_2 0).f0), .int .u8 ((rd_T38 l0_2 0).f1), .slice A20021_2 ((rd_T38 l0_2 0).f2).length c20021_2]] rfl (by (try simp only [List.map_toArray, List.map_cons, List.map_nil]); first | done | rfl | (simp only [List.length_drop, List.length_take]; rfl)) ?_; (with_reducible refine (ih k (by omega) ((rd_T38 l0_2 0).f0) ((rd_T38 l0_2 0).f1) _ _ ((rd_T38 l0_2 0).f2) t20022 _ ?side1 ?side2 A35.out).mono ?_); (case side1 => repeat (first | exact (Kd.C_below HR20021_2.out HB.out) | (with_reducible refine Kd.C_alloc ?_ _) | (with_reducible refine Kd.C_drewN ?_ _) | (with_reducible refine Kd.C_drew ?_))); (case side2 => exact HC20021_2.out); rintro e w51 ⟨v20023, rfl, ho0, hb⟩; refine ⟨_, rfl, ?_⟩; have n0_ := Aside0.mk (Kd.R_below (by (with_reducible repeat (first | apply Kd.R_alloc | apply Kd.R_drewN | apply Kd.R_drew)); exact HO20004.out) hb); have n1_ := Aside0.mk (Kd.R_below (by (with_reducible repeat (first | apply Kd.R_alloc | apply Kd.R_drewN | apply Kd.R_drew)); exact HO20007.out) hb); have n2_ := Aside0.mk (Kd.R_lower ho0 (below_size (by repeat (first | (with_reducible first | exact HB.out | apply below_alloc | apply pw_below_drewN | apply below_drew1 | refine below_set ?_ GE20001.out) | exact HB.out)))); have n3_ := Aside0.mk (blk_below (g := gb20001) (o := .cells #[.int .u8 a0_0, .int .u8 a0_1, .slice (some ad20021) l0_2.length c0_2] 38 (0, 0)) (by (with_reducible repeat (first | refine blk_drewN ?_ _ | refine blk_drew ?_ | refine blk_alloc ?_ _)); exact BK20001.out) hb); have n4_ := Aside0.mk (below_step (by repeat (first | (with_reducible first | exact HB.out | apply below_alloc | apply pw_below_drewN | apply below_drew1 | refine below_set ?_ GE20001.out) | exact HB.out)) hb); clear HO20004; clear HO20007; clear BK20001; clear HB; have HO20004 := n0_; have HO20007 := n1_; have HO20024 := n2_; have BK20001 := n3_; have HB := n4_; clear n0_ n1_ n2_ n3_ n4_; (try clear hb); (try clear hb2); (try clear hk); (try clear hi); (try clear ho0); have hcz52_0 : w51.cell? ⟨gb20001, 0, none⟩ = some (.int .u8 a0_0) := (blk_cell BK20001.out 0).trans rfl; have hcz52_1 : w51.cell? ⟨gb20001, 1, none⟩ = some (.int .u8 a0_1) := (blk_cell BK20001.out 1).trans rfl; have hcz52_2 : w51.cell? ⟨gb20001, 2, none⟩ = some (.slice (some ad20021) l0_2.length c0_2) := (blk_cell BK20001.out 2).trans rfl; have hfz52_0 := blk_frozen BK20001.out 0; have hfz52_1 := blk_frozen BK20001.out 1; have hfz52_2 := blk_frozen BK20001.out 2; have p20025 : 0 ≤ (1 : Int) := (by omega); have q20025 : 1 < (l0_2.length : Int) := of_decide_eq_true (by first | (with_reducible assumption) | assumption); obtain ⟨ad20025, A20025_2, c20025_2, e20025, hx20025_0, hx20025_1, hx20025_2, hl20025_2, hi20025_2⟩ := at_T38 HR0_2.out 1 p20025 q20025; obtain rfl : ad20021 = ad20025 := (by injection e20025); (try simp only [show (1 : Int).toNat = 1 from rfl, Nat.reduceMul, Nat.reduceEqDiff, Go.Addr.add, ↓reduceIte] at hx20025_0); (try simp only [show (1 : Int).toNat = 1 from rfl, Nat.reduceMul, Nat.reduceEqDiff, Go.Addr.add, ↓reduceIte] at hx20025_1); (try simp only [show (1 : Int).toNat = 1 from rfl, Nat.reduceMul, Nat.reduceEqDiff, Go.Addr.add, ↓reduceIte] at hx20025_2); have qi20025 : (1 < l0_2.length) = True := eq_true (by omega); (try rw [show ((1 : Int)).toNat = 1 from rfl] at hx20025_0); (try rw [show 1 * 3 = 3 from rfl] at hx20025_0); (try rw [show ((1 : Int)).toNat = 1 from rfl] at hx20025_1); (try rw [show 1 * 3 = 3 from rfl] at hx20025_1); (try rw [show ((1 : Int)).toNat = 1 from rfl] at hx20025_2); (try rw [show 1 * 3 = 3 from rfl] at hx20025_2); (try replace hx20025_0 := (HB.out.cell (World.block_lt_of_cell? w _ hx20025_0)).trans hx20025_0); (try replace hx20025_1 := (HB.out.cell (World.block_lt_of_cell? w _ hx20025_1)).trans hx20025_1); (try replace hx20025_2 := (HB.out.cell (World.block_lt_of_cell? w _ hx20025_2)).trans hx20025_2); have HR20025_2 := Aside0.mk hi20025_2; have HC20025_2 := Aside0.mk hl20025_2; clear hi20025_2 hl20025_2; replace p20025 := eq_true p20025; replace q20025 := eq_true q20025) | ((with_reducible refine gate_callee (f := 52) rfl ?_); refine goesL_ (some 47) rfl rfl Try.func52 (by kernel_rfl) rfl #[.agg #[.int .u8 ((rd_T38 l0_2 1).f0), .int .u8 ((rd_T38 l0_2 1).f1), .slice A20025_2 ((rd_T38 l0_2 1).f2).length c20025_2]] rfl (by (try simp only [List.map_toArray, List.map_cons, List.map_nil]); first | done | rfl | (simp only [List.length_drop, List.length_take]; rfl)) ?_; (with_reducible refine (ih k (by omega) ((rd_T38 l0_2 1).f0) ((rd_T38 l0_2 1).f1) _ _ ((rd_T38 l0_2 1).f2) t20026 _ ?side1 ?side2 A38.out).mono ?_); (case side1 => repeat (first | exact (Kd.C_below HR20025_2.out HB.out) | (with_reducible refine Kd.C_alloc ?_ _) | (with_reducible refine Kd.C_drewN ?_ _) | (with_reducible refine Kd.C_drew ?_))); (case side2 => exact HC20025_2.out); rintro e w53 ⟨v20027, rfl, ho0, hb⟩; refine ⟨_, rfl, ?_⟩; have n0_ := Aside0.mk (Kd.R_below (by (with_reducible repeat (first | apply Kd.R_alloc | apply Kd.R_drewN | apply Kd.R_drew)); exact HO20004.out) hb); have n1_ := Aside0.mk (Kd.R_below (by (with_reducible repeat (first | apply Kd.R_alloc | apply Kd.R_drewN | apply Kd.R_drew)); exact HO20007.out) hb); have n2_ := Aside0.mk (Kd.R_elder' (by (with_reducible repeat (first | apply Kd.R_alloc | apply Kd.R_drewN | apply Kd.R_drew)); exact HO20024.out) (Kd.R_base ho0) hb); have n3_ := Aside0.mk (Kd.R_lower (Kd.R_new' ho0 (Kd.R_lt (by (with_reducible repeat (first | apply Kd.R_alloc | apply Kd.R_drewN | apply Kd.R_drew)); exact HO20024.out))) (below_size (by repeat (first | (with_reducible first | exact HB.out | apply below_alloc | apply pw_below_drewN | apply below_drew1 | refine below_set ?_ GE20001.out) | exact HB.out)))); have n4_ := Aside0.mk (blk_below (g := gb20001) (o := .cells #[.int .u8 a0_0, .int .u8 a0_1, .slice (some ad20021) l0_2.length c0_2] 38 (0, 0)) (by (with_reducible repeat (first | refine blk_drewN ?_ _ | refine blk_drew ?_ | refine blk_alloc ?_ _)); exact BK20001.out) hb); have n5_ := Aside0.mk (below_step (by repeat (first | (with_reducible first | exact HB.out | apply below_alloc | apply pw_below_drewN | apply below_drew1 | refine below_set ?_ GE20001.out) | exact HB.out)) hb); clear HO20004; clear HO20007; clear HO20024; clear BK20001; clear HB; have HO20004 := n0_; have HO20007 := n1_; have HO20024 := n2_; have HO20028 := n3_; have BK20001 := n4_; have HB := n5_; clear n0_ n1_ n2_ n3_ n4_ n5_; (try clear hb); (try clear hb2); (try clear hk); (try clear hi); (try clear ho0); obtain ⟨Ao55, co55, eo55⟩ := Kd.R_slice HO20028.out; subst eo55) | ((with_reducible refine gate_builtin (b := .append) (xs := #[.tmp 42, .tmp 47]) rfl ?_); at_builtin; refine Kd.R_append_rows Kd.string (w0 := w) w.heap.size rfl (.tmp 42) (.tmp 47) 25 9 (.string ⟨#[]⟩) 16 rfl Try.underlying25 info9 rfl (by decide) (by omega) v20023 t20022 t20026 _ _ _ (fun k_ => some k_ ≠ (.slice Ao55 t20026.length co55 : Value).ownBlock) (fun _ => False) rfl rfl ?aO ?aR (fun _ _ h => h) (fun _ h => h.elim) ?aF ?aB ?aS ?aL ?_; (case aR => repeat (first | exact (Kd.R_reads' HO20028.out).2.2 | (with_reducible refine Kd.C_alloc ?_ _) | (with_reducible refine Kd.C_drewN ?_ _) | (with_reducible refine Kd.C_drew ?_))); (case aB => exact (by repeat (first | (with_reducible first | exact HB.out | apply below_alloc | apply pw_below_drewN | apply below_drew1 | refine below_set ?_ GE20001.out) | exact HB.out))); (case aF => exact (fun k_ hk => Kd.fresh' (Kd.R_lt (by (with_reducible repeat (first | apply Kd.R_alloc | apply Kd.R_drewN | apply Kd.R_drew)); exact HO20028.out)) k_ hk)); (case aO => exact (by (with_reducible repeat (first | apply Kd.R_alloc | apply Kd.R_drewN | apply Kd.R_drew)); exact Kd.R_mono HO20024.out (fun _ hk => hk.2))); (case aS => exact (below_size (by repeat (first | (with_reducible first | exact HB.out | apply below_alloc | apply pw_below_drewN | apply below_drew1 | refine below_set ?_ GE20001.out) | exact HB.out)))); (case aL => have := LMc39.out; omega); intro v20030 w54 ho hb hg hat; rw [← Ny20029.out] at ho; have n0_ := Aside0.mk (blk_grown (g := gb20001) (o := .cells #[.int .u8 a0_0, .int .u8 a0_1, .slice (some ad20021) l0_2.length c0_2] 38 (0, 0)) (by (with_reducible repeat (first | refine blk_drewN ?_ _ | refine blk_drew ?_ | refine blk_alloc ?_ _)); exact BK20001.out) hg (Kd.R_ne HO20024.out BK20001.out (by decide))); have n1_ := Aside0.mk (Kd.R_over' (by (with_reducible repeat (first | apply Kd.R_alloc | apply Kd.R_drewN | apply Kd.R_drew)); exact HO20004.out) (Kd.R_typed (by (with_reducible repeat (first | apply Kd.R_alloc | apply Kd.R_drewN | apply Kd.R_drew)); exact HO20024.out)) (by decide) hg); have n2_ := Aside0.mk (Kd.R_over' (by (with_reducible repeat (first | apply Kd.R_alloc | apply Kd.R_drewN | apply Kd.R_drew)); exact HO20007.out) (Kd.R_typed (by (with_reducible repeat (first | apply Kd.R_alloc | apply Kd.R_drewN | apply Kd.R_drew)); exact HO20024.out)) (by decide) hg); have n3_ := Aside0.mk (Kd.R_after (ok := (fun _ => True)) (by (with_reducible repeat (first | apply Kd.R_alloc | apply Kd.R_drewN | apply Kd.R_drew)); exact HO20028.out) hg hat); have n4_ := Aside0.mk (hb); have n5_ := Aside0.mk (ho); clear BK20001; clear HO20004; clear HO20007; clear HO20028; clear HB; clear HO20024; have BK20001 := n0_; have HO20004 := n1_; have HO20007 := n2_; have HO20028 := n3_; have HB := n4_; have HO20031 := n5_; clear n0_ n1_ n2_ n3_ n4_ n5_; clear ho hb hg hat) | ((with_reducible refine gate_dst (N := 50) rfl ?_); refine Kd.R_lit Kd.string _ 9 ?hg (N := 50) ?hd (xs := ([strOfNums y20002] : List ByteArray)) (inner := [.string (strOfNums y20002)]) (ok := fun _ => True) (okp := fun _ => True) ?hr ?hp (fun _ hk => hk) trivial (Below.refl _ _) (Nat.le_refl _) (by simp) ?_; (case hd => rfl); (case hg => rfl); (case hr => first | (go_simp; done) | (go_simp; rfl)); (case hp => exact (Reps.one (show Kd.M Kd.string _ _ _ (strOfNums y20002) [.string (strOfNums y20002)] from rfl) (Reps.none _ _))); intro v20033 w56 ho57 hb hg_ hnew_; clear hg_ hnew_; (first | rw [← Ny20032.out] at ho57 | (simp only [Int.reduceToNat] at ho57; rw [← Ny20032.out] at ho57)); have n0_ := Aside0.mk (Kd.R_below (by (with_reducible repeat (first | apply Kd.R_alloc | apply Kd.R_drewN | apply Kd.R_drew)); exact HO20004.out) hb); have n1_ := Aside0.mk (Kd.R_below (by (with_reducible repeat (first | apply Kd.R_alloc | apply Kd.R_drewN | apply Kd.R_drew)); exact HO20007.out) hb); have n2_ := Aside0.mk (Kd.R_elder' (by (with_reducible repeat (first | apply Kd.R_alloc | apply Kd.R_drewN | apply Kd.R_drew)); exact HO20028.out) (Kd.R_base ho57) hb); have n3_ := Aside0.mk (Kd.R_elder' (by (with_reducible repeat (first | apply Kd.R_alloc | apply Kd.R_drewN | apply Kd.R_drew)); exact HO20031.out) (Kd.R_base ho57) hb); have n4_ := Aside0.mk (Kd.R_lower (Kd.R_new' (Kd.R_new' ho57 (Kd.R_lt (by (with_reducible repeat (first | apply Kd.R_alloc | apply Kd.R_drewN | apply Kd.R_drew)); exact HO20028.out))) (Kd.R_lt (by (with_reducible repeat (first | apply Kd.R_alloc | apply Kd.R_drewN | apply Kd.R_drew)); exact HO20031.out))) (below_size (by repeat (first | (with_reducible first | exact HB.out | apply below_alloc | apply pw_below_drewN | apply below_drew1 | refine below_set ?_ GE20001.out) | exact HB.out)))); have n5_ := Aside0.mk (blk_below (g := gb20001) (o := .cells #[.int .u8 a0_0, .int .u8 a0_1, .slice (some ad20021) l0_2.length c0_2] 38 (0, 0)) (by (with_reducible repeat (first | refine blk_drewN ?_ _ | refine blk_drew ?_ | refine blk_alloc ?_ _)); exact BK20001.out) hb); have n6_ := Aside0.mk (below_step (by repeat (first | (with_reducible first | exact HB.out | apply below_alloc | apply pw_below_drewN | apply below_drew1 | refine below_set ?_ GE20001.out) | exact HB.out)) hb); clear HO20004; clear HO20007; clear HO20028; clear HO20031; clear BK20001; clear HB; have HO20004 := n0_; have HO20007 := n1_; have HO20028 := n2_; have HO20031 := n3_; have HO20034 := n4_; have BK20001 := n5_; have HB := n6_; clear n0_ n1_ n2_ n3_ n4_ n5_ n6_; clear hb ho57; obtain ⟨Ao59, co59, eo59⟩ := Kd.R_slice HO20034.out; subst eo59) | ((with_reducible refine gate_builtin (b := .append) (xs := #[.tmp 48, .tmp 50]) rfl ?_); at_builtin; refine Kd.R_append_rows Kd.string (w0 := w) w.heap.size rfl (.tmp 48) (.tmp 50) 25 9 (.string ⟨#[]⟩) 16 rfl Try.underlying25 info9 rfl (by decide) (by omega) v20030 y20029 y20032 _ _ _ (fun k_ => some k_ ≠ (.slice Ao55 t20026.length co55 : Value).ownBlock ∧ some k_ ≠ (.slice Ao59 y20032.length co59 : Value).ownBlock) (fun _ => False) rfl rfl ?aO ?aR (fun _ _ h => h) (fun _ h => h.elim) ?aF ?aB ?aS ?aL ?_; (case aR => repeat (first | exact (Kd.R_reads' HO20034.out).2.2 | (with_reducible refine Kd.C_alloc ?_ _) | (with_reducible refine Kd.C_drewN ?_ _) | (with_reducible refine Kd.C_drew ?_))); (case aB => exact (by repeat (first | (with_reducible first | exact HB.out | apply below_alloc | apply pw_below_drewN | apply below_drew1 | refine below_set ?_ GE20001.out) | exact HB.out))); (case aF => exact (fun k_ hk => ⟨Kd.fresh' (Kd.R_lt (by (with_reducible repeat (first | apply Kd.R_alloc | apply Kd.R_drewN | apply Kd.R_drew)); exact HO20028.out)) k_ hk, Kd.fresh' (Kd.R_lt (by (with_reducible repeat (first | apply Kd.R_alloc | apply Kd.R_drewN | apply Kd.R_drew)); exact HO20034.out)) k_ hk⟩)); (case aO => exact (by (with_reducible repeat (first | apply Kd.R_alloc | apply Kd.R_drewN | apply Kd.R_drew)); exact HO20031.out)); (case aS => exact (below_size (by repeat (first | (with_reducible first | exact HB.out | apply below_alloc | apply pw_below_drewN | apply below_drew1 | refine below_set ?_ GE20001.out) | exact HB.out)))); (case aL => have := LMc40.out; omega); intro v20036 w58 ho hb hg hat; rw [← Ny20035.out] at ho; have n0_ := Aside0.mk (blk_grown (g := gb20001) (o := .cells #[.int .u8 a0_0, .int .u8 a0_1, .slice (some ad20021) l0_2.length c0_2] 38 (0, 0)) (by (with_reducible repeat (first | refine blk_drewN ?_ _ | refine blk_drew ?_ | refine blk_alloc ?_ _)); exact BK20001.out) hg (Kd.R_ne HO20031.out BK20001.out (by decide))); have n1_ := Aside0.mk (Kd.R_over' (by (with_reducible repeat (first | apply Kd.R_alloc | apply Kd.R_drewN | apply Kd.R_drew)); exact HO20004.out) (Kd.R_typed (by (with_reducible repeat (first | apply Kd.R_alloc | apply Kd.R_drewN | apply Kd.R_drew)); exact HO20031.out)) (by decide) hg); have n2_ := Aside0.mk (Kd.R_over' (by (with_reducible repeat (first | apply Kd.R_alloc | apply Kd.R_drewN | apply Kd.R_drew)); exact HO20007.out) (Kd.R_typed (by (with_reducible repeat (first | apply Kd.R_alloc | apply Kd.R_drewN | apply Kd.R_drew)); exact HO20031.out)) (by decide) hg); have n3_ := Aside0.mk (Kd.R_after (ok := (fun k_ => some k_ ≠ (.slice Ao59 y20032.length co59 : Value).ownBlock)) (by (with_reducible repeat (first | apply Kd.R_alloc | apply Kd.R_drewN | apply Kd.R_drew)); exact Kd.R_mono HO20028.out (fun _ hk => ⟨hk.2, hk.1.2⟩)) hg hat); have n4_ := Aside0.mk (Kd.R_after (ok := (fun k_ => some k_ ≠ (.slice Ao55 t20026.length co55 : Value).ownBlock)) (by (with_reducible repeat (first | apply Kd.R_alloc | apply Kd.R_drewN | apply Kd.R_drew)); exact Kd.R_mono HO20034.out (fun _ hk => ⟨hk.1.2, hk.2⟩)) hg hat); have n5_ := Aside0.mk (hb); have n6_ := Aside0.mk (ho); clear BK20001; clear HO20004; clear HO20007; clear HO20028; clear HO20034; clear HB; clear HO20031; have BK20001 := n0_; have HO20004 := n1_; have HO20007 := n2_; have HO20028 := n3_; have HO20034 := n4_; have HB := n5_; have HO20037 := n6_; clear n0_ n1_ n2_ n3_ n4_ n5_ n6_; clear ho hb hg hat))
                go_ret
                exact ⟨_, by first | rfl | (simp [errW_none, errW_some] <;> rfl) | (simp [*, errW_none, errW_some] <;> rfl), by (with_reducible repeat (first | apply Kd.R_alloc | apply Kd.R_drewN | apply Kd.R_drew)); exact Kd.R_mono HO20037.out (fun _ hk => trivial), by repeat (first | (with_reducible first | exact HB.out | apply below_alloc | apply pw_below_drewN | apply below_drew1 | refine below_set ?_ GE20001.out) | exact HB.out)⟩
              · rw [if_neg c40] at H
                exact absurd H (by simp)
            · rw [if_neg c39] at H
              exact absurd H (by simp)
          · rw [if_neg c37] at H
            exact absurd H (by simp)
        · rw [if_neg c36] at H
          have c36b0 : (a0_1 == 0) = false := beq_eq_false_iff_ne.mpr c36
          have c36b1 : (a0_1 != 0) = true := bne_iff_ne.mpr c36
          by_cases c60 : (strOfNums y20002).size + (strOfNums y20005).size ≤ 9223372036854775807
          · rw [if_pos c60] at H
            have c60b0 := eq_true c60
            have c60b1 : decide ((strOfNums y20002).size + (strOfNums y20005).size ≤ 9223372036854775807) = true := decide_eq_true c60
            try have c60b2 : (9223372036854775807 < (strOfNums y20002).size + (strOfNums y20005).size) = False := eq_false (Nat.not_lt.2 c60)
            obtain ⟨y20038, hy20038⟩ : ∃ y_ : List ByteArray, y_ = (([(strOfNums y20002) ++ (strOfNums y20005)] : List ByteArray)) := ⟨_, rfl⟩
            replace H : (if t20022.length + y20038.length < 8796093022208 then ((some (t20022 ++ y20038 : List ByteArray)).bind fun y20041 => (if 1 < (l0_2.length : Int) then ((spec_l7List.f k ((rd_T38 l0_2 1).f0) ((rd_T38 l0_2 1).f1) ((rd_T38 l0_2 1).f2)).bind fun t20045 => (if y20041.length + t20045.length < 8796093022208 then ((some (y20041 ++ t20045 : List ByteArray)).bind fun y20048 => ((some (([strOfNums (([(a0_0 + 2) % 256] : List Int))] : List ByteArray) : List ByteArray)).bind fun y20054 => (if y20048.length + y20054.length < 8796093022208 then (some (y20048 ++ y20054)) else (none)))) else (none))) else (none))) else (none)) = some r := by first | (rw [hy20038]; with_reducible exact H) | (have H2_ := (Option.bind_some _ _).symm.trans H; rw [hy20038]; with_reducible exact H2_) | (have H2_ := (Option.bind_some _ _).symm.trans H; with_reducible exact H2_) | with_reducible exact H | (rw [hy20038]; exact H) | exact H
            have Ny20038 := Aside0.mk hy20038
            clear hy20038
            by_cases c61 : t20022.length + y20038.length < 8796093022208
            · rw [if_pos c61] at H
              have LMc61 := Aside0.mk c61
              clear c61
              obtain ⟨y20041, hy20041⟩ : ∃ y_ : List ByteArray, y_ = (t20022 ++ y20038) := ⟨_, rfl⟩
              replace H : (if 1 < (l0_2.length : Int) then ((spec_l7List.f k ((rd_T38 l0_2 1).f0) ((rd_T38 l0_2 1).f1) ((rd_T38 l0_2 1).f2)).bind fun t20045 => (if y20041.length + t20045.length < 8796093022208 then ((some (y20041 ++ t20045 : List ByteArray)).bind fun y20048 => ((some (([strOfNums (([(a0_0 + 2) % 256] : List Int))] : List ByteArray) : List ByteArray)).bind fun y20054 => (if y20048.length + y20054.length < 8796093022208 then (some (y20048 ++ y20054)) else (none)))) else (none))) else (none)) = some r := by first | (rw [hy20041]; with_reducible exact H) | (have H2_ := (Option.bind_some _ _).symm.trans H; rw [hy20041]; with_reducible exact H2_) | (have H2_ := (Option.bind_some _ _).symm.trans H; with_reducible exact H2_) | with_reducible exact H | (rw [hy20041]; exact H) | exact H
              have Ny20041 := Aside0.mk hy20041
              clear hy20041
              by_cases c62 : 1 < (l0_2.length : Int)
              · rw [if_pos c62] at H
                have c62b0 : decide (1 < (l0_2.length : Int)) = true := decide_eq_true c62
                have c62b1 : decide (1 < l0_2.length) = true := decide_eq_true (by omega)
                clear c62
                replace H := Option.bind_eq_some_iff.mp H
                obtain ⟨t20045, A630, H⟩ := H
                replace H : (if y20041.length + t20045.length < 8796093022208 then ((some (y20041 ++ t20045 : List ByteArray)).bind fun y20048 => ((some (([strOfNums (([(a0_0 + 2) % 256] : List Int))] : List ByteArray) : List ByteArray)).bind fun y20054 => (if y20048.length + y20054.length < 8796093022208 then (some (y20048 ++ y20054)) else (none)))) else (none)) = some r := H
                have A63 := Aside0.mk A630
                clear A630
                by_cases c64 : y20041.length + t20045.length < 8796093022208
                · rw [if_pos c64] at H
                  have LMc64 := Aside0.mk c64
                  clear c64
                  obtain ⟨y20048, hy20048⟩ : ∃ y_ : List ByteArray, y_ = (y20041 ++ t20045) := ⟨_, rfl⟩
                  replace H : ((some (([strOfNums (([(a0_0 + 2) % 256] : List Int))] : List ByteArray) : List ByteArray)).bind fun y20054 => (if y20048.length + y20054.length < 8796093022208 then (some (y20048 ++ y20054)) else (none))) = some r := by first | (rw [hy20048]; with_reducible exact H) | (have H2_ := (Option.bind_some _ _).symm.trans H; rw [hy20048]; with_reducible exact H2_) | (have H2_ := (Option.bind_some _ _).symm.trans H; with_reducible exact H2_) | with_reducible exact H | (rw [hy20048]; exact H) | exact H
                  have Ny20048 := Aside0.mk hy20048
                  clear hy20048
                  obtain ⟨y20051, hy20051⟩ : ∃ y_ : List Int, y_ = (([(a0_0 + 2) % 256] : List Int)) := ⟨_, rfl⟩
                  replace H : ((some (([strOfNums y20051] : List ByteArray) : List ByteArray)).bind fun y20054 => (if y20048.length + y20054.length < 8796093022208 then (some (y20048 ++ y20054)) else (none))) = some r := by first | (rw [hy20051]; with_reducible exact H) | (have H2_ := (Option.bind_some _ _).symm.trans H; rw [hy20051]; with_reducible exact H2_) | (have H2_ := (Option.bind_some _ _).symm.trans H; with_reducible exact H2_) | with_reducible exact H | (rw [hy20051]; exact H) | exact H
                  have Ny20051 := Aside0.mk hy20051
                  clear hy20051
                  obtain ⟨y20054, hy20054⟩ : ∃ y_ : List ByteArray, y_ = (([strOfNums y20051] : List ByteArray)) := ⟨_, rfl⟩
                  replace H : (if y20048.length + y20054.length < 8796093022208 then (some (y20048 ++ y20054)) else (none)) = some r := by first | (rw [hy20054]; with_reducible exact H) | (have H2_ := (Option.bind_some _ _).symm.trans H; rw [hy20054]; with_reducible exact H2_) | (have H2_ := (Option.bind_some _ _).symm.trans H; with_reducible exact H2_) | with_reducible exact H | (rw [hy20054]; exact H) | exact H
                  have Ny20054 := Aside0.mk hy20054
                  clear hy20054
                  by_cases c65 : y20048.length + y20054.length < 8796093022208
                  · rw [if_pos c65] at H
                    have LMc65 := Aside0.mk c65
                    clear c65
                    obtain ⟨y20057, hy20057⟩ : ∃ y_ : List ByteArray, y_ = (y20048 ++ y20054) := ⟨_, rfl⟩
                    replace H : (some y20057) = some r := by first | (rw [hy20057]; with_reducible exact H) | (have H2_ := (Option.bind_some _ _).symm.trans H; rw [hy20057]; with_reducible exact H2_) | (have H2_ := (Option.bind_some _ _).symm.trans H; with_reducible exact H2_) | with_reducible exact H | (rw [hy20057]; exact H) | exact H
                    have Ny20057 := Aside0.mk hy20057
                    clear hy20057
                    obtain rfl := Option.some.inj H
                    go_enter Try.func52, Try.ntmps52
                    try go_wp2_with (first | ((with_reducible refine gate_dst (N := 1) rfl ?_); refine box_event ?hg (N := 1) ?hd (cs := #[.int .u8 a0_0, .int .u8 a0_1, .slice A0_2 l0_2.length c0_2]) (t := 38) ?hr ?_; (case hd => rfl); (case hg => rfl); (case hr => first | (go_simp; done) | (go_simp; rfl)); intro gb20001 hg w66 hbox hb; have n0_ := Aside0.mk (below_step (by repeat (first | (with_reducible first | exact HB.out | apply below_alloc | apply pw_below_drewN | apply below_drew1) | exact HB.out)) hb); have n1_ := Aside0.mk (hbox); have n2_ := Aside0.mk ((by rw [hg]; exact (below_size (by repeat (first | (with_reducible first | exact HB.out | apply below_alloc | apply pw_below_drewN | apply below_drew1) | exact HB.out))) : w.heap.size ≤ gb20001)); have n3_ := Aside0.mk ((by rw [hg]; exact (below_size (by repeat (first | (with_reducible first | exact HB.out | apply below_alloc | apply pw_below_drewN | apply below_drew1) | exact HB.out))) : w.heap.size ≤ gb20001)); clear HB; have HB := n0_; have BK20001 := n1_; have GW20001 := n2_; have GE20001 := n3_; clear n0_ n1_ n2_ n3_; clear hb hbox hg; have hcz67_0 : w66.cell? ⟨gb20001, 0, none⟩ = some (.int .u8 a0_0) := (blk_cell BK20001.out 0).trans rfl; have hcz67_1 : w66.cell? ⟨gb20001, 1, none⟩ = some (.int .u8 a0_1) := (blk_cell BK20001.out 1).trans rfl; have hcz67_2 : w66.cell? ⟨gb20001, 2, none⟩ = some (.slice A0_2 l0_2.length c0_2) := (blk_cell BK20001.out 2).trans rfl; have hfz67_0 := blk_frozen BK20001.out 0; have hfz67_1 := blk_frozen BK20001.out 1; have hfz67_2 := blk_frozen BK20001.out 2) | ((with_reducible refine gate_dst (N := 8) rfl ?_); refine Kd.R_lit (Kd.int .u8) _ 5 ?hg (N := 8) ?hd (xs := ([a0_0] : List Int)) (inner := [.int .u8 a0_0]) (ok := fun _ => True) (okp := fun _ => True) ?hr ?hp (fun _ hk => hk) trivial (Below.refl _ _) (Nat.le_refl _) (by simp) ?_; (case hd => rfl); (case hg => rfl); (case hr => first | (go_simp; done) | (go_simp; rfl)); (case hp => exact (Reps.one (show Kd.M (Kd.int .u8) _ _ _ a0_0 [.int .u8 a0_0] from rfl) (Reps.none _ _))); intro v20003 w68 ho69 hb hg_ hnew_; clear hg_ hnew_; (first | rw [← Ny20002.out] at ho69 | (simp only [Int.reduceToNat] at ho69; rw [← Ny20002.out] at ho69)); have n0_ := Aside0.mk (Kd.R_lower ho69 (below_size (by repeat (first | (with_reducible first | exact HB.out | apply below_alloc | apply pw_below_drewN | apply below_drew1 | refine below_set ?_ GE20001.out) | exact HB.out)))); have n1_ := Aside0.mk (blk_below (g := gb20001) (o := .cells #[.int .u8 a0_0, .int .u8 a0_1, .slice A0_2 l0_2.length c0_2] 38 (0, 0)) (by (with_reducible repeat (first | refine blk_drewN ?_ _ | refine blk_drew ?_ | refine blk_alloc ?_ _)); exact BK20001.out) hb); have n2_ := Aside0.mk (below_step (by repeat (first | (with_reducible first | exact HB.out | apply below_alloc | apply pw_below_drewN | apply below_drew1 | refine below_set ?_ GE20001.out) | exact HB.out)) hb); clear BK20001; clear HB; have HO20004 := n0_; have BK20001 := n1_; have HB := n2_; clear n0_ n1_ n2_; clear hb ho69; have hcv70 := own_string (P := Try.prog) Try.underlying33 Try.underlying5 Try.underlying9 (Kd.own_of_R HO20004.out); have hcz71_0 : w68.cell? ⟨gb20001, 0, none⟩ = some (.int .u8 a0_0) := (blk_cell BK20001.out 0).trans rfl; have hcz71_1 : w68.cell? ⟨gb20001, 1, none⟩ = some (.int .u8 a0_1) := (blk_cell BK20001.out 1).trans rfl; have hcz71_2 : w68.cell? ⟨gb20001, 2, none⟩ = some (.slice A0_2 l0_2.length c0_2) := (blk_cell BK20001.out 2).trans rfl; have hfz71_0 := blk_frozen BK20001.out 0; have hfz71_1 := blk_frozen BK20001.out 1; have hfz71_2 := blk_frozen BK20001.out 2) | ((with_reducible refine gate_dst (N := 12) rfl ?_); refine Kd.R_lit (Kd.int .u8) _ 5 ?hg (N := 12) ?hd (xs := ([a0_1] : List Int)) (inner := [.int .u8 a0_1]) (ok := fun _ => True) (okp := fun _ => True) ?hr ?hp (fun _ hk => hk) trivial (Below.refl _ _) (Nat.le_refl _) (by simp) ?_; (case hd => rfl); (case hg => rfl); (case hr => first | (go_simp; done) | (go_simp; rfl)); (case hp => exact (Reps.one (show Kd.M (Kd.int .u8) _ _ _ a0_1 [.int .u8 a0_1] from rfl) (Reps.none _ _))); intro v20006 w72 ho73 hb hg_ hnew_; clear hg_ hnew_; (first | rw [← Ny20005.out] at ho73 | (simp only [Int.reduceToNat] at ho73; rw [← Ny20005.out] at ho73)); have n0_ := Aside0.mk (Kd.R_elder' (by (with_reducible repeat (first | apply Kd.R_alloc | apply Kd.R_drewN | apply Kd.R_drew)); exact HO20004.out) (Kd.R_base ho73) hb); have n1_ := Aside0.mk (Kd.R_lower (Kd.R_new' ho73 (Kd.R_lt (by (with_reducible repeat (first | apply Kd.R_alloc | apply Kd.R_drewN | apply Kd.R_drew)); exact HO20004.out))) (below_size (by repeat (first | (with_reducible first | exact HB.out | apply below_alloc | apply pw_below_drewN | apply below_drew1 | refine below_set ?_ GE20001.out) | exact HB.out)))); have n2_ := Aside0.mk (blk_below (g := gb20001) (o := .cells #[.int .u8 a0_0, .int .u8 a0_1, .slice A0_2 l0_2.length c0_2] 38 (0, 0)) (by (with_reducible repeat (first | refine blk_drewN ?_ _ | refine blk_drew ?_ | refine blk_alloc ?_ _)); exact BK20001.out) hb); have n3_ := Aside0.mk (below_step (by repeat (first | (with_reducible first | exact HB.out | apply below_alloc | apply pw_below_drewN | apply below_drew1 | refine below_set ?_ GE20001.out) | exact HB.out)) hb); clear HO20004; clear BK20001; clear HB; have HO20004 := n0_; have HO20007 := n1_; have BK20001 := n2_; have HB := n3_; clear n0_ n1_ n2_ n3_; clear hb ho73; have hcv74 := own_string (P := Try.prog) Try.underlying33 Try.underlying5 Try.underlying9 (Kd.own_of_R HO20007.out); have hcz75_0 : w72.cell? ⟨gb20001, 0, none⟩ = some (.int .u8 a0_0) := (blk_cell BK20001.out 0).trans rfl; have hcz75_1 : w72.cell? ⟨gb20001, 1, none⟩ = some (.int .u8 a0_1) := (blk_cell BK20001.out 1).trans rfl; have hcz75_2 : w72.cell? ⟨gb20001, 2, none⟩ = some (.slice A0_2 l0_2.length c0_2) := (blk_cell BK20001.out 2).trans rfl; have hfz75_0 := blk_frozen BK20001.out 0; have hfz75_1 := blk_frozen BK20001.out 1; have hfz75_2 := blk_frozen BK20001.out 2; have p20021 : 0 ≤ (0 : Int) := (by omega); have q20021 : 0 < (l0_2.length : Int) := of_decide_eq_true (by first | (with_reducible assumption) | assumption); obtain ⟨ad20021, A20021_2, c20021_2, e20021, hx20021_0, hx20021_1, hx20021_2, hl20021_2, hi20021_2⟩ := at_T38 HR0_2.out 0 p20021 q20021; cases e20021; have qi20021 : (0 < l0_2.length) = True := eq_true (by omega); (try rw [show ((0 : Int)).toNat = 0 from rfl] at hx20021_0); (try rw [show 0 * 3 = 0 from rfl] at hx20021_0); (try rw [Addr.add_zero'] at hx20021_0); (try rw [show ((0 : Int)).toNat = 0 from rfl] at hx20021_1); (try rw [show 0 * 3 = 0 from rfl] at hx20021_1); (try rw [Addr.add_zero'] at hx20021_1); (try rw [show ((0 : Int)).toNat = 0 from rfl] at hx20021_2); (try rw [show 0 * 3 = 0 from rfl] at hx20021_2); (try rw [Addr.add_zero'] at hx20021_2); (try replace hx20021_0 := (HB.out.cell (World.block_lt_of_cell? w _ hx20021_0)).trans hx20021_0); (try replace hx20021_1 := (HB.out.cell (World.block_lt_of_cell? w _ hx20021_1)).trans hx20021_1); (try replace hx20021_2 := (HB.out.cell (World.block_lt_of_cell? w _ hx20021_2)).trans hx20021_2); have HR20021_2 := Aside0.mk hi20021_2; have HC20021_2 := Aside0.mk hl20021_2; clear hi20021_2 hl20021_2; replace p20021 := eq_true p20021; replace q20021 := eq_true q20021) | ((with_reducible refine gate_callee (f := 52) rfl ?_); refine goesL_ (some 38) rfl rfl Try.func52 (by kernel_rfl) rfl #[.agg #[.int .u8 ((rd_T38 l0_2 0).f0), .int .u8 ((rd_T38 l0_2 0).f1), .slice A20021_2 ((rd_T38 l0_2 0).f2).length c20021_2]] rfl (by (try simp only [List.map_toArray, List.map_cons, List.map_nil]); first | done | rfl | (simp only [List.length_drop, List.length_take]; rfl)) ?_; (with_reducible refine (ih k (by omega) ((rd_T38 l0_2 0).f0) ((rd_T38 l0_2 0).f1) _ _ ((rd_T38 l0_2 0).f2) t20022 _ ?side1 ?side2 A35.out).mono ?_); (case side1 => repeat (first | exact (Kd.C_below HR20021_2.out HB.out) | (with_reducible refine Kd.C_alloc ?_ _) | (with_reducible refine Kd.C_drewN ?_ _) | (with_reducible refine Kd.C_drew ?_))); (case side2 => exact HC20021_2.out); rintro e w76 ⟨v20023, rfl, ho0, hb⟩; refine ⟨_, rfl, ?_⟩; have n0_ := Aside0.mk (Kd.R_below (by (with_reducible repeat (first | apply Kd.R_alloc | apply Kd.R_drewN | apply Kd.R_drew)); exact HO20004.out) hb); have n1_ := Aside0.mk (Kd.R_below (by (with_reducible repeat (first | apply Kd.R_alloc | apply Kd.R_drewN | apply Kd.R_drew)); exact HO20007.out) hb); have n2_ := Aside0.mk (Kd.R_lower ho0 (below_size (by repeat (first | (with_reducible first | exact HB.out | apply below_alloc | apply pw_below_drewN | apply below_drew1 | refine below_set ?_ GE20001.out) | exact HB.out)))); have n3_ := Aside0.mk (blk_below (g := gb20001) (o := .cells #[.int .u8 a0_0, .int .u8 a0_1, .slice (some ad20021) l0_2.length c0_2] 38 (0, 0)) (by (with_reducible repeat (first | refine blk_drewN ?_ _ | refine blk_drew ?_ | refine blk_alloc ?_ _)); exact BK20001.out) hb); have n4_ := Aside0.mk (below_step (by repeat (first | (with_reducible first | exact HB.out | apply below_alloc | apply pw_below_drewN | apply below_drew1 | refine below_set ?_ GE20001.out) | exact HB.out)) hb); clear HO20004; clear HO20007; clear BK20001; clear HB; have HO20004 := n0_; have HO20007 := n1_; have HO20024 := n2_; have BK20001 := n3_; have HB := n4_; clear n0_ n1_ n2_ n3_ n4_; (try clear hb); (try clear hb2); (try clear hk); (try clear hi); (try clear ho0); have hcz77_0 : w76.cell? ⟨gb20001, 0, none⟩ = some (.int .u8 a0_0) := (blk_cell BK20001.out 0).trans rfl; have hcz77_1 : w76.cell? ⟨gb20001, 1, none⟩ = some (.int .u8 a0_1) := (blk_cell BK20001.out 1).trans rfl; have hcz77_2 : w76.cell? ⟨gb20001, 2, none⟩ = some (.slice (some ad20021) l0_2.length c0_2) := (blk_cell BK20001.out 2).trans rfl; have hfz77_0 := blk_frozen BK20001.out 0; have hfz77_1 := blk_frozen BK20001.out 1; have hfz77_2 := blk_frozen BK20001.out 2) | ((with_reducible refine gate_dst (N := 56) rfl ?_); refine Kd.R_lit Kd.string _ 9 ?hg (N := 56) ?hd (xs := ([(strOfNums y20002) ++ (strOfNums y20005)] : List ByteArray)) (inner := [.string ((strOfNums y20002) ++ (strOfNums y20005))]) (ok := fun _ => True) (okp := fun _ => True) ?hr ?hp (fun _ hk => hk) trivial (Below.refl _ _) (Nat.le_refl _) (by simp) ?_; (case hd => rfl); (case hg => rfl); (case hr => first | (go_simp; done) | (go_simp; rfl)); (case hp => exact (Reps.one (show Kd.M Kd.string _ _ _ ((strOfNums y20002) ++ (strOfNums y20005)) [.string ((strOfNums y20002) ++ (strOfNums y20005))] from rfl) (Reps.none _ _))); intro v20039 w78 ho79 hb hg_ hnew_; clear hg_ hnew_; (first | rw [← Ny20038.out] at ho79 | (simp only [Int.reduceToNat] at ho79; rw [← Ny20038.out] at ho79)); have n0_ := Aside0.mk (Kd.R_below (by (with_reducible repeat (first | apply Kd.R_alloc | apply Kd.R_drewN | apply Kd.R_drew)); exact HO20004.out) hb); have n1_ := Aside0.mk (Kd.R_below (by (with_reducible repeat (first | apply Kd.R_alloc | apply Kd.R_drewN | apply Kd.R_drew)); exact HO20007.out) hb); have n2_ := Aside0.mk (Kd.R_elder' (by (with_reducible repeat (first | apply Kd.R_alloc | apply Kd.R_drewN | apply Kd.R_drew)); exact HO20024.out) (Kd.R_base ho79) hb); have n3_ := Aside0.mk (Kd.R_lower (Kd.R_new' ho79 (Kd.R_lt (by (with_reducible repeat (first | apply Kd.R_alloc | apply Kd.R_drewN | apply Kd.R_drew)); exact HO20024.out))) (below_size (by repeat (first | (with_reducible first | exact HB.out | apply below_alloc | apply pw_below_drewN | apply below_drew1 | refine below_set ?_ GE20001.out) | exact HB.out)))); have n4_ := Aside0.mk (blk_below (g := gb20001) (o := .cells #[.int .u8 a0_0, .int .u8 a0_1, .slice (some ad20021) l0_2.length c0_2] 38 (0, 0)) (by (with_reducible repeat (first | refine blk_drewN ?_ _ | refine blk_drew ?_ | refine blk_alloc ?_ _)); exact BK20001.out) hb); have n5_ := Aside0.mk (below_step (by repeat (first | (with_reducible first | exact HB.out | apply below_alloc | apply pw_below_drewN | apply below_drew1 | refine below_set ?_ GE20001.out) | exact HB.out)) hb); clear HO20004; clear HO20007; clear HO20024; clear BK20001; clear HB; have HO20004 := n0_; have HO20007 := n1_; have HO20024 := n2_; have HO20040 := n3_; have BK20001 := n4_; have HB := n5_; clear n0_ n1_ n2_ n3_ n4_ n5_; clear hb ho79; obtain ⟨Ao81, co81, eo81⟩ := Kd.R_slice HO20040.out; subst eo81) | ((with_reducible refine gate_builtin (b := .append) (xs := #[.tmp 52, .tmp 56]) rfl ?_); at_builtin; refine Kd.R_append_rows Kd.string (w0 := w) w.heap.size rfl (.tmp 52) (.tmp 56) 25 9 (.string ⟨#[]⟩) 16 rfl Try.underlying25 info9 rfl (by decide) (by omega) v20023 t20022 y20038 _ _ _ (fun k_ => some k_ ≠ (.slice Ao81 y20038.length co81 : Value).ownBlock) (fun _ => False) rfl rfl ?aO ?aR (fun _ _ h => h) (fun _ h => h.elim) ?aF ?aB ?aS ?aL ?_; (case aR => repeat (first | exact (Kd.R_reads' HO20040.out).2.2 | (with_reducible refine Kd.C_alloc ?_ _) | (with_reducible refine Kd.C_drewN ?_ _) | (with_reducible refine Kd.C_drew ?_))); (case aB => exact (by repeat (first | (with_reducible first | exact HB.out | apply below_alloc | apply pw_below_drewN | apply below_drew1 | refine below_set ?_ GE20001.out) | exact HB.out))); (case aF => exact (fun k_ hk => Kd.fresh' (Kd.R_lt (by (with_reducible repeat (first | apply Kd.R_alloc | apply Kd.R_drewN | apply Kd.R_drew)); exact HO20040.out)) k_ hk)); (case aO => exact (by (with_reducible repeat (first | apply Kd.R_alloc | apply Kd.R_drewN | apply Kd.R_drew)); exact Kd.R_mono HO20024.out (fun _ hk => hk.2))); (case aS => exact (below_size (by repeat (first | (with_reducible first | exact HB.out | apply below_alloc | apply pw_below_drewN | apply below_drew1 | refine below_set ?_ GE20001.out) | exact HB.out)))); (case aL => have := LMc61.out; omega); intro v20042 w80 ho hb hg hat; rw [← Ny20041.out] at ho; have n0_ := Aside0.mk (blk_grown (g := gb20001) (o := .cells #[.int .u8 a0_0, .int .u8 a0_1, .slice (some ad20021) l0_2.length c0_2] 38 (0, 0)) (by (with_reducible repeat (first | refine blk_drewN ?_ _ | refine blk_drew ?_ | refine blk_alloc ?_ _)); exact BK20001.out) hg (Kd.R_ne HO20024.out BK20001.out (by decide))); have n1_ := Aside0.mk (Kd.R_over' (by (with_reducible repeat (first | apply Kd.R_alloc | apply Kd.R_drewN | apply Kd.R_drew)); exact HO20004.out) (Kd.R_typed (by (with_reducible repeat (first | apply Kd.R_alloc | apply Kd.R_drewN | apply Kd.R_drew)); exact HO20024.out)) (by decide) hg); have n2_ := Aside0.mk (Kd.R_over' (by (with_reducible repeat (first | apply Kd.R_alloc | apply Kd.R_drewN | apply Kd.R_drew)); exact HO20007.out) (Kd.R_typed (by (with_reducible repeat (first | apply Kd.R_alloc | apply Kd.R_drewN | apply Kd.R_drew)); exact HO20024.out)) (by decide) hg); have n3_ := Aside0.mk (Kd.R_after (ok := (fun _ => True)) (by (with_reducible repeat (first | apply Kd.R_alloc | apply Kd.R_drewN | apply Kd.R_drew)); exact HO20040.out) hg hat); have n4_ := Aside0.mk (hb); have n5_ := Aside0.mk (ho); clear BK20001; clear HO20004; clear HO20007; clear HO20040; clear HB; clear HO20024; have BK20001 := n0_; have HO20004 := n1_; have HO20007 := n2_; have HO20040 := n3_; have HB := n4_; have HO20043 := n5_; clear n0_ n1_ n2_ n3_ n4_ n5_; clear ho hb hg hat; obtain ⟨Ao82, co82, eo82⟩ := Kd.R_slice HO20043.out; subst eo82))
                    have n0_ := Aside0.mk (Kd.R_drew HO20004.out)
                    have n1_ := Aside0.mk (Kd.R_drew HO20007.out)
                    have n2_ := Aside0.mk (Kd.R_drew HO20040.out)
                    have n3_ := Aside0.mk (Kd.R_drew HO20043.out)
                    have n4_ := Aside0.mk (blk_drew BK20001.out)
                    have n5_ := Aside0.mk (below_drew1 HB.out)
                    clear HO20004
                    clear HO20007
                    clear HO20040
                    clear HO20043
                    clear BK20001
                    clear HB
                    have HO20004 := n0_
                    have HO20007 := n1_
                    have HO20040 := n2_
                    have HO20043 := n3_
                    have BK20001 := n4_
                    have HB := n5_
                    clear n0_ n1_ n2_ n3_ n4_ n5_
                    have p20044 : 0 ≤ (1 : Int) := (by omega)
                    have q20044 : 1 < (l0_2.length : Int) := of_decide_eq_true (by first | (with_reducible assumption) | assumption)
                    obtain ⟨ad20044, A20044_2, c20044_2, e20044, hx20044_0, hx20044_1, hx20044_2, hl20044_2, hi20044_2⟩ := at_T38 HR0_2.out 1 p20044 q20044
                    have hw20044_2 := hx20044_2
                    (try rw [show ((1 : Int)).toNat = 1 from rfl] at hw20044_2)
                    (try rw [show 1 * 3 = 3 from rfl] at hw20044_2)
                    (try simp only [Nat.reduceMul, Nat.reduceEqDiff, Go.Addr.add, ↓reduceIte] at hw20044_2)
                    have hw20044_1 := hx20044_1
                    (try rw [show ((1 : Int)).toNat = 1 from rfl] at hw20044_1)
                    (try rw [show 1 * 3 = 3 from rfl] at hw20044_1)
                    (try simp only [Nat.reduceMul, Nat.reduceEqDiff, Go.Addr.add, ↓reduceIte] at hw20044_1)
                    have hw20044_0 := hx20044_0
                    (try rw [show ((1 : Int)).toNat = 1 from rfl] at hw20044_0)
                    (try rw [show 1 * 3 = 3 from rfl] at hw20044_0)
                    (try simp only [Nat.reduceMul, Nat.reduceEqDiff, Go.Addr.add, ↓reduceIte] at hw20044_0)
                    obtain rfl : ad20021 = ad20044 := (by injection e20044)
                    (try simp only [show (1 : Int).toNat = 1 from rfl, Nat.reduceMul, Nat.reduceEqDiff, Go.Addr.add, ↓reduceIte] at hx20044_0)
                    (try simp only [show (1 : Int).toNat = 1 from rfl, Nat.reduceMul, Nat.reduceEqDiff, Go.Addr.add, ↓reduceIte] at hx20044_1)
                    (try simp only [show (1 : Int).toNat = 1 from rfl, Nat.reduceMul, Nat.reduceEqDiff, Go.Addr.add, ↓reduceIte] at hx20044_2)
                    have qi20044 : (1 < l0_2.length) = True := eq_true (by omega)
                    (try rw [show ((1 : Int)).toNat = 1 from rfl] at hx20044_0)
                    (try rw [show 1 * 3 = 3 from rfl] at hx20044_0)
                    (try rw [show ((1 : Int)).toNat = 1 from rfl] at hx20044_1)
                    (try rw [show 1 * 3 = 3 from rfl] at hx20044_1)
                    (try rw [show ((1 : Int)).toNat = 1 from rfl] at hx20044_2)
                    (try rw [show 1 * 3 = 3 from rfl] at hx20044_2)
                    (try replace hx20044_0 := (HB.out.cell (World.block_lt_of_cell? w _ hx20044_0)).trans hx20044_0)
                    (try replace hx20044_1 := (HB.out.cell (World.block_lt_of_cell? w _ hx20044_1)).trans hx20044_1)
                    (try replace hx20044_2 := (HB.out.cell (World.block_lt_of_cell? w _ hx20044_2)).trans hx20044_2)
                    have HR20044_2 := Aside0.mk hi20044_2
                    have HC20044_2 := Aside0.mk hl20044_2
                    clear hi20044_2 hl20044_2
                    replace p20044 := eq_true p20044
                    replace q20044 := eq_true q20044
                    refine start_ (n := 15) (S := fun w' => w'.cell? ⟨gb20001, 0, none⟩ = some (.int .u8 a0_0) ∧ w'.cell? ⟨gb20001, 1, none⟩ = some (.int .u8 a0_1) ∧ w'.cell? ⟨gb20001, 2, none⟩ = some (.slice (some ad20021) l0_2.length c0_2) ∧ w'.cell? ⟨ad20021.block, ad20021.off + 3, none⟩ = some (.int .u8 ((rd_T38 l0_2 1).f0)) ∧ w'.cell? ⟨ad20021.block, ad20021.off + 3 + 1, none⟩ = some (.int .u8 ((rd_T38 l0_2 1).f1)) ∧ w'.cell? ⟨ad20021.block, ad20021.off + 3 + 2, none⟩ = some (.slice A20044_2 ((rd_T38 l0_2 1).f2).length c20044_2)) (ds := []) #[false, false, false, false, false, false, false, false, false, false, false, false, false, false, false] (by kernel_rfl) rfl rfl ⟨(blk_cell BK20001.out 0).trans rfl, (blk_cell BK20001.out 1).trans rfl, (blk_cell BK20001.out 2).trans rfl, ((HB.out.cell (World.block_lt_of_cell? w _ hw20044_0)).trans hw20044_0), ((HB.out.cell (World.block_lt_of_cell? w _ hw20044_1)).trans hw20044_1), ((HB.out.cell (World.block_lt_of_cell? w _ hw20044_2)).trans hw20044_2)⟩ (fun hHeld => ?_); refine with_tabW spec_l7List.tab11 spec_l7List.bits11 (fun HT_ HW_ => ?_)
                    generalize w80.drew = w83 at HO20004 HO20007 HO20040 HO20043 BK20001 HB HR20044_2 hx20044_0 hx20044_1 hx20044_2 hHeld ⊢
                    refine pure_ (i := 0) (N := some 58) (v := ?_) (a' := ?_) #[true, false, false, false, false, false, false, false, false, false, false, false, false, false, false] rfl rfl (any_of HT_.out (by kernel_rfl)) (fun _ _ _ h => h) (Or.inl ⟨by rfl, ?_⟩) ?_ ?_
                    rotate_left
                    · intro w'
                      go_simp
                      with_reducible rfl
                    rotate_left
                    · simp only [Act.put, List.setIfInBounds_toArray, List.set_cons_zero, List.set_cons_succ, i64_w, i32_w]
                      rfl
                    refine pure_ (i := 1) (N := some 59) (v := ?_) (a' := ?_) #[true, true, false, false, false, false, false, false, false, false, false, false, false, false, false] rfl rfl (any_of HT_.out (by kernel_rfl)) (fun _ _ _ h => h) (Or.inl ⟨by rfl, ?_⟩) ?_ ?_
                    rotate_left
                    · intro w'
                      go_simp
                      with_reducible rfl
                    rotate_left
                    · simp only [Act.put, List.setIfInBounds_toArray, List.set_cons_zero, List.set_cons_succ, i64_w, i32_w]
                      rfl
                    refine pure_ (i := 7) (N := some 65) (v := ?_) (a' := ?_) #[true, true, false, false, false, false, false, true, false, false, false, false, false, false, false] rfl rfl (any_of HT_.out (by kernel_rfl)) (fun _ _ _ h => h) (Or.inl ⟨by rfl, ?_⟩) ?_ ?_
                    rotate_left
                    · intro w'
                      go_simp
                      with_reducible rfl
                    rotate_left
                    · simp only [Act.put, List.setIfInBounds_toArray, List.set_cons_zero, List.set_cons_succ, i64_w, i32_w]
                      rfl
                    refine take_ (i := 2) (N := some 60) (v := ?_) (a' := ?_) #[true, true, true, false, false, false, false, true, false, false, false, false, false, false, false] rfl rfl (take_ofW HT_.out HW_.out (by kernel_rfl)) (fun _ _ _ h => h) (Or.inl ⟨by rfl, ?_⟩) hHeld ?_ ?_
                    rotate_left
                    · rintro w' ⟨s0, s1, s2, s3, s4, s5⟩
                      go_simp
                      with_reducible rfl
                    rotate_left
                    · simp only [Act.put, List.setIfInBounds_toArray, List.set_cons_zero, List.set_cons_succ, i64_w, i32_w]
                      rfl
                    refine pure_ (i := 3) (N := some 61) (v := ?_) (a' := ?_) #[true, true, true, true, false, false, false, true, false, false, false, false, false, false, false] rfl rfl (any_of HT_.out (by kernel_rfl)) (fun _ _ _ h => h) (Or.inl ⟨by rfl, ?_⟩) ?_ ?_
                    rotate_left
                    · intro w'
                      go_simp
                      with_reducible rfl
                    rotate_left
                    · simp only [Act.put, List.setIfInBounds_toArray, List.set_cons_zero, List.set_cons_succ, i64_w, i32_w]
                      rfl
                    refine take_ (i := 4) (N := some 62) (v := ?_) (a' := ?_) #[true, true, true, true, true, false, false, true, false, false, false, false, false, false, false] rfl rfl (take_ofW HT_.out HW_.out (by kernel_rfl)) (fun _ _ _ h => h) (Or.inl ⟨by rfl, ?_⟩) hHeld ?_ ?_
                    rotate_left
                    · rintro w' ⟨s0, s1, s2, s3, s4, s5⟩
                      go_simp
                      with_reducible rfl
                    rotate_left
                    · simp only [Act.put, List.setIfInBounds_toArray, List.set_cons_zero, List.set_cons_succ, i64_w, i32_w]
                      rfl
                    refine take_ (i := 8) (N := some 66) (v := ?_) (a' := ?_) #[true, true, true, true, true, false, false, true, true, false, false, false, false, false, false] rfl rfl (take_ofW HT_.out HW_.out (by kernel_rfl)) (fun _ _ _ h => h) (Or.inl ⟨by rfl, ?_⟩) hHeld ?_ ?_
                    rotate_left
                    · rintro w' ⟨s0, s1, s2, s3, s4, s5⟩
                      go_simp
                      with_reducible rfl
                    rotate_left
                    · simp only [Act.put, List.setIfInBounds_toArray, List.set_cons_zero, List.set_cons_succ, i64_w, i32_w]
                      rfl
                    refine pure_ (i := 9) (N := some 67) (v := ?_) (a' := ?_) #[true, true, true, true, true, false, false, true, true, true, false, false, false, false, false] rfl rfl (any_of HT_.out (by kernel_rfl)) (fun _ _ _ h => h) (Or.inl ⟨by rfl, ?_⟩) ?_ ?_
                    rotate_left
                    · intro w'
                      go_simp
                      with_reducible rfl
                    rotate_left
                    · simp only [Act.put, List.setIfInBounds_toArray, List.set_cons_zero, List.set_cons_succ, i64_w, i32_w]
                      rfl
                    refine join_ (σ := Value × Value × Value × Value) 2 #[true, true, true, true, true, true, true, true, true, true, true, true, true, false, false] (fun s_ => [(63, s_.1), (64, s_.2.1), (68, s_.2.2.1), (69, .string (strOfNums y20051)), (70, s_.2.2.2)]) (fun s_ w' => (w'.cell? ⟨gb20001, 0, none⟩ = some (.int .u8 a0_0) ∧ w'.cell? ⟨gb20001, 1, none⟩ = some (.int .u8 a0_1) ∧ w'.cell? ⟨gb20001, 2, none⟩ = some (.slice (some ad20021) l0_2.length c0_2) ∧ w'.cell? ⟨ad20021.block, ad20021.off + 3, none⟩ = some (.int .u8 ((rd_T38 l0_2 1).f0)) ∧ w'.cell? ⟨ad20021.block, ad20021.off + 3 + 1, none⟩ = some (.int .u8 ((rd_T38 l0_2 1).f1)) ∧ w'.cell? ⟨ad20021.block, ad20021.off + 3 + 2, none⟩ = some (.slice A20044_2 ((rd_T38 l0_2 1).f2).length c20044_2)) ∧ (Kd.R (Kd.int .u8) 5 w' w.heap.size (fun k_ => some k_ ≠ (v20006 : Value).ownBlock ∧ some k_ ≠ (s_.2.2.1 : Value).ownBlock) v20003 y20002) ∧ (Kd.R (Kd.int .u8) 5 w' w.heap.size (fun k_ => some k_ ≠ (v20003 : Value).ownBlock ∧ some k_ ≠ (s_.2.2.1 : Value).ownBlock) v20006 y20005) ∧ (Kd.R Kd.string 9 w' w.heap.size (fun k_ => some k_ ≠ (s_.1 : Value).ownBlock ∧ some k_ ≠ (s_.2.1 : Value).ownBlock ∧ some k_ ≠ (s_.2.2.2 : Value).ownBlock) (.slice Ao81 y20038.length co81) y20038) ∧ (Kd.R Kd.string 9 w' w.heap.size (fun k_ => some k_ ≠ (.slice Ao81 y20038.length co81 : Value).ownBlock ∧ some k_ ≠ (s_.2.1 : Value).ownBlock ∧ some k_ ≠ (s_.2.2.2 : Value).ownBlock) s_.1 t20045) ∧ (Kd.R Kd.string 9 w' w.heap.size (fun k_ => some k_ ≠ (.slice Ao81 y20038.length co81 : Value).ownBlock ∧ some k_ ≠ (s_.1 : Value).ownBlock ∧ some k_ ≠ (s_.2.2.2 : Value).ownBlock) s_.2.1 y20048) ∧ (Kd.R (Kd.int .u8) 5 w' w.heap.size (fun k_ => some k_ ≠ (v20003 : Value).ownBlock ∧ some k_ ≠ (v20006 : Value).ownBlock) s_.2.2.1 y20051) ∧ (Kd.R Kd.string 9 w' w.heap.size (fun k_ => some k_ ≠ (.slice Ao81 y20038.length co81 : Value).ownBlock ∧ some k_ ≠ (s_.1 : Value).ownBlock ∧ some k_ ≠ (s_.2.1 : Value).ownBlock) s_.2.2.2 y20054) ∧ (w'.heap[gb20001]? = some (.cells #[.int .u8 a0_0, .int .u8 a0_1, .slice (some ad20021) l0_2.length c0_2] 38 (0, 0))) ∧ (Below w.heap.size w w')) ?_ ?_
                    rotate_left
                    · intro hJ5_6_10_11_12
                      refine join_ (σ := Value × Value × Value) 3 #[true, true, true, true, true, true, true, true, true, true, true, true, false, false, false] (fun s_ => [(63, s_.1), (64, s_.2.1), (68, s_.2.2), (69, .string (strOfNums y20051))]) (fun s_ w' => (w'.cell? ⟨gb20001, 0, none⟩ = some (.int .u8 a0_0) ∧ w'.cell? ⟨gb20001, 1, none⟩ = some (.int .u8 a0_1) ∧ w'.cell? ⟨gb20001, 2, none⟩ = some (.slice (some ad20021) l0_2.length c0_2) ∧ w'.cell? ⟨ad20021.block, ad20021.off + 3, none⟩ = some (.int .u8 ((rd_T38 l0_2 1).f0)) ∧ w'.cell? ⟨ad20021.block, ad20021.off + 3 + 1, none⟩ = some (.int .u8 ((rd_T38 l0_2 1).f1)) ∧ w'.cell? ⟨ad20021.block, ad20021.off + 3 + 2, none⟩ = some (.slice A20044_2 ((rd_T38 l0_2 1).f2).length c20044_2)) ∧ (Kd.R (Kd.int .u8) 5 w' w.heap.size (fun k_ => some k_ ≠ (v20006 : Value).ownBlock ∧ some k_ ≠ (s_.2.2 : Value).ownBlock) v20003 y20002) ∧ (Kd.R (Kd.int .u8) 5 w' w.heap.size (fun k_ => some k_ ≠ (v20003 : Value).ownBlock ∧ some k_ ≠ (s_.2.2 : Value).ownBlock) v20006 y20005) ∧ (Kd.R Kd.string 9 w' w.heap.size (fun k_ => some k_ ≠ (s_.1 : Value).ownBlock ∧ some k_ ≠ (s_.2.1 : Value).ownBlock) (.slice Ao81 y20038.length co81) y20038) ∧ (Kd.R Kd.string 9 w' w.heap.size (fun k_ => some k_ ≠ (.slice Ao81 y20038.length co81 : Value).ownBlock ∧ some k_ ≠ (s_.2.1 : Value).ownBlock) s_.1 t20045) ∧ (Kd.R Kd.string 9 w' w.heap.size (fun k_ => some k_ ≠ (.slice Ao81 y20038.length co81 : Value).ownBlock ∧ some k_ ≠ (s_.1 : Value).ownBlock) s_.2.1 y20048) ∧ (Kd.R (Kd.int .u8) 5 w' w.heap.size (fun k_ => some k_ ≠ (v20003 : Value).ownBlock ∧ some k_ ≠ (v20006 : Value).ownBlock) s_.2.2 y20051) ∧ (w'.heap[gb20001]? = some (.cells #[.int .u8 a0_0, .int .u8 a0_1, .slice (some ad20021) l0_2.length c0_2] 38 (0, 0))) ∧ (Below w.heap.size w w')) ?_ ?_
                      rotate_left
                      · intro hJ5_6_10_11
                        refine join_ (σ := Value × Value × Value) 3 #[true, true, true, true, true, true, false, true, true, true, true, true, true, false, false] (fun s_ => [(63, s_.1), (68, s_.2.1), (69, .string (strOfNums y20051)), (70, s_.2.2)]) (fun s_ w' => (w'.cell? ⟨gb20001, 0, none⟩ = some (.int .u8 a0_0) ∧ w'.cell? ⟨gb20001, 1, none⟩ = some (.int .u8 a0_1) ∧ w'.cell? ⟨gb20001, 2, none⟩ = some (.slice (some ad20021) l0_2.length c0_2) ∧ w'.cell? ⟨ad20021.block, ad20021.off + 3, none⟩ = some (.int .u8 ((rd_T38 l0_2 1).f0)) ∧ w'.cell? ⟨ad20021.block, ad20021.off + 3 + 1, none⟩ = some (.int .u8 ((rd_T38 l0_2 1).f1)) ∧ w'.cell? ⟨ad20021.block, ad20021.off + 3 + 2, none⟩ = some (.slice A20044_2 ((rd_T38 l0_2 1).f2).length c20044_2)) ∧ (Kd.R (Kd.int .u8) 5 w' w.heap.size (fun k_ => some k_ ≠ (v20006 : Value).ownBlock ∧ some k_ ≠ (s_.2.1 : Value).ownBlock) v20003 y20002) ∧ (Kd.R (Kd.int .u8) 5 w' w.heap.size (fun k_ => some k_ ≠ (v20003 : Value).ownBlock ∧ some k_ ≠ (s_.2.1 : Value).ownBlock) v20006 y20005) ∧ (Kd.R Kd.string 9 w' w.heap.size (fun k_ => some k_ ≠ (.slice Ao82 y20041.length co82 : Value).ownBlock ∧ some k_ ≠ (s_.1 : Value).ownBlock ∧ some k_ ≠ (s_.2.2 : Value).ownBlock) (.slice Ao81 y20038.length co81) y20038) ∧ (Kd.R Kd.string 9 w' w.heap.size (fun k_ => some k_ ≠ (.slice Ao81 y20038.length co81 : Value).ownBlock ∧ some k_ ≠ (s_.1 : Value).ownBlock ∧ some k_ ≠ (s_.2.2 : Value).ownBlock) (.slice Ao82 y20041.length co82) y20041) ∧ (Kd.R Kd.string 9 w' w.heap.size (fun k_ => some k_ ≠ (.slice Ao81 y20038.length co81 : Value).ownBlock ∧ some k_ ≠ (.slice Ao82 y20041.length co82 : Value).ownBlock ∧ some k_ ≠ (s_.2.2 : Value).ownBlock) s_.1 t20045) ∧ (Kd.R (Kd.int .u8) 5 w' w.heap.size (fun k_ => some k_ ≠ (v20003 : Value).ownBlock ∧ some k_ ≠ (v20006 : Value).ownBlock) s_.2.1 y20051) ∧ (Kd.R Kd.string 9 w' w.heap.size (fun k_ => some k_ ≠ (.slice Ao81 y20038.length co81 : Value).ownBlock ∧ some k_ ≠ (.slice Ao82 y20041.length co82 : Value).ownBlock ∧ some k_ ≠ (s_.1 : Value).ownBlock) s_.2.2 y20054) ∧ (w'.heap[gb20001]? = some (.cells #[.int .u8 a0_0, .int .u8 a0_1, .slice (some ad20021) l0_2.length c0_2] 38 (0, 0))) ∧ (Below w.heap.size w w')) ?_ ?_
                        rotate_left
                        · intro hJ5_10_11_12
                          refine join_ (σ := Value × Value × Value) 4 #[true, true, true, true, true, true, true, true, true, true, true, false, false, false, false] (fun s_ => [(63, s_.1), (64, s_.2.1), (68, s_.2.2)]) (fun s_ w' => (w'.cell? ⟨gb20001, 0, none⟩ = some (.int .u8 a0_0) ∧ w'.cell? ⟨gb20001, 1, none⟩ = some (.int .u8 a0_1) ∧ w'.cell? ⟨gb20001, 2, none⟩ = some (.slice (some ad20021) l0_2.length c0_2) ∧ w'.cell? ⟨ad20021.block, ad20021.off + 3, none⟩ = some (.int .u8 ((rd_T38 l0_2 1).f0)) ∧ w'.cell? ⟨ad20021.block, ad20021.off + 3 + 1, none⟩ = some (.int .u8 ((rd_T38 l0_2 1).f1)) ∧ w'.cell? ⟨ad20021.block, ad20021.off + 3 + 2, none⟩ = some (.slice A20044_2 ((rd_T38 l0_2 1).f2).length c20044_2)) ∧ (Kd.R (Kd.int .u8) 5 w' w.heap.size (fun k_ => some k_ ≠ (v20006 : Value).ownBlock ∧ some k_ ≠ (s_.2.2 : Value).ownBlock) v20003 y20002) ∧ (Kd.R (Kd.int .u8) 5 w' w.heap.size (fun k_ => some k_ ≠ (v20003 : Value).ownBlock ∧ some k_ ≠ (s_.2.2 : Value).ownBlock) v20006 y20005) ∧ (Kd.R Kd.string 9 w' w.heap.size (fun k_ => some k_ ≠ (s_.1 : Value).ownBlock ∧ some k_ ≠ (s_.2.1 : Value).ownBlock) (.slice Ao81 y20038.length co81) y20038) ∧ (Kd.R Kd.string 9 w' w.heap.size (fun k_ => some k_ ≠ (.slice Ao81 y20038.length co81 : Value).ownBlock ∧ some k_ ≠ (s_.2.1 : Value).ownBlock) s_.1 t20045) ∧ (Kd.R Kd.string 9 w' w.heap.size (fun k_ => some k_ ≠ (.slice Ao81 y20038.length co81 : Value).ownBlock ∧ some k_ ≠ (s_.1 : Value).ownBlock) s_.2.1 y20048) ∧ (Kd.R (Kd.int .u8) 5 w' w.heap.size (fun k_ => some k_ ≠ (v20003 : Value).ownBlock ∧ some k_ ≠ (v20006 : Value).ownBlock) s_.2.2 y20051) ∧ (w'.heap[gb20001]? = some (.cells #[.int .u8 a0_0, .int .u8 a0_1, .slice (some ad20021) l0_2.length c0_2] 38 (0, 0))) ∧ (Below w.heap.size w w')) ?_ ?_
                          rotate_left
                          · intro hJ5_6_10
                            refine join_ (σ := Value × Value) 4 #[true, true, true, true, true, true, false, true, true, true, true, true, false, false, false] (fun s_ => [(63, s_.1), (68, s_.2), (69, .string (strOfNums y20051))]) (fun s_ w' => (w'.cell? ⟨gb20001, 0, none⟩ = some (.int .u8 a0_0) ∧ w'.cell? ⟨gb20001, 1, none⟩ = some (.int .u8 a0_1) ∧ w'.cell? ⟨gb20001, 2, none⟩ = some (.slice (some ad20021) l0_2.length c0_2) ∧ w'.cell? ⟨ad20021.block, ad20021.off + 3, none⟩ = some (.int .u8 ((rd_T38 l0_2 1).f0)) ∧ w'.cell? ⟨ad20021.block, ad20021.off + 3 + 1, none⟩ = some (.int .u8 ((rd_T38 l0_2 1).f1)) ∧ w'.cell? ⟨ad20021.block, ad20021.off + 3 + 2, none⟩ = some (.slice A20044_2 ((rd_T38 l0_2 1).f2).length c20044_2)) ∧ (Kd.R (Kd.int .u8) 5 w' w.heap.size (fun k_ => some k_ ≠ (v20006 : Value).ownBlock ∧ some k_ ≠ (s_.2 : Value).ownBlock) v20003 y20002) ∧ (Kd.R (Kd.int .u8) 5 w' w.heap.size (fun k_ => some k_ ≠ (v20003 : Value).ownBlock ∧ some k_ ≠ (s_.2 : Value).ownBlock) v20006 y20005) ∧ (Kd.R Kd.string 9 w' w.heap.size (fun k_ => some k_ ≠ (.slice Ao82 y20041.length co82 : Value).ownBlock ∧ some k_ ≠ (s_.1 : Value).ownBlock) (.slice Ao81 y20038.length co81) y20038) ∧ (Kd.R Kd.string 9 w' w.heap.size (fun k_ => some k_ ≠ (.slice Ao81 y20038.length co81 : Value).ownBlock ∧ some k_ ≠ (s_.1 : Value).ownBlock) (.slice Ao82 y20041.length co82) y20041) ∧ (Kd.R Kd.string 9 w' w.heap.size (fun k_ => some k_ ≠ (.slice Ao81 y20038.length co81 : Value).ownBlock ∧ some k_ ≠ (.slice Ao82 y20041.length co82 : Value).ownBlock) s_.1 t20045) ∧ (Kd.R (Kd.int .u8) 5 w' w.heap.size (fun k_ => some k_ ≠ (v20003 : Value).ownBlock ∧ some k_ ≠ (v20006 : Value).ownBlock) s_.2 y20051) ∧ (w'.heap[gb20001]? = some (.cells #[.int .u8 a0_0, .int .u8 a0_1, .slice (some ad20021) l0_2.length c0_2] 38 (0, 0))) ∧ (Below w.heap.size w w')) ?_ ?_
                            rotate_left
                            · intro hJ5_10_11
                              refine join_ (σ := Value × Value) 4 #[true, true, true, true, true, false, false, true, true, true, true, true, true, false, false] (fun s_ => [(68, s_.1), (69, .string (strOfNums y20051)), (70, s_.2)]) (fun s_ w' => (w'.cell? ⟨gb20001, 0, none⟩ = some (.int .u8 a0_0) ∧ w'.cell? ⟨gb20001, 1, none⟩ = some (.int .u8 a0_1) ∧ w'.cell? ⟨gb20001, 2, none⟩ = some (.slice (some ad20021) l0_2.length c0_2) ∧ w'.cell? ⟨ad20021.block, ad20021.off + 3, none⟩ = some (.int .u8 ((rd_T38 l0_2 1).f0)) ∧ w'.cell? ⟨ad20021.block, ad20021.off + 3 + 1, none⟩ = some (.int .u8 ((rd_T38 l0_2 1).f1)) ∧ w'.cell? ⟨ad20021.block, ad20021.off + 3 + 2, none⟩ = some (.slice A20044_2 ((rd_T38 l0_2 1).f2).length c20044_2)) ∧ (Kd.R (Kd.int .u8) 5 w' w.heap.size (fun k_ => some k_ ≠ (v20006 : Value).ownBlock ∧ some k_ ≠ (s_.1 : Value).ownBlock) v20003 y20002) ∧ (Kd.R (Kd.int .u8) 5 w' w.heap.size (fun k_ => some k_ ≠ (v20003 : Value).ownBlock ∧ some k_ ≠ (s_.1 : Value).ownBlock) v20006 y20005) ∧ (Kd.R Kd.string 9 w' w.heap.size (fun k_ => some k_ ≠ (.slice Ao82 y20041.length co82 : Value).ownBlock ∧ some k_ ≠ (s_.2 : Value).ownBlock) (.slice Ao81 y20038.length co81) y20038) ∧ (Kd.R Kd.string 9 w' w.heap.size (fun k_ => some k_ ≠ (.slice Ao81 y20038.length co81 : Value).ownBlock ∧ some k_ ≠ (s_.2 : Value).ownBlock) (.slice Ao82 y20041.length co82) y20041) ∧ (Kd.R (Kd.int .u8) 5 w' w.heap.size (fun k_ => some k_ ≠ (v20003 : Value).ownBlock ∧ some k_ ≠ (v20006 : Value).ownBlock) s_.1 y20051) ∧ (Kd.R Kd.string 9 w' w.heap.size (fun k_ => some k_ ≠ (.slice Ao81 y20038.length co81 : Value).ownBlock ∧ some k_ ≠ (.slice Ao82 y20041.length co82 : Value).ownBlock) s_.2 y20054) ∧ (w'.heap[gb20001]? = some (.cells #[.int .u8 a0_0, .int .u8 a0_1, .slice (some ad20021) l0_2.length c0_2] 38 (0, 0))) ∧ (Below w.heap.size w w')) ?_ ?_
                              rotate_left
                              · intro hJ10_11_12
                                refine join_ (σ := Value × Value) 5 #[true, true, true, true, true, true, true, true, true, true, false, false, false, false, false] (fun s_ => [(63, s_.1), (64, s_.2)]) (fun s_ w' => (w'.cell? ⟨gb20001, 0, none⟩ = some (.int .u8 a0_0) ∧ w'.cell? ⟨gb20001, 1, none⟩ = some (.int .u8 a0_1) ∧ w'.cell? ⟨gb20001, 2, none⟩ = some (.slice (some ad20021) l0_2.length c0_2) ∧ w'.cell? ⟨ad20021.block, ad20021.off + 3, none⟩ = some (.int .u8 ((rd_T38 l0_2 1).f0)) ∧ w'.cell? ⟨ad20021.block, ad20021.off + 3 + 1, none⟩ = some (.int .u8 ((rd_T38 l0_2 1).f1)) ∧ w'.cell? ⟨ad20021.block, ad20021.off + 3 + 2, none⟩ = some (.slice A20044_2 ((rd_T38 l0_2 1).f2).length c20044_2)) ∧ (Kd.R (Kd.int .u8) 5 w' w.heap.size (fun k_ => some k_ ≠ (v20006 : Value).ownBlock) v20003 y20002) ∧ (Kd.R (Kd.int .u8) 5 w' w.heap.size (fun k_ => some k_ ≠ (v20003 : Value).ownBlock) v20006 y20005) ∧ (Kd.R Kd.string 9 w' w.heap.size (fun k_ => some k_ ≠ (s_.1 : Value).ownBlock ∧ some k_ ≠ (s_.2 : Value).ownBlock) (.slice Ao81 y20038.length co81) y20038) ∧ (Kd.R Kd.string 9 w' w.heap.size (fun k_ => some k_ ≠ (.slice Ao81 y20038.length co81 : Value).ownBlock ∧ some k_ ≠ (s_.2 : Value).ownBlock) s_.1 t20045) ∧ (Kd.R Kd.string 9 w' w.heap.size (fun k_ => some k_ ≠ (.slice Ao81 y20038.length co81 : Value).ownBlock ∧ some k_ ≠ (s_.1 : Value).ownBlock) s_.2 y20048) ∧ (w'.heap[gb20001]? = some (.cells #[.int .u8 a0_0, .int .u8 a0_1, .slice (some ad20021) l0_2.length c0_2] 38 (0, 0))) ∧ (Below w.heap.size w w')) ?_ ?_
                                rotate_left
                                · intro hJ5_6
                                  refine join_ (σ := Value × Value) 5 #[true, true, true, true, true, true, false, true, true, true, true, false, false, false, false] (fun s_ => [(63, s_.1), (68, s_.2)]) (fun s_ w' => (w'.cell? ⟨gb20001, 0, none⟩ = some (.int .u8 a0_0) ∧ w'.cell? ⟨gb20001, 1, none⟩ = some (.int .u8 a0_1) ∧ w'.cell? ⟨gb20001, 2, none⟩ = some (.slice (some ad20021) l0_2.length c0_2) ∧ w'.cell? ⟨ad20021.block, ad20021.off + 3, none⟩ = some (.int .u8 ((rd_T38 l0_2 1).f0)) ∧ w'.cell? ⟨ad20021.block, ad20021.off + 3 + 1, none⟩ = some (.int .u8 ((rd_T38 l0_2 1).f1)) ∧ w'.cell? ⟨ad20021.block, ad20021.off + 3 + 2, none⟩ = some (.slice A20044_2 ((rd_T38 l0_2 1).f2).length c20044_2)) ∧ (Kd.R (Kd.int .u8) 5 w' w.heap.size (fun k_ => some k_ ≠ (v20006 : Value).ownBlock ∧ some k_ ≠ (s_.2 : Value).ownBlock) v20003 y20002) ∧ (Kd.R (Kd.int .u8) 5 w' w.heap.size (fun k_ => some k_ ≠ (v20003 : Value).ownBlock ∧ some k_ ≠ (s_.2 : Value).ownBlock) v20006 y20005) ∧ (Kd.R Kd.string 9 w' w.heap.size (fun k_ => some k_ ≠ (.slice Ao82 y20041.length co82 : Value).ownBlock ∧ some k_ ≠ (s_.1 : Value).ownBlock) (.slice Ao81 y20038.length co81) y20038) ∧ (Kd.R Kd.string 9 w' w.heap.size (fun k_ => some k_ ≠ (.slice Ao81 y20038.length co81 : Value).ownBlock ∧ some k_ ≠ (s_.1 : Value).ownBlock) (.slice Ao82 y20041.length co82) y20041) ∧ (Kd.R Kd.string 9 w' w.heap.size (fun k_ => some k_ ≠ (.slice Ao81 y20038.length co81 : Value).ownBlock ∧ some k_ ≠ (.slice Ao82 y20041.length co82 : Value).ownBlock) s_.1 t20045) ∧ (Kd.R (Kd.int .u8) 5 w' w.heap.size (fun k_ => some k_ ≠ (v20003 : Value).ownBlock ∧ some k_ ≠ (v20006 : Value).ownBlock) s_.2 y20051) ∧ (w'.heap[gb20001]? = some (.cells #[.int .u8 a0_0, .int .u8 a0_1, .slice (some ad20021) l0_2.length c0_2] 38 (0, 0))) ∧ (Below w.heap.size w w')) ?_ ?_
                                  rotate_left
                                  · intro hJ5_10
                                    refine join_ (σ := Value) 5 #[true, true, true, true, true, false, false, true, true, true, true, true, false, false, false] (fun s_ => [(68, s_), (69, .string (strOfNums y20051))]) (fun s_ w' => (w'.cell? ⟨gb20001, 0, none⟩ = some (.int .u8 a0_0) ∧ w'.cell? ⟨gb20001, 1, none⟩ = some (.int .u8 a0_1) ∧ w'.cell? ⟨gb20001, 2, none⟩ = some (.slice (some ad20021) l0_2.length c0_2) ∧ w'.cell? ⟨ad20021.block, ad20021.off + 3, none⟩ = some (.int .u8 ((rd_T38 l0_2 1).f0)) ∧ w'.cell? ⟨ad20021.block, ad20021.off + 3 + 1, none⟩ = some (.int .u8 ((rd_T38 l0_2 1).f1)) ∧ w'.cell? ⟨ad20021.block, ad20021.off + 3 + 2, none⟩ = some (.slice A20044_2 ((rd_T38 l0_2 1).f2).length c20044_2)) ∧ (Kd.R (Kd.int .u8) 5 w' w.heap.size (fun k_ => some k_ ≠ (v20006 : Value).ownBlock ∧ some k_ ≠ (s_ : Value).ownBlock) v20003 y20002) ∧ (Kd.R (Kd.int .u8) 5 w' w.heap.size (fun k_ => some k_ ≠ (v20003 : Value).ownBlock ∧ some k_ ≠ (s_ : Value).ownBlock) v20006 y20005) ∧ (Kd.R Kd.string 9 w' w.heap.size (fun k_ => some k_ ≠ (.slice Ao82 y20041.length co82 : Value).ownBlock) (.slice Ao81 y20038.length co81) y20038) ∧ (Kd.R Kd.string 9 w' w.heap.size (fun k_ => some k_ ≠ (.slice Ao81 y20038.length co81 : Value).ownBlock) (.slice Ao82 y20041.length co82) y20041) ∧ (Kd.R (Kd.int .u8) 5 w' w.heap.size (fun k_ => some k_ ≠ (v20003 : Value).ownBlock ∧ some k_ ≠ (v20006 : Value).ownBlock) s_ y20051) ∧ (w'.heap[gb20001]? = some (.cells #[.int .u8 a0_0, .int .u8 a0_1, .slice (some ad20021) l0_2.length c0_2] 38 (0, 0))) ∧ (Below w.heap.size w w')) ?_ ?_
                                    rotate_left
                                    · intro hJ10_11
                                      refine join_ (σ := Value) 6 #[true, true, true, true, true, true, false, true, true, true, false, false, false, false, false] (fun s_ => [(63, s_)]) (fun s_ w' => (w'.cell? ⟨gb20001, 0, none⟩ = some (.int .u8 a0_0) ∧ w'.cell? ⟨gb20001, 1, none⟩ = some (.int .u8 a0_1) ∧ w'.cell? ⟨gb20001, 2, none⟩ = some (.slice (some ad20021) l0_2.length c0_2) ∧ w'.cell? ⟨ad20021.block, ad20021.off + 3, none⟩ = some (.int .u8 ((rd_T38 l0_2 1).f0)) ∧ w'.cell? ⟨ad20021.block, ad20021.off + 3 + 1, none⟩ = some (.int .u8 ((rd_T38 l0_2 1).f1)) ∧ w'.cell? ⟨ad20021.block, ad20021.off + 3 + 2, none⟩ = some (.slice A20044_2 ((rd_T38 l0_2 1).f2).length c20044_2)) ∧ (Kd.R (Kd.int .u8) 5 w' w.heap.size (fun k_ => some k_ ≠ (v20006 : Value).ownBlock) v20003 y20002) ∧ (Kd.R (Kd.int .u8) 5 w' w.heap.size (fun k_ => some k_ ≠ (v20003 : Value).ownBlock) v20006 y20005) ∧ (Kd.R Kd.string 9 w' w.heap.size (fun k_ => some k_ ≠ (.slice Ao82 y20041.length co82 : Value).ownBlock ∧ some k_ ≠ (s_ : Value).ownBlock) (.slice Ao81 y20038.length co81) y20038) ∧ (Kd.R Kd.string 9 w' w.heap.size (fun k_ => some k_ ≠ (.slice Ao81 y20038.length co81 : Value).ownBlock ∧ some k_ ≠ (s_ : Value).ownBlock) (.slice Ao82 y20041.length co82) y20041) ∧ (Kd.R Kd.string 9 w' w.heap.size (fun k_ => some k_ ≠ (.slice Ao81 y20038.length co81 : Value).ownBlock ∧ some k_ ≠ (.slice Ao82 y20041.length co82 : Value).ownBlock) s_ t20045) ∧ (w'.heap[gb20001]? = some (.cells #[.int .u8 a0_0, .int .u8 a0_1, .slice (some ad20021) l0_2.length c0_2] 38 (0, 0))) ∧ (Below w.heap.size w w')) ?_ ?_
                                      rotate_left
                                      · intro hJ5
                                        refine join_ (σ := Value) 6 #[true, true, true, true, true, false, false, true, true, true, true, false, false, false, false] (fun s_ => [(68, s_)]) (fun s_ w' => (w'.cell? ⟨gb20001, 0, none⟩ = some (.int .u8 a0_0) ∧ w'.cell? ⟨gb20001, 1, none⟩ = some (.int .u8 a0_1) ∧ w'.cell? ⟨gb20001, 2, none⟩ = some (.slice (some ad20021) l0_2.length c0_2) ∧ w'.cell? ⟨ad20021.block, ad20021.off + 3, none⟩ = some (.int .u8 ((rd_T38 l0_2 1).f0)) ∧ w'.cell? ⟨ad20021.block, ad20021.off + 3 + 1, none⟩ = some (.int .u8 ((rd_T38 l0_2 1).f1)) ∧ w'.cell? ⟨ad20021.block, ad20021.off + 3 + 2, none⟩ = some (.slice A20044_2 ((rd_T38 l0_2 1).f2).length c20044_2)) ∧ (Kd.R (Kd.int .u8) 5 w' w.heap.size (fun k_ => some k_ ≠ (v20006 : Value).ownBlock ∧ some k_ ≠ (s_ : Value).ownBlock) v20003 y20002) ∧ (Kd.R (Kd.int .u8) 5 w' w.heap.size (fun k_ => some k_ ≠ (v20003 : Value).ownBlock ∧ some k_ ≠ (s_ : Value).ownBlock) v20006 y20005) ∧ (Kd.R Kd.string 9 w' w.heap.size (fun k_ => some k_ ≠ (.slice Ao82 y20041.length co82 : Value).ownBlock) (.slice Ao81 y20038.length co81) y20038) ∧ (Kd.R Kd.string 9 w' w.heap.size (fun k_ => some k_ ≠ (.slice Ao81 y20038.length co81 : Value).ownBlock) (.slice Ao82 y20041.length co82) y20041) ∧ (Kd.R (Kd.int .u8) 5 w' w.heap.size (fun k_ => some k_ ≠ (v20003 : Value).ownBlock ∧ some k_ ≠ (v20006 : Value).ownBlock) s_ y20051) ∧ (w'.heap[gb20001]? = some (.cells #[.int .u8 a0_0, .int .u8 a0_1, .slice (some ad20021) l0_2.length c0_2] 38 (0, 0))) ∧ (Below w.heap.size w w')) ?_ ?_
                                        rotate_left
                                        · intro hJ10
                                          refine two_ (i := 5) (j := 10) (Ni := some 63) (Nj := some 68) #[true, true, true, true, true, true, false, true, true, true, false, false, false, false, false] #[true, true, true, true, true, false, false, true, true, true, true, false, false, false, false] rfl rfl rfl rfl (two_of HT_.out (by kernel_rfl)) (by decide) (by decide) (fun K hK => ?_) (fun K hK => ?_)
                                          · skip
                                            refine goes_ Try.func52 (by kernel_rfl) rfl #[.agg #[.int .u8 ((rd_T38 l0_2 1).f0), .int .u8 ((rd_T38 l0_2 1).f1), .slice A20044_2 ((rd_T38 l0_2 1).f2).length c20044_2]] (by rfl) rfl rfl (by (try simp only [List.map_toArray, List.map_cons, List.map_nil]); first | done | rfl | (simp only [List.length_drop, List.length_take]; rfl)) ?_
                                            with_reducible refine (ih k (by omega) ((rd_T38 l0_2 1).f0) ((rd_T38 l0_2 1).f1) _ _ ((rd_T38 l0_2 1).f2) t20045 _ ?side1 ?side2 A63.out).mono ?_
                                            (case side1 => repeat (first | exact (Kd.C_below HR20044_2.out HB.out) | (with_reducible refine Kd.C_alloc ?_ _) | (with_reducible refine Kd.C_drewN ?_ _) | (with_reducible refine Kd.C_drew ?_)))
                                            (case side2 => exact HC20044_2.out)
                                            rintro e w84 ⟨v20046, rfl, ho0, hb⟩
                                            refine ⟨_, rfl, ?_⟩
                                            have n0_ := Aside0.mk (Kd.R_below (by (with_reducible repeat (first | apply Kd.R_alloc | apply Kd.R_drewN | apply Kd.R_drew)); exact HO20004.out) hb)
                                            have n1_ := Aside0.mk (Kd.R_below (by (with_reducible repeat (first | apply Kd.R_alloc | apply Kd.R_drewN | apply Kd.R_drew)); exact HO20007.out) hb)
                                            have n2_ := Aside0.mk (Kd.R_elder' (by (with_reducible repeat (first | apply Kd.R_alloc | apply Kd.R_drewN | apply Kd.R_drew)); exact HO20040.out) (Kd.R_base ho0) hb)
                                            have n3_ := Aside0.mk (Kd.R_elder' (by (with_reducible repeat (first | apply Kd.R_alloc | apply Kd.R_drewN | apply Kd.R_drew)); exact HO20043.out) (Kd.R_base ho0) hb)
                                            have n4_ := Aside0.mk (Kd.R_lower (Kd.R_new' (Kd.R_new' ho0 (Kd.R_lt (by (with_reducible repeat (first | apply Kd.R_alloc | apply Kd.R_drewN | apply Kd.R_drew)); exact HO20040.out))) (Kd.R_lt (by (with_reducible repeat (first | apply Kd.R_alloc | apply Kd.R_drewN | apply Kd.R_drew)); exact HO20043.out))) (below_size (by repeat (first | (with_reducible first | exact HB.out | apply below_alloc | apply pw_below_drewN | apply below_drew1 | refine below_set ?_ GE20001.out) | exact HB.out))))
                                            have n5_ := Aside0.mk (blk_below (g := gb20001) (o := .cells #[.int .u8 a0_0, .int .u8 a0_1, .slice (some ad20021) l0_2.length c0_2] 38 (0, 0)) (by (with_reducible repeat (first | refine blk_drewN ?_ _ | refine blk_drew ?_ | refine blk_alloc ?_ _)); exact BK20001.out) hb)
                                            have n6_ := Aside0.mk (below_step (by repeat (first | (with_reducible first | exact HB.out | apply below_alloc | apply pw_below_drewN | apply below_drew1 | refine below_set ?_ GE20001.out) | exact HB.out)) hb)
                                            clear HO20004
                                            clear HO20007
                                            clear HO20040
                                            clear HO20043
                                            clear BK20001
                                            clear HB
                                            have HO20004 := n0_
                                            have HO20007 := n1_
                                            have HO20040 := n2_
                                            have HO20043 := n3_
                                            have HO20047 := n4_
                                            have BK20001 := n5_
                                            have HB := n6_
                                            clear n0_ n1_ n2_ n3_ n4_ n5_ n6_
                                            (try clear hb)
                                            (try clear hb2)
                                            (try clear hk)
                                            (try clear hi)
                                            (try clear ho0)
                                            refine hK.out _ _ ⟨(blk_cell BK20001.out 0).trans rfl, (blk_cell BK20001.out 1).trans rfl, (blk_cell BK20001.out 2).trans rfl, ((HB.out.cell (World.block_lt_of_cell? w _ hw20044_0)).trans hw20044_0), ((HB.out.cell (World.block_lt_of_cell? w _ hw20044_1)).trans hw20044_1), ((HB.out.cell (World.block_lt_of_cell? w _ hw20044_2)).trans hw20044_2)⟩ (fun hHeld => ?_)
                                            clear hK K
                                            refine norm_ (a' := ?_) ?_ ?_
                                            rotate_left
                                            · show Act.put _ (some 63) _ = _
                                              simp only [Act.put, List.setIfInBounds_toArray, List.set_cons_zero, List.set_cons_succ, i64_w, i32_w]
                                              rfl
                                            exact norm_ (by first | (simp only [putAll, Act.put, List.setIfInBounds_toArray, List.set_cons_zero, List.set_cons_succ]; done) | (simp only [putAll, Act.put, List.setIfInBounds_toArray, List.set_cons_zero, List.set_cons_succ]; rfl)) (hJ5 (v20046) _ ⟨hHeld, (by (with_reducible repeat (first | apply Kd.R_alloc | apply Kd.R_drewN | apply Kd.R_drew)); exact Kd.R_mono HO20004.out (fun _ hk => hk.2)), (by (with_reducible repeat (first | apply Kd.R_alloc | apply Kd.R_drewN | apply Kd.R_drew)); exact Kd.R_mono HO20007.out (fun _ hk => hk.2)), (by (with_reducible repeat (first | apply Kd.R_alloc | apply Kd.R_drewN | apply Kd.R_drew)); exact Kd.R_mono HO20040.out (fun _ hk => ⟨hk.1.2, hk.2⟩)), (by (with_reducible repeat (first | apply Kd.R_alloc | apply Kd.R_drewN | apply Kd.R_drew)); exact HO20043.out), (by (with_reducible repeat (first | apply Kd.R_alloc | apply Kd.R_drewN | apply Kd.R_drew)); exact Kd.R_mono HO20047.out (fun _ hk => ⟨hk.1.2, hk.2⟩)), (by (with_reducible repeat (first | refine blk_drewN ?_ _ | refine blk_drew ?_ | refine blk_alloc ?_ _)); exact BK20001.out), (by repeat (first | (with_reducible first | exact HB.out | apply below_alloc | apply pw_below_drewN | apply below_drew1 | refine below_set ?_ GE20001.out) | exact HB.out))⟩)
                                          · skip
                                            refine Kd.R_lit_step (Kd.int .u8) _ 5 ?hg (N := 68) ?hd (xs := ([(a0_0 + 2) % 256] : List Int)) (inner := [.int .u8 ((a0_0 + 2) % 256)]) (ok := fun _ => True) (okp := fun _ => True) ?hr ?hp (fun _ hk => hk) trivial (Below.refl _ _) (Nat.le_refl _) (by simp) ?_; (case hd => rfl); (case hg => rfl); (case hr => first | (go_simp; done) | (go_simp; rfl)); (case hp => exact (Reps.one (show Kd.M (Kd.int .u8) _ _ _ ((a0_0 + 2) % 256) [.int .u8 ((a0_0 + 2) % 256)] from rfl) (Reps.none _ _)))
                                            intro v20052 w84 ho85 hb hg_ hnew_
                                            clear hg_ hnew_
                                            (first | rw [← Ny20051.out] at ho85 | (simp only [Int.reduceToNat] at ho85; rw [← Ny20051.out] at ho85))
                                            have n0_ := Aside0.mk (Kd.R_elder' (by (with_reducible repeat (first | apply Kd.R_alloc | apply Kd.R_drewN | apply Kd.R_drew)); exact HO20004.out) (Kd.R_base ho85) hb)
                                            have n1_ := Aside0.mk (Kd.R_elder' (by (with_reducible repeat (first | apply Kd.R_alloc | apply Kd.R_drewN | apply Kd.R_drew)); exact HO20007.out) (Kd.R_base ho85) hb)
                                            have n2_ := Aside0.mk (Kd.R_below (by (with_reducible repeat (first | apply Kd.R_alloc | apply Kd.R_drewN | apply Kd.R_drew)); exact HO20040.out) hb)
                                            have n3_ := Aside0.mk (Kd.R_below (by (with_reducible repeat (first | apply Kd.R_alloc | apply Kd.R_drewN | apply Kd.R_drew)); exact HO20043.out) hb)
                                            have n4_ := Aside0.mk (Kd.R_lower (Kd.R_new' (Kd.R_new' ho85 (Kd.R_lt (by (with_reducible repeat (first | apply Kd.R_alloc | apply Kd.R_drewN | apply Kd.R_drew)); exact HO20004.out))) (Kd.R_lt (by (with_reducible repeat (first | apply Kd.R_alloc | apply Kd.R_drewN | apply Kd.R_drew)); exact HO20007.out))) (below_size (by repeat (first | (with_reducible first | exact HB.out | apply below_alloc | apply pw_below_drewN | apply below_drew1 | refine below_set ?_ GE20001.out) | exact HB.out))))
                                            have n5_ := Aside0.mk (blk_below (g := gb20001) (o := .cells #[.int .u8 a0_0, .int .u8 a0_1, .slice (some ad20021) l0_2.length c0_2] 38 (0, 0)) (by (with_reducible repeat (first | refine blk_drewN ?_ _ | refine blk_drew ?_ | refine blk_alloc ?_ _)); exact BK20001.out) hb)
                                            have n6_ := Aside0.mk (below_step (by repeat (first | (with_reducible first | exact HB.out | apply below_alloc | apply pw_below_drewN | apply below_drew1 | refine below_set ?_ GE20001.out) | exact HB.out)) hb)
                                            clear HO20004
                                            clear HO20007
                                            clear HO20040
                                            clear HO20043
                                            clear BK20001
                                            clear HB
                                            have HO20004 := n0_
                                            have HO20007 := n1_
                                            have HO20040 := n2_
                                            have HO20043 := n3_
                                            have HO20053 := n4_
                                            have BK20001 := n5_
                                            have HB := n6_
                                            clear n0_ n1_ n2_ n3_ n4_ n5_ n6_
                                            clear hb ho85
                                            refine hK.out _ _ ⟨(blk_cell BK20001.out 0).trans rfl, (blk_cell BK20001.out 1).trans rfl, (blk_cell BK20001.out 2).trans rfl, ((HB.out.cell (World.block_lt_of_cell? w _ hw20044_0)).trans hw20044_0), ((HB.out.cell (World.block_lt_of_cell? w _ hw20044_1)).trans hw20044_1), ((HB.out.cell (World.block_lt_of_cell? w _ hw20044_2)).trans hw20044_2)⟩ (fun hHeld => ?_)
                                            clear hK K
                                            refine norm_ (a' := ?_) ?_ ?_
                                            rotate_left
                                            · show Act.put _ (some 68) _ = _
                                              simp only [Act.put, List.setIfInBounds_toArray, List.set_cons_zero, List.set_cons_succ, i64_w, i32_w]
                                              rfl
                                            exact norm_ (by first | (simp only [putAll, Act.put, List.setIfInBounds_toArray, List.set_cons_zero, List.set_cons_succ]; done) | (simp only [putAll, Act.put, List.setIfInBounds_toArray, List.set_cons_zero, List.set_cons_succ]; rfl)) (hJ10 (v20052) _ ⟨hHeld, (by (with_reducible repeat (first | apply Kd.R_alloc | apply Kd.R_drewN | apply Kd.R_drew)); exact Kd.R_mono HO20004.out (fun _ hk => ⟨hk.1.2, hk.2⟩)), (by (with_reducible repeat (first | apply Kd.R_alloc | apply Kd.R_drewN | apply Kd.R_drew)); exact Kd.R_mono HO20007.out (fun _ hk => ⟨hk.1.2, hk.2⟩)), (by (with_reducible repeat (first | apply Kd.R_alloc | apply Kd.R_drewN | apply Kd.R_drew)); exact Kd.R_mono HO20040.out (fun _ hk => hk.2)), (by (with_reducible repeat (first | apply Kd.R_alloc | apply Kd.R_drewN | apply Kd.R_drew)); exact HO20043.out), (by (with_reducible repeat (first | apply Kd.R_alloc | apply Kd.R_drewN | apply Kd.R_drew)); exact Kd.R_mono HO20053.out (fun _ hk => ⟨hk.1.2, hk.2⟩)), (by (with_reducible repeat (first | refine blk_drewN ?_ _ | refine blk_drew ?_ | refine blk_alloc ?_ _)); exact BK20001.out), (by repeat (first | (with_reducible first | exact HB.out | apply below_alloc | apply pw_below_drewN | apply below_drew1 | refine below_set ?_ GE20001.out) | exact HB.out))⟩)
                                        · skip
                                          rintro v20052 w86 ⟨hS_, h0_, h1_, h2_, h3_, h4_, h5_, h6_⟩
                                          have n0_ : Aside0 (Kd.R (Kd.int .u8) 5 w86 w.heap.size (fun k_ => some k_ ≠ (v20006 : Value).ownBlock ∧ some k_ ≠ (v20052 : Value).ownBlock) v20003 y20002) := ⟨h0_⟩
                                          have n1_ : Aside0 (Kd.R (Kd.int .u8) 5 w86 w.heap.size (fun k_ => some k_ ≠ (v20003 : Value).ownBlock ∧ some k_ ≠ (v20052 : Value).ownBlock) v20006 y20005) := ⟨h1_⟩
                                          have n2_ : Aside0 (Kd.R Kd.string 9 w86 w.heap.size (fun k_ => some k_ ≠ (.slice Ao82 y20041.length co82 : Value).ownBlock) (.slice Ao81 y20038.length co81) y20038) := ⟨h2_⟩
                                          have n3_ : Aside0 (Kd.R Kd.string 9 w86 w.heap.size (fun k_ => some k_ ≠ (.slice Ao81 y20038.length co81 : Value).ownBlock) (.slice Ao82 y20041.length co82) y20041) := ⟨h3_⟩
                                          have n4_ : Aside0 (Kd.R (Kd.int .u8) 5 w86 w.heap.size (fun k_ => some k_ ≠ (v20003 : Value).ownBlock ∧ some k_ ≠ (v20006 : Value).ownBlock) v20052 y20051) := ⟨h4_⟩
                                          have n5_ : Aside0 (w86.heap[gb20001]? = some (.cells #[.int .u8 a0_0, .int .u8 a0_1, .slice (some ad20021) l0_2.length c0_2] 38 (0, 0))) := ⟨h5_⟩
                                          have n6_ : Aside0 (Below w.heap.size w w86) := ⟨h6_⟩
                                          clear HO20004
                                          clear HO20007
                                          clear HO20040
                                          clear HO20043
                                          clear BK20001
                                          clear HB
                                          clear h0_ h1_ h2_ h3_ h4_ h5_ h6_
                                          have HO20004 := n0_
                                          have HO20007 := n1_
                                          have HO20040 := n2_
                                          have HO20043 := n3_
                                          have HO20053 := n4_
                                          have BK20001 := n5_
                                          have HB := n6_
                                          clear n0_ n1_ n2_ n3_ n4_ n5_ n6_
                                          have hHeld : w86.cell? ⟨gb20001, 0, none⟩ = some (.int .u8 a0_0) ∧ w86.cell? ⟨gb20001, 1, none⟩ = some (.int .u8 a0_1) ∧ w86.cell? ⟨gb20001, 2, none⟩ = some (.slice (some ad20021) l0_2.length c0_2) ∧ w86.cell? ⟨ad20021.block, ad20021.off + 3, none⟩ = some (.int .u8 ((rd_T38 l0_2 1).f0)) ∧ w86.cell? ⟨ad20021.block, ad20021.off + 3 + 1, none⟩ = some (.int .u8 ((rd_T38 l0_2 1).f1)) ∧ w86.cell? ⟨ad20021.block, ad20021.off + 3 + 2, none⟩ = some (.slice A20044_2 ((rd_T38 l0_2 1).f2).length c20044_2) := hS_
                                          refine norm_ (a' := ?_) ?_ ?_
                                          rotate_left
                                          · simp only [putAll, Act.put, List.setIfInBounds_toArray, List.set_cons_zero, List.set_cons_succ]
                                            rfl
                                          refine two_ (i := 5) (j := 11) (Ni := some 63) (Nj := some 69) #[true, true, true, true, true, true, false, true, true, true, true, false, false, false, false] #[true, true, true, true, true, false, false, true, true, true, true, true, false, false, false] rfl rfl rfl rfl (two_of HT_.out (by kernel_rfl)) (by decide) (by decide) (fun K hK => ?_) (fun K hK => ?_)
                                          · skip
                                            refine goes_ Try.func52 (by kernel_rfl) rfl #[.agg #[.int .u8 ((rd_T38 l0_2 1).f0), .int .u8 ((rd_T38 l0_2 1).f1), .slice A20044_2 ((rd_T38 l0_2 1).f2).length c20044_2]] (by rfl) rfl rfl (by (try simp only [List.map_toArray, List.map_cons, List.map_nil]); first | done | rfl | (simp only [List.length_drop, List.length_take]; rfl)) ?_
                                            with_reducible refine (ih k (by omega) ((rd_T38 l0_2 1).f0) ((rd_T38 l0_2 1).f1) _ _ ((rd_T38 l0_2 1).f2) t20045 _ ?side1 ?side2 A63.out).mono ?_
                                            (case side1 => repeat (first | exact (Kd.C_below HR20044_2.out HB.out) | (with_reducible refine Kd.C_alloc ?_ _) | (with_reducible refine Kd.C_drewN ?_ _) | (with_reducible refine Kd.C_drew ?_)))
                                            (case side2 => exact HC20044_2.out)
                                            rintro e w87 ⟨v20046, rfl, ho0, hb⟩
                                            refine ⟨_, rfl, ?_⟩
                                            have n0_ := Aside0.mk (Kd.R_below (by (with_reducible repeat (first | apply Kd.R_alloc | apply Kd.R_drewN | apply Kd.R_drew)); exact HO20004.out) hb)
                                            have n1_ := Aside0.mk (Kd.R_below (by (with_reducible repeat (first | apply Kd.R_alloc | apply Kd.R_drewN | apply Kd.R_drew)); exact HO20007.out) hb)
                                            have n2_ := Aside0.mk (Kd.R_elder' (by (with_reducible repeat (first | apply Kd.R_alloc | apply Kd.R_drewN | apply Kd.R_drew)); exact HO20040.out) (Kd.R_base ho0) hb)
                                            have n3_ := Aside0.mk (Kd.R_elder' (by (with_reducible repeat (first | apply Kd.R_alloc | apply Kd.R_drewN | apply Kd.R_drew)); exact HO20043.out) (Kd.R_base ho0) hb)
                                            have n4_ := Aside0.mk (Kd.R_below (by (with_reducible repeat (first | apply Kd.R_alloc | apply Kd.R_drewN | apply Kd.R_drew)); exact HO20053.out) hb)
                                            have n5_ := Aside0.mk (Kd.R_lower (Kd.R_new' (Kd.R_new' ho0 (Kd.R_lt (by (with_reducible repeat (first | apply Kd.R_alloc | apply Kd.R_drewN | apply Kd.R_drew)); exact HO20040.out))) (Kd.R_lt (by (with_reducible repeat (first | apply Kd.R_alloc | apply Kd.R_drewN | apply Kd.R_drew)); exact HO20043.out))) (below_size (by repeat (first | (with_reducible first | exact HB.out | apply below_alloc | apply pw_below_drewN | apply below_drew1 | refine below_set ?_ GE20001.out) | exact HB.out))))
                                            have n6_ := Aside0.mk (blk_below (g := gb20001) (o := .cells #[.int .u8 a0_0, .int .u8 a0_1, .slice (some ad20021) l0_2.length c0_2] 38 (0, 0)) (by (with_reducible repeat (first | refine blk_drewN ?_ _ | refine blk_drew ?_ | refine blk_alloc ?_ _)); exact BK20001.out) hb)
                                            have n7_ := Aside0.mk (below_step (by repeat (first | (with_reducible first | exact HB.out | apply below_alloc | apply pw_below_drewN | apply below_drew1 | refine below_set ?_ GE20001.out) | exact HB.out)) hb)
                                            clear HO20004
                                            clear HO20007
                                            clear HO20040
                                            clear HO20043
                                            clear HO20053
                                            clear BK20001
                                            clear HB
                                            have HO20004 := n0_
                                            have HO20007 := n1_
                                            have HO20040 := n2_
                                            have HO20043 := n3_
                                            have HO20053 := n4_
                                            have HO20047 := n5_
                                            have BK20001 := n6_
                                            have HB := n7_
                                            clear n0_ n1_ n2_ n3_ n4_ n5_ n6_ n7_
                                            (try clear hb)
                                            (try clear hb2)
                                            (try clear hk)
                                            (try clear hi)
                                            (try clear ho0)
                                            refine hK.out _ _ ⟨(blk_cell BK20001.out 0).trans rfl, (blk_cell BK20001.out 1).trans rfl, (blk_cell BK20001.out 2).trans rfl, ((HB.out.cell (World.block_lt_of_cell? w _ hw20044_0)).trans hw20044_0), ((HB.out.cell (World.block_lt_of_cell? w _ hw20044_1)).trans hw20044_1), ((HB.out.cell (World.block_lt_of_cell? w _ hw20044_2)).trans hw20044_2)⟩ (fun hHeld => ?_)
                                            clear hK K
                                            refine norm_ (a' := ?_) ?_ ?_
                                            rotate_left
                                            · show Act.put _ (some 63) _ = _
                                              simp only [Act.put, List.setIfInBounds_toArray, List.set_cons_zero, List.set_cons_succ, i64_w, i32_w]
                                              rfl
                                            exact norm_ (by first | (simp only [putAll, Act.put, List.setIfInBounds_toArray, List.set_cons_zero, List.set_cons_succ]; done) | (simp only [putAll, Act.put, List.setIfInBounds_toArray, List.set_cons_zero, List.set_cons_succ]; rfl)) (hJ5_10 (v20046, v20052) _ ⟨hHeld, (by (with_reducible repeat (first | apply Kd.R_alloc | apply Kd.R_drewN | apply Kd.R_drew)); exact HO20004.out), (by (with_reducible repeat (first | apply Kd.R_alloc | apply Kd.R_drewN | apply Kd.R_drew)); exact HO20007.out), (by (with_reducible repeat (first | apply Kd.R_alloc | apply Kd.R_drewN | apply Kd.R_drew)); exact HO20040.out), (by (with_reducible repeat (first | apply Kd.R_alloc | apply Kd.R_drewN | apply Kd.R_drew)); exact HO20043.out), (by (with_reducible repeat (first | apply Kd.R_alloc | apply Kd.R_drewN | apply Kd.R_drew)); exact Kd.R_mono HO20047.out (fun _ hk => ⟨hk.1.2, hk.2⟩)), (by (with_reducible repeat (first | apply Kd.R_alloc | apply Kd.R_drewN | apply Kd.R_drew)); exact HO20053.out), (by (with_reducible repeat (first | refine blk_drewN ?_ _ | refine blk_drew ?_ | refine blk_alloc ?_ _)); exact BK20001.out), (by repeat (first | (with_reducible first | exact HB.out | apply below_alloc | apply pw_below_drewN | apply below_drew1 | refine below_set ?_ GE20001.out) | exact HB.out))⟩)
                                          · skip
                                            have hcv87 := own_string (P := Try.prog) Try.underlying33 Try.underlying5 Try.underlying9 (Kd.own_of_R HO20053.out)
                                            refine value_ (w1 := ?_) (v := ?_) (by rfl) rfl ?_ ?_
                                            rotate_left 2
                                            · go_simp
                                              constructor
                                              · rfl
                                              · rfl
                                            clear hcv87
                                            refine hK.out _ _ ⟨(blk_cell BK20001.out 0).trans rfl, (blk_cell BK20001.out 1).trans rfl, (blk_cell BK20001.out 2).trans rfl, ((HB.out.cell (World.block_lt_of_cell? w _ hw20044_0)).trans hw20044_0), ((HB.out.cell (World.block_lt_of_cell? w _ hw20044_1)).trans hw20044_1), ((HB.out.cell (World.block_lt_of_cell? w _ hw20044_2)).trans hw20044_2)⟩ (fun hHeld => ?_)
                                            clear hK K
                                            refine norm_ (a' := ?_) ?_ ?_
                                            rotate_left
                                            · show Act.put _ (some 69) _ = _
                                              simp only [Act.put, List.setIfInBounds_toArray, List.set_cons_zero, List.set_cons_succ, i64_w, i32_w]
                                              rfl
                                            exact norm_ (by first | (simp only [putAll, Act.put, List.setIfInBounds_toArray, List.set_cons_zero, List.set_cons_succ]; done) | (simp only [putAll, Act.put, List.setIfInBounds_toArray, List.set_cons_zero, List.set_cons_succ]; rfl)) (hJ10_11 (v20052) _ ⟨hHeld, (by (with_reducible repeat (first | apply Kd.R_alloc | apply Kd.R_drewN | apply Kd.R_drew)); exact HO20004.out), (by (with_reducible repeat (first | apply Kd.R_alloc | apply Kd.R_drewN | apply Kd.R_drew)); exact HO20007.out), (by (with_reducible repeat (first | apply Kd.R_alloc | apply Kd.R_drewN | apply Kd.R_drew)); exact HO20040.out), (by (with_reducible repeat (first | apply Kd.R_alloc | apply Kd.R_drewN | apply Kd.R_drew)); exact HO20043.out), (by (with_reducible repeat (first | apply Kd.R_alloc | apply Kd.R_drewN | apply Kd.R_drew)); exact HO20053.out), (by (with_reducible repeat (first | refine blk_drewN ?_ _ | refine blk_drew ?_ | refine blk_alloc ?_ _)); exact BK20001.out), (by repeat (first | (with_reducible first | exact HB.out | apply below_alloc | apply pw_below_drewN | apply below_drew1 | refine below_set ?_ GE20001.out) | exact HB.out))⟩)
                                      · skip
                                        rintro v20046 w85 ⟨hS_, h0_, h1_, h2_, h3_, h4_, h5_, h6_⟩
                                        have n0_ : Aside0 (Kd.R (Kd.int .u8) 5 w85 w.heap.size (fun k_ => some k_ ≠ (v20006 : Value).ownBlock) v20003 y20002) := ⟨h0_⟩
                                        have n1_ : Aside0 (Kd.R (Kd.int .u8) 5 w85 w.heap.size (fun k_ => some k_ ≠ (v20003 : Value).ownBlock) v20006 y20005) := ⟨h1_⟩
                                        have n2_ : Aside0 (Kd.R Kd.string 9 w85 w.heap.size (fun k_ => some k_ ≠ (.slice Ao82 y20041.length co82 : Value).ownBlock ∧ some k_ ≠ (v20046 : Value).ownBlock) (.slice Ao81 y20038.length co81) y20038) := ⟨h2_⟩
                                        have n3_ : Aside0 (Kd.R Kd.string 9 w85 w.heap.size (fun k_ => some k_ ≠ (.slice Ao81 y20038.length co81 : Value).ownBlock ∧ some k_ ≠ (v20046 : Value).ownBlock) (.slice Ao82 y20041.length co82) y20041) := ⟨h3_⟩
                                        have n4_ : Aside0 (Kd.R Kd.string 9 w85 w.heap.size (fun k_ => some k_ ≠ (.slice Ao81 y20038.length co81 : Value).ownBlock ∧ some k_ ≠ (.slice Ao82 y20041.length co82 : Value).ownBlock) v20046 t20045) := ⟨h4_⟩
                                        have n5_ : Aside0 (w85.heap[gb20001]? = some (.cells #[.int .u8 a0_0, .int .u8 a0_1, .slice (some ad20021) l0_2.length c0_2] 38 (0, 0))) := ⟨h5_⟩
                                        have n6_ : Aside0 (Below w.heap.size w w85) := ⟨h6_⟩
                                        clear HO20004
                                        clear HO20007
                                        clear HO20040
                                        clear HO20043
                                        clear BK20001
                                        clear HB
                                        clear h0_ h1_ h2_ h3_ h4_ h5_ h6_
                                        have HO20004 := n0_
                                        have HO20007 := n1_
                                        have HO20040 := n2_
                                        have HO20043 := n3_
                                        have HO20047 := n4_
                                        have BK20001 := n5_
                                        have HB := n6_
                                        clear n0_ n1_ n2_ n3_ n4_ n5_ n6_
                                        have hHeld : w85.cell? ⟨gb20001, 0, none⟩ = some (.int .u8 a0_0) ∧ w85.cell? ⟨gb20001, 1, none⟩ = some (.int .u8 a0_1) ∧ w85.cell? ⟨gb20001, 2, none⟩ = some (.slice (some ad20021) l0_2.length c0_2) ∧ w85.cell? ⟨ad20021.block, ad20021.off + 3, none⟩ = some (.int .u8 ((rd_T38 l0_2 1).f0)) ∧ w85.cell? ⟨ad20021.block, ad20021.off + 3 + 1, none⟩ = some (.int .u8 ((rd_T38 l0_2 1).f1)) ∧ w85.cell? ⟨ad20021.block, ad20021.off + 3 + 2, none⟩ = some (.slice A20044_2 ((rd_T38 l0_2 1).f2).length c20044_2) := hS_
                                        obtain ⟨Ao87, co87, eo87⟩ := Kd.R_slice HO20047.out
                                        (first | subst eo87 | (injection eo87 with f1_ f2_ f3_; have f4_ := f1_.symm; have f5_ := f3_.symm; clear f1_ f2_ f3_; subst f4_; subst f5_))
                                        refine norm_ (a' := ?_) ?_ ?_
                                        rotate_left
                                        · simp only [putAll, Act.put, List.setIfInBounds_toArray, List.set_cons_zero, List.set_cons_succ]
                                          rfl
                                        refine two_ (i := 6) (j := 10) (Ni := some 64) (Nj := some 68) #[true, true, true, true, true, true, true, true, true, true, false, false, false, false, false] #[true, true, true, true, true, true, false, true, true, true, true, false, false, false, false] rfl rfl rfl rfl (two_of HT_.out (by kernel_rfl)) (by decide) (by decide) (fun K hK => ?_) (fun K hK => ?_)
                                        · skip
                                          refine Kd.R_append_rows_step Kd.string (w0 := w) w.heap.size (by rfl) (.tmp 58) (.tmp 63) 25 9 (.string ⟨#[]⟩) 16 rfl Try.underlying25 info9 rfl (by decide) (by omega) (.slice Ao82 y20041.length co82) y20041 t20045 _ _ _ (fun k_ => some k_ ≠ (.slice Ao81 y20038.length co81 : Value).ownBlock ∧ some k_ ≠ (.slice Ao87 t20045.length co87 : Value).ownBlock) (fun _ => False) rfl rfl ?aO ?aR (fun _ _ h => h) (fun _ h => h.elim) ?aF ?aB ?aS ?aL ?_
                                          (case aR => repeat (first | exact (Kd.R_reads' HO20047.out).2.2 | (with_reducible refine Kd.C_alloc ?_ _) | (with_reducible refine Kd.C_drewN ?_ _) | (with_reducible refine Kd.C_drew ?_)))
                                          (case aB => exact (by repeat (first | (with_reducible first | exact HB.out | apply below_alloc | apply pw_below_drewN | apply below_drew1 | refine below_set ?_ GE20001.out) | exact HB.out)))
                                          (case aF => exact (fun k_ hk => ⟨Kd.fresh' (Kd.R_lt (by (with_reducible repeat (first | apply Kd.R_alloc | apply Kd.R_drewN | apply Kd.R_drew)); exact HO20040.out)) k_ hk, Kd.fresh' (Kd.R_lt (by (with_reducible repeat (first | apply Kd.R_alloc | apply Kd.R_drewN | apply Kd.R_drew)); exact HO20047.out)) k_ hk⟩))
                                          (case aO => exact (by (with_reducible repeat (first | apply Kd.R_alloc | apply Kd.R_drewN | apply Kd.R_drew)); exact HO20043.out))
                                          (case aS => exact (below_size (by repeat (first | (with_reducible first | exact HB.out | apply below_alloc | apply pw_below_drewN | apply below_drew1 | refine below_set ?_ GE20001.out) | exact HB.out))))
                                          (case aL => have := LMc64.out; omega)
                                          intro v20049 w86 ho hb hg hat
                                          rw [← Ny20048.out] at ho
                                          have n0_ := Aside0.mk (blk_grown (g := gb20001) (o := .cells #[.int .u8 a0_0, .int .u8 a0_1, .slice (some ad20021) l0_2.length c0_2] 38 (0, 0)) (by (with_reducible repeat (first | refine blk_drewN ?_ _ | refine blk_drew ?_ | refine blk_alloc ?_ _)); exact BK20001.out) hg (Kd.R_ne HO20043.out BK20001.out (by decide)))
                                          have n1_ := Aside0.mk (Kd.R_over' (by (with_reducible repeat (first | apply Kd.R_alloc | apply Kd.R_drewN | apply Kd.R_drew)); exact HO20004.out) (Kd.R_typed (by (with_reducible repeat (first | apply Kd.R_alloc | apply Kd.R_drewN | apply Kd.R_drew)); exact HO20043.out)) (by decide) hg)
                                          have n2_ := Aside0.mk (Kd.R_over' (by (with_reducible repeat (first | apply Kd.R_alloc | apply Kd.R_drewN | apply Kd.R_drew)); exact HO20007.out) (Kd.R_typed (by (with_reducible repeat (first | apply Kd.R_alloc | apply Kd.R_drewN | apply Kd.R_drew)); exact HO20043.out)) (by decide) hg)
                                          have n3_ := Aside0.mk (Kd.R_after (ok := (fun k_ => some k_ ≠ (.slice Ao87 t20045.length co87 : Value).ownBlock)) (by (with_reducible repeat (first | apply Kd.R_alloc | apply Kd.R_drewN | apply Kd.R_drew)); exact Kd.R_mono HO20040.out (fun _ hk => ⟨hk.2, hk.1⟩)) hg hat)
                                          have n4_ := Aside0.mk (Kd.R_after (ok := (fun k_ => some k_ ≠ (.slice Ao81 y20038.length co81 : Value).ownBlock)) (by (with_reducible repeat (first | apply Kd.R_alloc | apply Kd.R_drewN | apply Kd.R_drew)); exact HO20047.out) hg hat)
                                          have n5_ := Aside0.mk (hb)
                                          have n6_ := Aside0.mk (ho)
                                          clear BK20001
                                          clear HO20004
                                          clear HO20007
                                          clear HO20040
                                          clear HO20047
                                          clear HB
                                          clear HO20043
                                          have BK20001 := n0_
                                          have HO20004 := n1_
                                          have HO20007 := n2_
                                          have HO20040 := n3_
                                          have HO20047 := n4_
                                          have HB := n5_
                                          have HO20050 := n6_
                                          clear n0_ n1_ n2_ n3_ n4_ n5_ n6_
                                          clear ho hb hg hat
                                          refine hK.out _ _ ⟨(blk_cell BK20001.out 0).trans rfl, (blk_cell BK20001.out 1).trans rfl, (blk_cell BK20001.out 2).trans rfl, ((HB.out.cell (World.block_lt_of_cell? w _ hw20044_0)).trans hw20044_0), ((HB.out.cell (World.block_lt_of_cell? w _ hw20044_1)).trans hw20044_1), ((HB.out.cell (World.block_lt_of_cell? w _ hw20044_2)).trans hw20044_2)⟩ (fun hHeld => ?_)
                                          clear hK K
                                          refine norm_ (a' := ?_) ?_ ?_
                                          rotate_left
                                          · show Act.put _ (some 64) _ = _
                                            simp only [Act.put, List.setIfInBounds_toArray, List.set_cons_zero, List.set_cons_succ, i64_w, i32_w]
                                            rfl
                                          exact norm_ (by first | (simp only [putAll, Act.put, List.setIfInBounds_toArray, List.set_cons_zero, List.set_cons_succ]; done) | (simp only [putAll, Act.put, List.setIfInBounds_toArray, List.set_cons_zero, List.set_cons_succ]; rfl)) (hJ5_6 (.slice Ao87 t20045.length co87, v20049) _ ⟨hHeld, (by (with_reducible repeat (first | apply Kd.R_alloc | apply Kd.R_drewN | apply Kd.R_drew)); exact HO20004.out), (by (with_reducible repeat (first | apply Kd.R_alloc | apply Kd.R_drewN | apply Kd.R_drew)); exact HO20007.out), (by (with_reducible repeat (first | apply Kd.R_alloc | apply Kd.R_drewN | apply Kd.R_drew)); exact HO20040.out), (by (with_reducible repeat (first | apply Kd.R_alloc | apply Kd.R_drewN | apply Kd.R_drew)); exact HO20047.out), (by (with_reducible repeat (first | apply Kd.R_alloc | apply Kd.R_drewN | apply Kd.R_drew)); exact HO20050.out), (by (with_reducible repeat (first | refine blk_drewN ?_ _ | refine blk_drew ?_ | refine blk_alloc ?_ _)); exact BK20001.out), (by repeat (first | (with_reducible first | exact HB.out | apply below_alloc | apply pw_below_drewN | apply below_drew1 | refine below_set ?_ GE20001.out) | exact HB.out))⟩)
                                        · skip
                                          refine Kd.R_lit_step (Kd.int .u8) _ 5 ?hg (N := 68) ?hd (xs := ([(a0_0 + 2) % 256] : List Int)) (inner := [.int .u8 ((a0_0 + 2) % 256)]) (ok := fun _ => True) (okp := fun _ => True) ?hr ?hp (fun _ hk => hk) trivial (Below.refl _ _) (Nat.le_refl _) (by simp) ?_; (case hd => rfl); (case hg => rfl); (case hr => first | (go_simp; done) | (go_simp; rfl)); (case hp => exact (Reps.one (show Kd.M (Kd.int .u8) _ _ _ ((a0_0 + 2) % 256) [.int .u8 ((a0_0 + 2) % 256)] from rfl) (Reps.none _ _)))
                                          intro v20052 w86 ho87 hb hg_ hnew_
                                          clear hg_ hnew_
                                          (first | rw [← Ny20051.out] at ho87 | (simp only [Int.reduceToNat] at ho87; rw [← Ny20051.out] at ho87))
                                          have n0_ := Aside0.mk (Kd.R_elder' (by (with_reducible repeat (first | apply Kd.R_alloc | apply Kd.R_drewN | apply Kd.R_drew)); exact HO20004.out) (Kd.R_base ho87) hb)
                                          have n1_ := Aside0.mk (Kd.R_elder' (by (with_reducible repeat (first | apply Kd.R_alloc | apply Kd.R_drewN | apply Kd.R_drew)); exact HO20007.out) (Kd.R_base ho87) hb)
                                          have n2_ := Aside0.mk (Kd.R_below (by (with_reducible repeat (first | apply Kd.R_alloc | apply Kd.R_drewN | apply Kd.R_drew)); exact HO20040.out) hb)
                                          have n3_ := Aside0.mk (Kd.R_below (by (with_reducible repeat (first | apply Kd.R_alloc | apply Kd.R_drewN | apply Kd.R_drew)); exact HO20043.out) hb)
                                          have n4_ := Aside0.mk (Kd.R_below (by (with_reducible repeat (first | apply Kd.R_alloc | apply Kd.R_drewN | apply Kd.R_drew)); exact HO20047.out) hb)
                                          have n5_ := Aside0.mk (Kd.R_lower (Kd.R_new' (Kd.R_new' ho87 (Kd.R_lt (by (with_reducible repeat (first | apply Kd.R_alloc | apply Kd.R_drewN | apply Kd.R_drew)); exact HO20004.out))) (Kd.R_lt (by (with_reducible repeat (first | apply Kd.R_alloc | apply Kd.R_drewN | apply Kd.R_drew)); exact HO20007.out))) (below_size (by repeat (first | (with_reducible first | exact HB.out | apply below_alloc | apply pw_below_drewN | apply below_drew1 | refine below_set ?_ GE20001.out) | exact HB.out))))
                                          have n6_ := Aside0.mk (blk_below (g := gb20001) (o := .cells #[.int .u8 a0_0, .int .u8 a0_1, .slice (some ad20021) l0_2.length c0_2] 38 (0, 0)) (by (with_reducible repeat (first | refine blk_drewN ?_ _ | refine blk_drew ?_ | refine blk_alloc ?_ _)); exact BK20001.out) hb)
                                          have n7_ := Aside0.mk (below_step (by repeat (first | (with_reducible first | exact HB.out | apply below_alloc | apply pw_below_drewN | apply below_drew1 | refine below_set ?_ GE20001.out) | exact HB.out)) hb)
                                          clear HO20004
                                          clear HO20007
                                          clear HO20040
                                          clear HO20043
                                          clear HO20047
                                          clear BK20001
                                          clear HB
                                          have HO20004 := n0_
                                          have HO20007 := n1_
                                          have HO20040 := n2_
                                          have HO20043 := n3_
                                          have HO20047 := n4_
                                          have HO20053 := n5_
                                          have BK20001 := n6_
                                          have HB := n7_
                                          clear n0_ n1_ n2_ n3_ n4_ n5_ n6_ n7_
                                          clear hb ho87
                                          refine hK.out _ _ ⟨(blk_cell BK20001.out 0).trans rfl, (blk_cell BK20001.out 1).trans rfl, (blk_cell BK20001.out 2).trans rfl, ((HB.out.cell (World.block_lt_of_cell? w _ hw20044_0)).trans hw20044_0), ((HB.out.cell (World.block_lt_of_cell? w _ hw20044_1)).trans hw20044_1), ((HB.out.cell (World.block_lt_of_cell? w _ hw20044_2)).trans hw20044_2)⟩ (fun hHeld => ?_)
                                          clear hK K
                                          refine norm_ (a' := ?_) ?_ ?_
                                          rotate_left
                                          · show Act.put _ (some 68) _ = _
                                            simp only [Act.put, List.setIfInBounds_toArray, List.set_cons_zero, List.set_cons_succ, i64_w, i32_w]
                                            rfl
                                          exact norm_ (by first | (simp only [putAll, Act.put, List.setIfInBounds_toArray, List.set_cons_zero, List.set_cons_succ]; done) | (simp only [putAll, Act.put, List.setIfInBounds_toArray, List.set_cons_zero, List.set_cons_succ]; rfl)) (hJ5_10 ((.slice Ao87 t20045.length co87 : Value), v20052) _ ⟨hHeld, (by (with_reducible repeat (first | apply Kd.R_alloc | apply Kd.R_drewN | apply Kd.R_drew)); exact HO20004.out), (by (with_reducible repeat (first | apply Kd.R_alloc | apply Kd.R_drewN | apply Kd.R_drew)); exact HO20007.out), (by (with_reducible repeat (first | apply Kd.R_alloc | apply Kd.R_drewN | apply Kd.R_drew)); exact HO20040.out), (by (with_reducible repeat (first | apply Kd.R_alloc | apply Kd.R_drewN | apply Kd.R_drew)); exact HO20043.out), (by (with_reducible repeat (first | apply Kd.R_alloc | apply Kd.R_drewN | apply Kd.R_drew)); exact HO20047.out), (by (with_reducible repeat (first | apply Kd.R_alloc | apply Kd.R_drewN | apply Kd.R_drew)); exact Kd.R_mono HO20053.out (fun _ hk => ⟨hk.1.2, hk.2⟩)), (by (with_reducible repeat (first | refine blk_drewN ?_ _ | refine blk_drew ?_ | refine blk_alloc ?_ _)); exact BK20001.out), (by repeat (first | (with_reducible first | exact HB.out | apply below_alloc | apply pw_below_drewN | apply below_drew1 | refine below_set ?_ GE20001.out) | exact HB.out))⟩)
                                    · skip
                                      rintro v20052 w87 ⟨hS_, h0_, h1_, h2_, h3_, h4_, h5_, h6_⟩
                                      have n0_ : Aside0 (Kd.R (Kd.int .u8) 5 w87 w.heap.size (fun k_ => some k_ ≠ (v20006 : Value).ownBlock ∧ some k_ ≠ (v20052 : Value).ownBlock) v20003 y20002) := ⟨h0_⟩
                                      have n1_ : Aside0 (Kd.R (Kd.int .u8) 5 w87 w.heap.size (fun k_ => some k_ ≠ (v20003 : Value).ownBlock ∧ some k_ ≠ (v20052 : Value).ownBlock) v20006 y20005) := ⟨h1_⟩
                                      have n2_ : Aside0 (Kd.R Kd.string 9 w87 w.heap.size (fun k_ => some k_ ≠ (.slice Ao82 y20041.length co82 : Value).ownBlock) (.slice Ao81 y20038.length co81) y20038) := ⟨h2_⟩
                                      have n3_ : Aside0 (Kd.R Kd.string 9 w87 w.heap.size (fun k_ => some k_ ≠ (.slice Ao81 y20038.length co81 : Value).ownBlock) (.slice Ao82 y20041.length co82) y20041) := ⟨h3_⟩
                                      have n4_ : Aside0 (Kd.R (Kd.int .u8) 5 w87 w.heap.size (fun k_ => some k_ ≠ (v20003 : Value).ownBlock ∧ some k_ ≠ (v20006 : Value).ownBlock) v20052 y20051) := ⟨h4_⟩
                                      have n5_ : Aside0 (w87.heap[gb20001]? = some (.cells #[.int .u8 a0_0, .int .u8 a0_1, .slice (some ad20021) l0_2.length c0_2] 38 (0, 0))) := ⟨h5_⟩
                                      have n6_ : Aside0 (Below w.heap.size w w87) := ⟨h6_⟩
                                      clear HO20004
                                      clear HO20007
                                      clear HO20040
                                      clear HO20043
                                      clear BK20001
                                      clear HB
                                      clear h0_ h1_ h2_ h3_ h4_ h5_ h6_
                                      have HO20004 := n0_
                                      have HO20007 := n1_
                                      have HO20040 := n2_
                                      have HO20043 := n3_
                                      have HO20053 := n4_
                                      have BK20001 := n5_
                                      have HB := n6_
                                      clear n0_ n1_ n2_ n3_ n4_ n5_ n6_
                                      have hHeld : w87.cell? ⟨gb20001, 0, none⟩ = some (.int .u8 a0_0) ∧ w87.cell? ⟨gb20001, 1, none⟩ = some (.int .u8 a0_1) ∧ w87.cell? ⟨gb20001, 2, none⟩ = some (.slice (some ad20021) l0_2.length c0_2) ∧ w87.cell? ⟨ad20021.block, ad20021.off + 3, none⟩ = some (.int .u8 ((rd_T38 l0_2 1).f0)) ∧ w87.cell? ⟨ad20021.block, ad20021.off + 3 + 1, none⟩ = some (.int .u8 ((rd_T38 l0_2 1).f1)) ∧ w87.cell? ⟨ad20021.block, ad20021.off + 3 + 2, none⟩ = some (.slice A20044_2 ((rd_T38 l0_2 1).f2).length c20044_2) := hS_
                                      refine norm_ (a' := ?_) ?_ ?_
                                      rotate_left
                                      · simp only [putAll, Act.put, List.setIfInBounds_toArray, List.set_cons_zero, List.set_cons_succ]
                                        rfl
                                      refine two_ (i := 5) (j := 12) (Ni := some 63) (Nj := some 70) #[true, true, true, true, true, true, false, true, true, true, true, true, false, false, false] #[true, true, true, true, true, false, false, true, true, true, true, true, true, false, false] rfl rfl rfl rfl (two_of HT_.out (by kernel_rfl)) (by decide) (by decide) (fun K hK => ?_) (fun K hK => ?_)
                                      · skip
                                        refine goes_ Try.func52 (by kernel_rfl) rfl #[.agg #[.int .u8 ((rd_T38 l0_2 1).f0), .int .u8 ((rd_T38 l0_2 1).f1), .slice A20044_2 ((rd_T38 l0_2 1).f2).length c20044_2]] (by rfl) rfl rfl (by (try simp only [List.map_toArray, List.map_cons, List.map_nil]); first | done | rfl | (simp only [List.length_drop, List.length_take]; rfl)) ?_
                                        with_reducible refine (ih k (by omega) ((rd_T38 l0_2 1).f0) ((rd_T38 l0_2 1).f1) _ _ ((rd_T38 l0_2 1).f2) t20045 _ ?side1 ?side2 A63.out).mono ?_
                                        (case side1 => repeat (first | exact (Kd.C_below HR20044_2.out HB.out) | (with_reducible refine Kd.C_alloc ?_ _) | (with_reducible refine Kd.C_drewN ?_ _) | (with_reducible refine Kd.C_drew ?_)))
                                        (case side2 => exact HC20044_2.out)
                                        rintro e w88 ⟨v20046, rfl, ho0, hb⟩
                                        refine ⟨_, rfl, ?_⟩
                                        have n0_ := Aside0.mk (Kd.R_below (by (with_reducible repeat (first | apply Kd.R_alloc | apply Kd.R_drewN | apply Kd.R_drew)); exact HO20004.out) hb)
                                        have n1_ := Aside0.mk (Kd.R_below (by (with_reducible repeat (first | apply Kd.R_alloc | apply Kd.R_drewN | apply Kd.R_drew)); exact HO20007.out) hb)
                                        have n2_ := Aside0.mk (Kd.R_elder' (by (with_reducible repeat (first | apply Kd.R_alloc | apply Kd.R_drewN | apply Kd.R_drew)); exact HO20040.out) (Kd.R_base ho0) hb)
                                        have n3_ := Aside0.mk (Kd.R_elder' (by (with_reducible repeat (first | apply Kd.R_alloc | apply Kd.R_drewN | apply Kd.R_drew)); exact HO20043.out) (Kd.R_base ho0) hb)
                                        have n4_ := Aside0.mk (Kd.R_below (by (with_reducible repeat (first | apply Kd.R_alloc | apply Kd.R_drewN | apply Kd.R_drew)); exact HO20053.out) hb)
                                        have n5_ := Aside0.mk (Kd.R_lower (Kd.R_new' (Kd.R_new' ho0 (Kd.R_lt (by (with_reducible repeat (first | apply Kd.R_alloc | apply Kd.R_drewN | apply Kd.R_drew)); exact HO20040.out))) (Kd.R_lt (by (with_reducible repeat (first | apply Kd.R_alloc | apply Kd.R_drewN | apply Kd.R_drew)); exact HO20043.out))) (below_size (by repeat (first | (with_reducible first | exact HB.out | apply below_alloc | apply pw_below_drewN | apply below_drew1 | refine below_set ?_ GE20001.out) | exact HB.out))))
                                        have n6_ := Aside0.mk (blk_below (g := gb20001) (o := .cells #[.int .u8 a0_0, .int .u8 a0_1, .slice (some ad20021) l0_2.length c0_2] 38 (0, 0)) (by (with_reducible repeat (first | refine blk_drewN ?_ _ | refine blk_drew ?_ | refine blk_alloc ?_ _)); exact BK20001.out) hb)
                                        have n7_ := Aside0.mk (below_step (by repeat (first | (with_reducible first | exact HB.out | apply below_alloc | apply pw_below_drewN | apply below_drew1 | refine below_set ?_ GE20001.out) | exact HB.out)) hb)
                                        clear HO20004
                                        clear HO20007
                                        clear HO20040
                                        clear HO20043
                                        clear HO20053
                                        clear BK20001
                                        clear HB
                                        have HO20004 := n0_
                                        have HO20007 := n1_
                                        have HO20040 := n2_
                                        have HO20043 := n3_
                                        have HO20053 := n4_
                                        have HO20047 := n5_
                                        have BK20001 := n6_
                                        have HB := n7_
                                        clear n0_ n1_ n2_ n3_ n4_ n5_ n6_ n7_
                                        (try clear hb)
                                        (try clear hb2)
                                        (try clear hk)
                                        (try clear hi)
                                        (try clear ho0)
                                        refine hK.out _ _ ⟨(blk_cell BK20001.out 0).trans rfl, (blk_cell BK20001.out 1).trans rfl, (blk_cell BK20001.out 2).trans rfl, ((HB.out.cell (World.block_lt_of_cell? w _ hw20044_0)).trans hw20044_0), ((HB.out.cell (World.block_lt_of_cell? w _ hw20044_1)).trans hw20044_1), ((HB.out.cell (World.block_lt_of_cell? w _ hw20044_2)).trans hw20044_2)⟩ (fun hHeld => ?_)
                                        clear hK K
                                        refine norm_ (a' := ?_) ?_ ?_
                                        rotate_left
                                        · show Act.put _ (some 63) _ = _
                                          simp only [Act.put, List.setIfInBounds_toArray, List.set_cons_zero, List.set_cons_succ, i64_w, i32_w]
                                          rfl
                                        exact norm_ (by first | (simp only [putAll, Act.put, List.setIfInBounds_toArray, List.set_cons_zero, List.set_cons_succ]; done) | (simp only [putAll, Act.put, List.setIfInBounds_toArray, List.set_cons_zero, List.set_cons_succ]; rfl)) (hJ5_10_11 (v20046, v20052) _ ⟨hHeld, (by (with_reducible repeat (first | apply Kd.R_alloc | apply Kd.R_drewN | apply Kd.R_drew)); exact HO20004.out), (by (with_reducible repeat (first | apply Kd.R_alloc | apply Kd.R_drewN | apply Kd.R_drew)); exact HO20007.out), (by (with_reducible repeat (first | apply Kd.R_alloc | apply Kd.R_drewN | apply Kd.R_drew)); exact HO20040.out), (by (with_reducible repeat (first | apply Kd.R_alloc | apply Kd.R_drewN | apply Kd.R_drew)); exact HO20043.out), (by (with_reducible repeat (first | apply Kd.R_alloc | apply Kd.R_drewN | apply Kd.R_drew)); exact Kd.R_mono HO20047.out (fun _ hk => ⟨hk.1.2, hk.2⟩)), (by (with_reducible repeat (first | apply Kd.R_alloc | apply Kd.R_drewN | apply Kd.R_drew)); exact HO20053.out), (by (with_reducible repeat (first | refine blk_drewN ?_ _ | refine blk_drew ?_ | refine blk_alloc ?_ _)); exact BK20001.out), (by repeat (first | (with_reducible first | exact HB.out | apply below_alloc | apply pw_below_drewN | apply below_drew1 | refine below_set ?_ GE20001.out) | exact HB.out))⟩)
                                      · skip
                                        refine Kd.R_lit_step Kd.string _ 9 ?hg (N := 70) ?hd (xs := ([strOfNums y20051] : List ByteArray)) (inner := [.string (strOfNums y20051)]) (ok := fun _ => True) (okp := fun _ => True) ?hr ?hp (fun _ hk => hk) trivial (Below.refl _ _) (Nat.le_refl _) (by simp) ?_; (case hd => rfl); (case hg => rfl); (case hr => first | (go_simp; done) | (go_simp; rfl)); (case hp => exact (Reps.one (show Kd.M Kd.string _ _ _ (strOfNums y20051) [.string (strOfNums y20051)] from rfl) (Reps.none _ _)))
                                        intro v20055 w88 ho89 hb hg_ hnew_
                                        clear hg_ hnew_
                                        (first | rw [← Ny20054.out] at ho89 | (simp only [Int.reduceToNat] at ho89; rw [← Ny20054.out] at ho89))
                                        have n0_ := Aside0.mk (Kd.R_below (by (with_reducible repeat (first | apply Kd.R_alloc | apply Kd.R_drewN | apply Kd.R_drew)); exact HO20004.out) hb)
                                        have n1_ := Aside0.mk (Kd.R_below (by (with_reducible repeat (first | apply Kd.R_alloc | apply Kd.R_drewN | apply Kd.R_drew)); exact HO20007.out) hb)
                                        have n2_ := Aside0.mk (Kd.R_elder' (by (with_reducible repeat (first | apply Kd.R_alloc | apply Kd.R_drewN | apply Kd.R_drew)); exact HO20040.out) (Kd.R_base ho89) hb)
                                        have n3_ := Aside0.mk (Kd.R_elder' (by (with_reducible repeat (first | apply Kd.R_alloc | apply Kd.R_drewN | apply Kd.R_drew)); exact HO20043.out) (Kd.R_base ho89) hb)
                                        have n4_ := Aside0.mk (Kd.R_below (by (with_reducible repeat (first | apply Kd.R_alloc | apply Kd.R_drewN | apply Kd.R_drew)); exact HO20053.out) hb)
                                        have n5_ := Aside0.mk (Kd.R_lower (Kd.R_new' (Kd.R_new' ho89 (Kd.R_lt (by (with_reducible repeat (first | apply Kd.R_alloc | apply Kd.R_drewN | apply Kd.R_drew)); exact HO20040.out))) (Kd.R_lt (by (with_reducible repeat (first | apply Kd.R_alloc | apply Kd.R_drewN | apply Kd.R_drew)); exact HO20043.out))) (below_size (by repeat (first | (with_reducible first | exact HB.out | apply below_alloc | apply pw_below_drewN | apply below_drew1 | refine below_set ?_ GE20001.out) | exact HB.out))))
                                        have n6_ := Aside0.mk (blk_below (g := gb20001) (o := .cells #[.int .u8 a0_0, .int .u8 a0_1, .slice (some ad20021) l0_2.length c0_2] 38 (0, 0)) (by (with_reducible repeat (first | refine blk_drewN ?_ _ | refine blk_drew ?_ | refine blk_alloc ?_ _)); exact BK20001.out) hb)
                                        have n7_ := Aside0.mk (below_step (by repeat (first | (with_reducible first | exact HB.out | apply below_alloc | apply pw_below_drewN | apply below_drew1 | refine below_set ?_ GE20001.out) | exact HB.out)) hb)
                                        clear HO20004
                                        clear HO20007
                                        clear HO20040
                                        clear HO20043
                                        clear HO20053
                                        clear BK20001
                                        clear HB
                                        have HO20004 := n0_
                                        have HO20007 := n1_
                                        have HO20040 := n2_
                                        have HO20043 := n3_
                                        have HO20053 := n4_
                                        have HO20056 := n5_
                                        have BK20001 := n6_
                                        have HB := n7_
                                        clear n0_ n1_ n2_ n3_ n4_ n5_ n6_ n7_
                                        clear hb ho89
                                        refine hK.out _ _ ⟨(blk_cell BK20001.out 0).trans rfl, (blk_cell BK20001.out 1).trans rfl, (blk_cell BK20001.out 2).trans rfl, ((HB.out.cell (World.block_lt_of_cell? w _ hw20044_0)).trans hw20044_0), ((HB.out.cell (World.block_lt_of_cell? w _ hw20044_1)).trans hw20044_1), ((HB.out.cell (World.block_lt_of_cell? w _ hw20044_2)).trans hw20044_2)⟩ (fun hHeld => ?_)
                                        clear hK K
                                        refine norm_ (a' := ?_) ?_ ?_
                                        rotate_left
                                        · show Act.put _ (some 70) _ = _
                                          simp only [Act.put, List.setIfInBounds_toArray, List.set_cons_zero, List.set_cons_succ, i64_w, i32_w]
                                          rfl
                                        exact norm_ (by first | (simp only [putAll, Act.put, List.setIfInBounds_toArray, List.set_cons_zero, List.set_cons_succ]; done) | (simp only [putAll, Act.put, List.setIfInBounds_toArray, List.set_cons_zero, List.set_cons_succ]; rfl)) (hJ10_11_12 (v20052, v20055) _ ⟨hHeld, (by (with_reducible repeat (first | apply Kd.R_alloc | apply Kd.R_drewN | apply Kd.R_drew)); exact HO20004.out), (by (with_reducible repeat (first | apply Kd.R_alloc | apply Kd.R_drewN | apply Kd.R_drew)); exact HO20007.out), (by (with_reducible repeat (first | apply Kd.R_alloc | apply Kd.R_drewN | apply Kd.R_drew)); exact HO20040.out), (by (with_reducible repeat (first | apply Kd.R_alloc | apply Kd.R_drewN | apply Kd.R_drew)); exact HO20043.out), (by (with_reducible repeat (first | apply Kd.R_alloc | apply Kd.R_drewN | apply Kd.R_drew)); exact HO20053.out), (by (with_reducible repeat (first | apply Kd.R_alloc | apply Kd.R_drewN | apply Kd.R_drew)); exact Kd.R_mono HO20056.out (fun _ hk => ⟨hk.1.2, hk.2⟩)), (by (with_reducible repeat (first | refine blk_drewN ?_ _ | refine blk_drew ?_ | refine blk_alloc ?_ _)); exact BK20001.out), (by repeat (first | (with_reducible first | exact HB.out | apply below_alloc | apply pw_below_drewN | apply below_drew1 | refine below_set ?_ GE20001.out) | exact HB.out))⟩)
                                  · skip
                                    rintro ⟨v20046, v20052⟩ w87 ⟨hS_, h0_, h1_, h2_, h3_, h4_, h5_, h6_, h7_⟩
                                    have n0_ : Aside0 (Kd.R (Kd.int .u8) 5 w87 w.heap.size (fun k_ => some k_ ≠ (v20006 : Value).ownBlock ∧ some k_ ≠ (v20052 : Value).ownBlock) v20003 y20002) := ⟨h0_⟩
                                    have n1_ : Aside0 (Kd.R (Kd.int .u8) 5 w87 w.heap.size (fun k_ => some k_ ≠ (v20003 : Value).ownBlock ∧ some k_ ≠ (v20052 : Value).ownBlock) v20006 y20005) := ⟨h1_⟩
                                    have n2_ : Aside0 (Kd.R Kd.string 9 w87 w.heap.size (fun k_ => some k_ ≠ (.slice Ao82 y20041.length co82 : Value).ownBlock ∧ some k_ ≠ (v20046 : Value).ownBlock) (.slice Ao81 y20038.length co81) y20038) := ⟨h2_⟩
                                    have n3_ : Aside0 (Kd.R Kd.string 9 w87 w.heap.size (fun k_ => some k_ ≠ (.slice Ao81 y20038.length co81 : Value).ownBlock ∧ some k_ ≠ (v20046 : Value).ownBlock) (.slice Ao82 y20041.length co82) y20041) := ⟨h3_⟩
                                    have n4_ : Aside0 (Kd.R Kd.string 9 w87 w.heap.size (fun k_ => some k_ ≠ (.slice Ao81 y20038.length co81 : Value).ownBlock ∧ some k_ ≠ (.slice Ao82 y20041.length co82 : Value).ownBlock) v20046 t20045) := ⟨h4_⟩
                                    have n5_ : Aside0 (Kd.R (Kd.int .u8) 5 w87 w.heap.size (fun k_ => some k_ ≠ (v20003 : Value).ownBlock ∧ some k_ ≠ (v20006 : Value).ownBlock) v20052 y20051) := ⟨h5_⟩
                                    have n6_ : Aside0 (w87.heap[gb20001]? = some (.cells #[.int .u8 a0_0, .int .u8 a0_1, .slice (some ad20021) l0_2.length c0_2] 38 (0, 0))) := ⟨h6_⟩
                                    have n7_ : Aside0 (Below w.heap.size w w87) := ⟨h7_⟩
                                    clear HO20004
                                    clear HO20007
                                    clear HO20040
                                    clear HO20043
                                    clear BK20001
                                    clear HB
                                    clear h0_ h1_ h2_ h3_ h4_ h5_ h6_ h7_
                                    have HO20004 := n0_
                                    have HO20007 := n1_
                                    have HO20040 := n2_
                                    have HO20043 := n3_
                                    have HO20047 := n4_
                                    have HO20053 := n5_
                                    have BK20001 := n6_
                                    have HB := n7_
                                    clear n0_ n1_ n2_ n3_ n4_ n5_ n6_ n7_
                                    have hHeld : w87.cell? ⟨gb20001, 0, none⟩ = some (.int .u8 a0_0) ∧ w87.cell? ⟨gb20001, 1, none⟩ = some (.int .u8 a0_1) ∧ w87.cell? ⟨gb20001, 2, none⟩ = some (.slice (some ad20021) l0_2.length c0_2) ∧ w87.cell? ⟨ad20021.block, ad20021.off + 3, none⟩ = some (.int .u8 ((rd_T38 l0_2 1).f0)) ∧ w87.cell? ⟨ad20021.block, ad20021.off + 3 + 1, none⟩ = some (.int .u8 ((rd_T38 l0_2 1).f1)) ∧ w87.cell? ⟨ad20021.block, ad20021.off + 3 + 2, none⟩ = some (.slice A20044_2 ((rd_T38 l0_2 1).f2).length c20044_2) := hS_
                                    obtain ⟨Ao89, co89, eo89⟩ := Kd.R_slice HO20047.out
                                    (first | subst eo89 | (injection eo89 with f1_ f2_ f3_; have f4_ := f1_.symm; have f5_ := f3_.symm; clear f1_ f2_ f3_; subst f4_; subst f5_))
                                    refine norm_ (a' := ?_) ?_ ?_
                                    rotate_left
                                    · simp only [putAll, Act.put, List.setIfInBounds_toArray, List.set_cons_zero, List.set_cons_succ]
                                      rfl
                                    refine two_ (i := 6) (j := 11) (Ni := some 64) (Nj := some 69) #[true, true, true, true, true, true, true, true, true, true, true, false, false, false, false] #[true, true, true, true, true, true, false, true, true, true, true, true, false, false, false] rfl rfl rfl rfl (two_of HT_.out (by kernel_rfl)) (by decide) (by decide) (fun K hK => ?_) (fun K hK => ?_)
                                    · skip
                                      refine Kd.R_append_rows_step Kd.string (w0 := w) w.heap.size (by rfl) (.tmp 58) (.tmp 63) 25 9 (.string ⟨#[]⟩) 16 rfl Try.underlying25 info9 rfl (by decide) (by omega) (.slice Ao82 y20041.length co82) y20041 t20045 _ _ _ (fun k_ => some k_ ≠ (.slice Ao81 y20038.length co81 : Value).ownBlock ∧ some k_ ≠ (.slice Ao89 t20045.length co89 : Value).ownBlock) (fun _ => False) rfl rfl ?aO ?aR (fun _ _ h => h) (fun _ h => h.elim) ?aF ?aB ?aS ?aL ?_
                                      (case aR => repeat (first | exact (Kd.R_reads' HO20047.out).2.2 | (with_reducible refine Kd.C_alloc ?_ _) | (with_reducible refine Kd.C_drewN ?_ _) | (with_reducible refine Kd.C_drew ?_)))
                                      (case aB => exact (by repeat (first | (with_reducible first | exact HB.out | apply below_alloc | apply pw_below_drewN | apply below_drew1 | refine below_set ?_ GE20001.out) | exact HB.out)))
                                      (case aF => exact (fun k_ hk => ⟨Kd.fresh' (Kd.R_lt (by (with_reducible repeat (first | apply Kd.R_alloc | apply Kd.R_drewN | apply Kd.R_drew)); exact HO20040.out)) k_ hk, Kd.fresh' (Kd.R_lt (by (with_reducible repeat (first | apply Kd.R_alloc | apply Kd.R_drewN | apply Kd.R_drew)); exact HO20047.out)) k_ hk⟩))
                                      (case aO => exact (by (with_reducible repeat (first | apply Kd.R_alloc | apply Kd.R_drewN | apply Kd.R_drew)); exact HO20043.out))
                                      (case aS => exact (below_size (by repeat (first | (with_reducible first | exact HB.out | apply below_alloc | apply pw_below_drewN | apply below_drew1 | refine below_set ?_ GE20001.out) | exact HB.out))))
                                      (case aL => have := LMc64.out; omega)
                                      intro v20049 w88 ho hb hg hat
                                      rw [← Ny20048.out] at ho
                                      have n0_ := Aside0.mk (blk_grown (g := gb20001) (o := .cells #[.int .u8 a0_0, .int .u8 a0_1, .slice (some ad20021) l0_2.length c0_2] 38 (0, 0)) (by (with_reducible repeat (first | refine blk_drewN ?_ _ | refine blk_drew ?_ | refine blk_alloc ?_ _)); exact BK20001.out) hg (Kd.R_ne HO20043.out BK20001.out (by decide)))
                                      have n1_ := Aside0.mk (Kd.R_over' (by (with_reducible repeat (first | apply Kd.R_alloc | apply Kd.R_drewN | apply Kd.R_drew)); exact HO20004.out) (Kd.R_typed (by (with_reducible repeat (first | apply Kd.R_alloc | apply Kd.R_drewN | apply Kd.R_drew)); exact HO20043.out)) (by decide) hg)
                                      have n2_ := Aside0.mk (Kd.R_over' (by (with_reducible repeat (first | apply Kd.R_alloc | apply Kd.R_drewN | apply Kd.R_drew)); exact HO20007.out) (Kd.R_typed (by (with_reducible repeat (first | apply Kd.R_alloc | apply Kd.R_drewN | apply Kd.R_drew)); exact HO20043.out)) (by decide) hg)
                                      have n3_ := Aside0.mk (Kd.R_after (ok := (fun k_ => some k_ ≠ (.slice Ao89 t20045.length co89 : Value).ownBlock)) (by (with_reducible repeat (first | apply Kd.R_alloc | apply Kd.R_drewN | apply Kd.R_drew)); exact Kd.R_mono HO20040.out (fun _ hk => ⟨hk.2, hk.1⟩)) hg hat)
                                      have n4_ := Aside0.mk (Kd.R_after (ok := (fun k_ => some k_ ≠ (.slice Ao81 y20038.length co81 : Value).ownBlock)) (by (with_reducible repeat (first | apply Kd.R_alloc | apply Kd.R_drewN | apply Kd.R_drew)); exact HO20047.out) hg hat)
                                      have n5_ := Aside0.mk (Kd.R_over' (by (with_reducible repeat (first | apply Kd.R_alloc | apply Kd.R_drewN | apply Kd.R_drew)); exact HO20053.out) (Kd.R_typed (by (with_reducible repeat (first | apply Kd.R_alloc | apply Kd.R_drewN | apply Kd.R_drew)); exact HO20043.out)) (by decide) hg)
                                      have n6_ := Aside0.mk (hb)
                                      have n7_ := Aside0.mk (ho)
                                      clear BK20001
                                      clear HO20004
                                      clear HO20007
                                      clear HO20040
                                      clear HO20047
                                      clear HO20053
                                      clear HB
                                      clear HO20043
                                      have BK20001 := n0_
                                      have HO20004 := n1_
                                      have HO20007 := n2_
                                      have HO20040 := n3_
                                      have HO20047 := n4_
                                      have HO20053 := n5_
                                      have HB := n6_
                                      have HO20050 := n7_
                                      clear n0_ n1_ n2_ n3_ n4_ n5_ n6_ n7_
                                      clear ho hb hg hat
                                      refine hK.out _ _ ⟨(blk_cell BK20001.out 0).trans rfl, (blk_cell BK20001.out 1).trans rfl, (blk_cell BK20001.out 2).trans rfl, ((HB.out.cell (World.block_lt_of_cell? w _ hw20044_0)).trans hw20044_0), ((HB.out.cell (World.block_lt_of_cell? w _ hw20044_1)).trans hw20044_1), ((HB.out.cell (World.block_lt_of_cell? w _ hw20044_2)).trans hw20044_2)⟩ (fun hHeld => ?_)
                                      clear hK K
                                      refine norm_ (a' := ?_) ?_ ?_
                                      rotate_left
                                      · show Act.put _ (some 64) _ = _
                                        simp only [Act.put, List.setIfInBounds_toArray, List.set_cons_zero, List.set_cons_succ, i64_w, i32_w]
                                        rfl
                                      exact norm_ (by first | (simp only [putAll, Act.put, List.setIfInBounds_toArray, List.set_cons_zero, List.set_cons_succ]; done) | (simp only [putAll, Act.put, List.setIfInBounds_toArray, List.set_cons_zero, List.set_cons_succ]; rfl)) (hJ5_6_10 (.slice Ao89 t20045.length co89, v20049, v20052) _ ⟨hHeld, (by (with_reducible repeat (first | apply Kd.R_alloc | apply Kd.R_drewN | apply Kd.R_drew)); exact HO20004.out), (by (with_reducible repeat (first | apply Kd.R_alloc | apply Kd.R_drewN | apply Kd.R_drew)); exact HO20007.out), (by (with_reducible repeat (first | apply Kd.R_alloc | apply Kd.R_drewN | apply Kd.R_drew)); exact HO20040.out), (by (with_reducible repeat (first | apply Kd.R_alloc | apply Kd.R_drewN | apply Kd.R_drew)); exact HO20047.out), (by (with_reducible repeat (first | apply Kd.R_alloc | apply Kd.R_drewN | apply Kd.R_drew)); exact HO20050.out), (by (with_reducible repeat (first | apply Kd.R_alloc | apply Kd.R_drewN | apply Kd.R_drew)); exact HO20053.out), (by (with_reducible repeat (first | refine blk_drewN ?_ _ | refine blk_drew ?_ | refine blk_alloc ?_ _)); exact BK20001.out), (by repeat (first | (with_reducible first | exact HB.out | apply below_alloc | apply pw_below_drewN | apply below_drew1 | refine below_set ?_ GE20001.out) | exact HB.out))⟩)
                                    · skip
                                      have hcv88 := own_string (P := Try.prog) Try.underlying33 Try.underlying5 Try.underlying9 (Kd.own_of_R HO20053.out)
                                      refine value_ (w1 := ?_) (v := ?_) (by rfl) rfl ?_ ?_
                                      rotate_left 2
                                      · go_simp
                                        constructor
                                        · rfl
                                        · rfl
                                      clear hcv88
                                      refine hK.out _ _ ⟨(blk_cell BK20001.out 0).trans rfl, (blk_cell BK20001.out 1).trans rfl, (blk_cell BK20001.out 2).trans rfl, ((HB.out.cell (World.block_lt_of_cell? w _ hw20044_0)).trans hw20044_0), ((HB.out.cell (World.block_lt_of_cell? w _ hw20044_1)).trans hw20044_1), ((HB.out.cell (World.block_lt_of_cell? w _ hw20044_2)).trans hw20044_2)⟩ (fun hHeld => ?_)
                                      clear hK K
                                      refine norm_ (a' := ?_) ?_ ?_
                                      rotate_left
                                      · show Act.put _ (some 69) _ = _
                                        simp only [Act.put, List.setIfInBounds_toArray, List.set_cons_zero, List.set_cons_succ, i64_w, i32_w]
                                        rfl
                                      exact norm_ (by first | (simp only [putAll, Act.put, List.setIfInBounds_toArray, List.set_cons_zero, List.set_cons_succ]; done) | (simp only [putAll, Act.put, List.setIfInBounds_toArray, List.set_cons_zero, List.set_cons_succ]; rfl)) (hJ5_10_11 ((.slice Ao89 t20045.length co89 : Value), v20052) _ ⟨hHeld, (by (with_reducible repeat (first | apply Kd.R_alloc | apply Kd.R_drewN | apply Kd.R_drew)); exact HO20004.out), (by (with_reducible repeat (first | apply Kd.R_alloc | apply Kd.R_drewN | apply Kd.R_drew)); exact HO20007.out), (by (with_reducible repeat (first | apply Kd.R_alloc | apply Kd.R_drewN | apply Kd.R_drew)); exact HO20040.out), (by (with_reducible repeat (first | apply Kd.R_alloc | apply Kd.R_drewN | apply Kd.R_drew)); exact HO20043.out), (by (with_reducible repeat (first | apply Kd.R_alloc | apply Kd.R_drewN | apply Kd.R_drew)); exact HO20047.out), (by (with_reducible repeat (first | apply Kd.R_alloc | apply Kd.R_drewN | apply Kd.R_drew)); exact HO20053.out), (by (with_reducible repeat (first | refine blk_drewN ?_ _ | refine blk_drew ?_ | refine blk_alloc ?_ _)); exact BK20001.out), (by repeat (first | (with_reducible first | exact HB.out | apply below_alloc | apply pw_below_drewN | apply below_drew1 | refine below_set ?_ GE20001.out) | exact HB.out))⟩)
                                · skip
                                  rintro ⟨v20046, v20049⟩ w87 ⟨hS_, h0_, h1_, h2_, h3_, h4_, h5_, h6_⟩
                                  have n0_ : Aside0 (Kd.R (Kd.int .u8) 5 w87 w.heap.size (fun k_ => some k_ ≠ (v20006 : Value).ownBlock) v20003 y20002) := ⟨h0_⟩
                                  have n1_ : Aside0 (Kd.R (Kd.int .u8) 5 w87 w.heap.size (fun k_ => some k_ ≠ (v20003 : Value).ownBlock) v20006 y20005) := ⟨h1_⟩
                                  have n2_ : Aside0 (Kd.R Kd.string 9 w87 w.heap.size (fun k_ => some k_ ≠ (v20046 : Value).ownBlock ∧ some k_ ≠ (v20049 : Value).ownBlock) (.slice Ao81 y20038.length co81) y20038) := ⟨h2_⟩
                                  have n3_ : Aside0 (Kd.R Kd.string 9 w87 w.heap.size (fun k_ => some k_ ≠ (.slice Ao81 y20038.length co81 : Value).ownBlock ∧ some k_ ≠ (v20049 : Value).ownBlock) v20046 t20045) := ⟨h3_⟩
                                  have n4_ : Aside0 (Kd.R Kd.string 9 w87 w.heap.size (fun k_ => some k_ ≠ (.slice Ao81 y20038.length co81 : Value).ownBlock ∧ some k_ ≠ (v20046 : Value).ownBlock) v20049 y20048) := ⟨h4_⟩
                                  have n5_ : Aside0 (w87.heap[gb20001]? = some (.cells #[.int .u8 a0_0, .int .u8 a0_1, .slice (some ad20021) l0_2.length c0_2] 38 (0, 0))) := ⟨h5_⟩
                                  have n6_ : Aside0 (Below w.heap.size w w87) := ⟨h6_⟩
                                  clear HO20004
                                  clear HO20007
                                  clear HO20040
                                  clear HO20043
                                  clear BK20001
                                  clear HB
                                  clear h0_ h1_ h2_ h3_ h4_ h5_ h6_
                                  have HO20004 := n0_
                                  have HO20007 := n1_
                                  have HO20040 := n2_
                                  have HO20047 := n3_
                                  have HO20050 := n4_
                                  have BK20001 := n5_
                                  have HB := n6_
                                  clear n0_ n1_ n2_ n3_ n4_ n5_ n6_
                                  have hHeld : w87.cell? ⟨gb20001, 0, none⟩ = some (.int .u8 a0_0) ∧ w87.cell? ⟨gb20001, 1, none⟩ = some (.int .u8 a0_1) ∧ w87.cell? ⟨gb20001, 2, none⟩ = some (.slice (some ad20021) l0_2.length c0_2) ∧ w87.cell? ⟨ad20021.block, ad20021.off + 3, none⟩ = some (.int .u8 ((rd_T38 l0_2 1).f0)) ∧ w87.cell? ⟨ad20021.block, ad20021.off + 3 + 1, none⟩ = some (.int .u8 ((rd_T38 l0_2 1).f1)) ∧ w87.cell? ⟨ad20021.block, ad20021.off + 3 + 2, none⟩ = some (.slice A20044_2 ((rd_T38 l0_2 1).f2).length c20044_2) := hS_
                                  refine norm_ (a' := ?_) ?_ ?_
                                  rotate_left
                                  · simp only [putAll, Act.put, List.setIfInBounds_toArray, List.set_cons_zero, List.set_cons_succ]
                                    rfl
                                  refine one_ (i := 10) (N := some 68) #[true, true, true, true, true, true, true, true, true, true, true, false, false, false, false] rfl rfl (one_of HT_.out (by kernel_rfl)) (by decide) (fun K hK => ?_)
                                  refine Kd.R_lit_step (Kd.int .u8) _ 5 ?hg (N := 68) ?hd (xs := ([(a0_0 + 2) % 256] : List Int)) (inner := [.int .u8 ((a0_0 + 2) % 256)]) (ok := fun _ => True) (okp := fun _ => True) ?hr ?hp (fun _ hk => hk) trivial (Below.refl _ _) (Nat.le_refl _) (by simp) ?_; (case hd => rfl); (case hg => rfl); (case hr => first | (go_simp; done) | (go_simp; rfl)); (case hp => exact (Reps.one (show Kd.M (Kd.int .u8) _ _ _ ((a0_0 + 2) % 256) [.int .u8 ((a0_0 + 2) % 256)] from rfl) (Reps.none _ _)))
                                  intro v20052 w88 ho89 hb hg_ hnew_
                                  clear hg_ hnew_
                                  (first | rw [← Ny20051.out] at ho89 | (simp only [Int.reduceToNat] at ho89; rw [← Ny20051.out] at ho89))
                                  have n0_ := Aside0.mk (Kd.R_elder' (by (with_reducible repeat (first | apply Kd.R_alloc | apply Kd.R_drewN | apply Kd.R_drew)); exact HO20004.out) (Kd.R_base ho89) hb)
                                  have n1_ := Aside0.mk (Kd.R_elder' (by (with_reducible repeat (first | apply Kd.R_alloc | apply Kd.R_drewN | apply Kd.R_drew)); exact HO20007.out) (Kd.R_base ho89) hb)
                                  have n2_ := Aside0.mk (Kd.R_below (by (with_reducible repeat (first | apply Kd.R_alloc | apply Kd.R_drewN | apply Kd.R_drew)); exact HO20040.out) hb)
                                  have n3_ := Aside0.mk (Kd.R_below (by (with_reducible repeat (first | apply Kd.R_alloc | apply Kd.R_drewN | apply Kd.R_drew)); exact HO20047.out) hb)
                                  have n4_ := Aside0.mk (Kd.R_below (by (with_reducible repeat (first | apply Kd.R_alloc | apply Kd.R_drewN | apply Kd.R_drew)); exact HO20050.out) hb)
                                  have n5_ := Aside0.mk (Kd.R_lower (Kd.R_new' (Kd.R_new' ho89 (Kd.R_lt (by (with_reducible repeat (first | apply Kd.R_alloc | apply Kd.R_drewN | apply Kd.R_drew)); exact HO20004.out))) (Kd.R_lt (by (with_reducible repeat (first | apply Kd.R_alloc | apply Kd.R_drewN | apply Kd.R_drew)); exact HO20007.out))) (below_size (by repeat (first | (with_reducible first | exact HB.out | apply below_alloc | apply pw_below_drewN | apply below_drew1 | refine below_set ?_ GE20001.out) | exact HB.out))))
                                  have n6_ := Aside0.mk (blk_below (g := gb20001) (o := .cells #[.int .u8 a0_0, .int .u8 a0_1, .slice (some ad20021) l0_2.length c0_2] 38 (0, 0)) (by (with_reducible repeat (first | refine blk_drewN ?_ _ | refine blk_drew ?_ | refine blk_alloc ?_ _)); exact BK20001.out) hb)
                                  have n7_ := Aside0.mk (below_step (by repeat (first | (with_reducible first | exact HB.out | apply below_alloc | apply pw_below_drewN | apply below_drew1 | refine below_set ?_ GE20001.out) | exact HB.out)) hb)
                                  clear HO20004
                                  clear HO20007
                                  clear HO20040
                                  clear HO20047
                                  clear HO20050
                                  clear BK20001
                                  clear HB
                                  have HO20004 := n0_
                                  have HO20007 := n1_
                                  have HO20040 := n2_
                                  have HO20047 := n3_
                                  have HO20050 := n4_
                                  have HO20053 := n5_
                                  have BK20001 := n6_
                                  have HB := n7_
                                  clear n0_ n1_ n2_ n3_ n4_ n5_ n6_ n7_
                                  clear hb ho89
                                  refine hK.out _ _ ⟨(blk_cell BK20001.out 0).trans rfl, (blk_cell BK20001.out 1).trans rfl, (blk_cell BK20001.out 2).trans rfl, ((HB.out.cell (World.block_lt_of_cell? w _ hw20044_0)).trans hw20044_0), ((HB.out.cell (World.block_lt_of_cell? w _ hw20044_1)).trans hw20044_1), ((HB.out.cell (World.block_lt_of_cell? w _ hw20044_2)).trans hw20044_2)⟩ (fun hHeld => ?_)
                                  clear hK K
                                  refine norm_ (a' := ?_) ?_ ?_
                                  rotate_left
                                  · show Act.put _ (some 68) _ = _
                                    simp only [Act.put, List.setIfInBounds_toArray, List.set_cons_zero, List.set_cons_succ, i64_w, i32_w]
                                    rfl
                                  exact norm_ (by first | (simp only [putAll, Act.put, List.setIfInBounds_toArray, List.set_cons_zero, List.set_cons_succ]; done) | (simp only [putAll, Act.put, List.setIfInBounds_toArray, List.set_cons_zero, List.set_cons_succ]; rfl)) (hJ5_6_10 (v20046, v20049, v20052) _ ⟨hHeld, (by (with_reducible repeat (first | apply Kd.R_alloc | apply Kd.R_drewN | apply Kd.R_drew)); exact HO20004.out), (by (with_reducible repeat (first | apply Kd.R_alloc | apply Kd.R_drewN | apply Kd.R_drew)); exact HO20007.out), (by (with_reducible repeat (first | apply Kd.R_alloc | apply Kd.R_drewN | apply Kd.R_drew)); exact HO20040.out), (by (with_reducible repeat (first | apply Kd.R_alloc | apply Kd.R_drewN | apply Kd.R_drew)); exact HO20047.out), (by (with_reducible repeat (first | apply Kd.R_alloc | apply Kd.R_drewN | apply Kd.R_drew)); exact HO20050.out), (by (with_reducible repeat (first | apply Kd.R_alloc | apply Kd.R_drewN | apply Kd.R_drew)); exact Kd.R_mono HO20053.out (fun _ hk => ⟨hk.1.2, hk.2⟩)), (by (with_reducible repeat (first | refine blk_drewN ?_ _ | refine blk_drew ?_ | refine blk_alloc ?_ _)); exact BK20001.out), (by repeat (first | (with_reducible first | exact HB.out | apply below_alloc | apply pw_below_drewN | apply below_drew1 | refine below_set ?_ GE20001.out) | exact HB.out))⟩)
                              · skip
                                rintro ⟨v20052, v20055⟩ w89 ⟨hS_, h0_, h1_, h2_, h3_, h4_, h5_, h6_, h7_⟩
                                have n0_ : Aside0 (Kd.R (Kd.int .u8) 5 w89 w.heap.size (fun k_ => some k_ ≠ (v20006 : Value).ownBlock ∧ some k_ ≠ (v20052 : Value).ownBlock) v20003 y20002) := ⟨h0_⟩
                                have n1_ : Aside0 (Kd.R (Kd.int .u8) 5 w89 w.heap.size (fun k_ => some k_ ≠ (v20003 : Value).ownBlock ∧ some k_ ≠ (v20052 : Value).ownBlock) v20006 y20005) := ⟨h1_⟩
                                have n2_ : Aside0 (Kd.R Kd.string 9 w89 w.heap.size (fun k_ => some k_ ≠ (.slice Ao82 y20041.length co82 : Value).ownBlock ∧ some k_ ≠ (v20055 : Value).ownBlock) (.slice Ao81 y20038.length co81) y20038) := ⟨h2_⟩
                                have n3_ : Aside0 (Kd.R Kd.string 9 w89 w.heap.size (fun k_ => some k_ ≠ (.slice Ao81 y20038.length co81 : Value).ownBlock ∧ some k_ ≠ (v20055 : Value).ownBlock) (.slice Ao82 y20041.length co82) y20041) := ⟨h3_⟩
                                have n4_ : Aside0 (Kd.R (Kd.int .u8) 5 w89 w.heap.size (fun k_ => some k_ ≠ (v20003 : Value).ownBlock ∧ some k_ ≠ (v20006 : Value).ownBlock) v20052 y20051) := ⟨h4_⟩
                                have n5_ : Aside0 (Kd.R Kd.string 9 w89 w.heap.size (fun k_ => some k_ ≠ (.slice Ao81 y20038.length co81 : Value).ownBlock ∧ some k_ ≠ (.slice Ao82 y20041.length co82 : Value).ownBlock) v20055 y20054) := ⟨h5_⟩
                                have n6_ : Aside0 (w89.heap[gb20001]? = some (.cells #[.int .u8 a0_0, .int .u8 a0_1, .slice (some ad20021) l0_2.length c0_2] 38 (0, 0))) := ⟨h6_⟩
                                have n7_ : Aside0 (Below w.heap.size w w89) := ⟨h7_⟩
                                clear HO20004
                                clear HO20007
                                clear HO20040
                                clear HO20043
                                clear BK20001
                                clear HB
                                clear h0_ h1_ h2_ h3_ h4_ h5_ h6_ h7_
                                have HO20004 := n0_
                                have HO20007 := n1_
                                have HO20040 := n2_
                                have HO20043 := n3_
                                have HO20053 := n4_
                                have HO20056 := n5_
                                have BK20001 := n6_
                                have HB := n7_
                                clear n0_ n1_ n2_ n3_ n4_ n5_ n6_ n7_
                                have hHeld : w89.cell? ⟨gb20001, 0, none⟩ = some (.int .u8 a0_0) ∧ w89.cell? ⟨gb20001, 1, none⟩ = some (.int .u8 a0_1) ∧ w89.cell? ⟨gb20001, 2, none⟩ = some (.slice (some ad20021) l0_2.length c0_2) ∧ w89.cell? ⟨ad20021.block, ad20021.off + 3, none⟩ = some (.int .u8 ((rd_T38 l0_2 1).f0)) ∧ w89.cell? ⟨ad20021.block, ad20021.off + 3 + 1, none⟩ = some (.int .u8 ((rd_T38 l0_2 1).f1)) ∧ w89.cell? ⟨ad20021.block, ad20021.off + 3 + 2, none⟩ = some (.slice A20044_2 ((rd_T38 l0_2 1).f2).length c20044_2) := hS_
                                refine norm_ (a' := ?_) ?_ ?_
                                rotate_left
                                · simp only [putAll, Act.put, List.setIfInBounds_toArray, List.set_cons_zero, List.set_cons_succ]
                                  rfl
                                refine one_ (i := 5) (N := some 63) #[true, true, true, true, true, true, false, true, true, true, true, true, true, false, false] rfl rfl (one_of HT_.out (by kernel_rfl)) (by decide) (fun K hK => ?_)
                                refine goes_ Try.func52 (by kernel_rfl) rfl #[.agg #[.int .u8 ((rd_T38 l0_2 1).f0), .int .u8 ((rd_T38 l0_2 1).f1), .slice A20044_2 ((rd_T38 l0_2 1).f2).length c20044_2]] (by rfl) rfl rfl (by (try simp only [List.map_toArray, List.map_cons, List.map_nil]); first | done | rfl | (simp only [List.length_drop, List.length_take]; rfl)) ?_
                                with_reducible refine (ih k (by omega) ((rd_T38 l0_2 1).f0) ((rd_T38 l0_2 1).f1) _ _ ((rd_T38 l0_2 1).f2) t20045 _ ?side1 ?side2 A63.out).mono ?_
                                (case side1 => repeat (first | exact (Kd.C_below HR20044_2.out HB.out) | (with_reducible refine Kd.C_alloc ?_ _) | (with_reducible refine Kd.C_drewN ?_ _) | (with_reducible refine Kd.C_drew ?_)))
                                (case side2 => exact HC20044_2.out)
                                rintro e w90 ⟨v20046, rfl, ho0, hb⟩
                                refine ⟨_, rfl, ?_⟩
                                have n0_ := Aside0.mk (Kd.R_below (by (with_reducible repeat (first | apply Kd.R_alloc | apply Kd.R_drewN | apply Kd.R_drew)); exact HO20004.out) hb)
                                have n1_ := Aside0.mk (Kd.R_below (by (with_reducible repeat (first | apply Kd.R_alloc | apply Kd.R_drewN | apply Kd.R_drew)); exact HO20007.out) hb)
                                have n2_ := Aside0.mk (Kd.R_elder' (by (with_reducible repeat (first | apply Kd.R_alloc | apply Kd.R_drewN | apply Kd.R_drew)); exact HO20040.out) (Kd.R_base ho0) hb)
                                have n3_ := Aside0.mk (Kd.R_elder' (by (with_reducible repeat (first | apply Kd.R_alloc | apply Kd.R_drewN | apply Kd.R_drew)); exact HO20043.out) (Kd.R_base ho0) hb)
                                have n4_ := Aside0.mk (Kd.R_below (by (with_reducible repeat (first | apply Kd.R_alloc | apply Kd.R_drewN | apply Kd.R_drew)); exact HO20053.out) hb)
                                have n5_ := Aside0.mk (Kd.R_elder' (by (with_reducible repeat (first | apply Kd.R_alloc | apply Kd.R_drewN | apply Kd.R_drew)); exact HO20056.out) (Kd.R_base ho0) hb)
                                have n6_ := Aside0.mk (Kd.R_lower (Kd.R_new' (Kd.R_new' (Kd.R_new' ho0 (Kd.R_lt (by (with_reducible repeat (first | apply Kd.R_alloc | apply Kd.R_drewN | apply Kd.R_drew)); exact HO20040.out))) (Kd.R_lt (by (with_reducible repeat (first | apply Kd.R_alloc | apply Kd.R_drewN | apply Kd.R_drew)); exact HO20043.out))) (Kd.R_lt (by (with_reducible repeat (first | apply Kd.R_alloc | apply Kd.R_drewN | apply Kd.R_drew)); exact HO20056.out))) (below_size (by repeat (first | (with_reducible first | exact HB.out | apply below_alloc | apply pw_below_drewN | apply below_drew1 | refine below_set ?_ GE20001.out) | exact HB.out))))
                                have n7_ := Aside0.mk (blk_below (g := gb20001) (o := .cells #[.int .u8 a0_0, .int .u8 a0_1, .slice (some ad20021) l0_2.length c0_2] 38 (0, 0)) (by (with_reducible repeat (first | refine blk_drewN ?_ _ | refine blk_drew ?_ | refine blk_alloc ?_ _)); exact BK20001.out) hb)
                                have n8_ := Aside0.mk (below_step (by repeat (first | (with_reducible first | exact HB.out | apply below_alloc | apply pw_below_drewN | apply below_drew1 | refine below_set ?_ GE20001.out) | exact HB.out)) hb)
                                clear HO20004
                                clear HO20007
                                clear HO20040
                                clear HO20043
                                clear HO20053
                                clear HO20056
                                clear BK20001
                                clear HB
                                have HO20004 := n0_
                                have HO20007 := n1_
                                have HO20040 := n2_
                                have HO20043 := n3_
                                have HO20053 := n4_
                                have HO20056 := n5_
                                have HO20047 := n6_
                                have BK20001 := n7_
                                have HB := n8_
                                clear n0_ n1_ n2_ n3_ n4_ n5_ n6_ n7_ n8_
                                (try clear hb)
                                (try clear hb2)
                                (try clear hk)
                                (try clear hi)
                                (try clear ho0)
                                refine hK.out _ _ ⟨(blk_cell BK20001.out 0).trans rfl, (blk_cell BK20001.out 1).trans rfl, (blk_cell BK20001.out 2).trans rfl, ((HB.out.cell (World.block_lt_of_cell? w _ hw20044_0)).trans hw20044_0), ((HB.out.cell (World.block_lt_of_cell? w _ hw20044_1)).trans hw20044_1), ((HB.out.cell (World.block_lt_of_cell? w _ hw20044_2)).trans hw20044_2)⟩ (fun hHeld => ?_)
                                clear hK K
                                refine norm_ (a' := ?_) ?_ ?_
                                rotate_left
                                · show Act.put _ (some 63) _ = _
                                  simp only [Act.put, List.setIfInBounds_toArray, List.set_cons_zero, List.set_cons_succ, i64_w, i32_w]
                                  rfl
                                exact norm_ (by first | (simp only [putAll, Act.put, List.setIfInBounds_toArray, List.set_cons_zero, List.set_cons_succ]; done) | (simp only [putAll, Act.put, List.setIfInBounds_toArray, List.set_cons_zero, List.set_cons_succ]; rfl)) (hJ5_10_11_12 (v20046, v20052, v20055) _ ⟨hHeld, (by (with_reducible repeat (first | apply Kd.R_alloc | apply Kd.R_drewN | apply Kd.R_drew)); exact HO20004.out), (by (with_reducible repeat (first | apply Kd.R_alloc | apply Kd.R_drewN | apply Kd.R_drew)); exact HO20007.out), (by (with_reducible repeat (first | apply Kd.R_alloc | apply Kd.R_drewN | apply Kd.R_drew)); exact Kd.R_mono HO20040.out (fun _ hk => ⟨hk.1.1, ⟨hk.2, hk.1.2⟩⟩)), (by (with_reducible repeat (first | apply Kd.R_alloc | apply Kd.R_drewN | apply Kd.R_drew)); exact Kd.R_mono HO20043.out (fun _ hk => ⟨hk.1.1, ⟨hk.2, hk.1.2⟩⟩)), (by (with_reducible repeat (first | apply Kd.R_alloc | apply Kd.R_drewN | apply Kd.R_drew)); exact Kd.R_mono HO20047.out (fun _ hk => ⟨hk.1.1.2, ⟨hk.1.2, hk.2⟩⟩)), (by (with_reducible repeat (first | apply Kd.R_alloc | apply Kd.R_drewN | apply Kd.R_drew)); exact HO20053.out), (by (with_reducible repeat (first | apply Kd.R_alloc | apply Kd.R_drewN | apply Kd.R_drew)); exact Kd.R_mono HO20056.out (fun _ hk => ⟨hk.1.1, ⟨hk.1.2, hk.2⟩⟩)), (by (with_reducible repeat (first | refine blk_drewN ?_ _ | refine blk_drew ?_ | refine blk_alloc ?_ _)); exact BK20001.out), (by repeat (first | (with_reducible first | exact HB.out | apply below_alloc | apply pw_below_drewN | apply below_drew1 | refine below_set ?_ GE20001.out) | exact HB.out))⟩)
                            · skip
                              rintro ⟨v20046, v20052⟩ w88 ⟨hS_, h0_, h1_, h2_, h3_, h4_, h5_, h6_, h7_⟩
                              have n0_ : Aside0 (Kd.R (Kd.int .u8) 5 w88 w.heap.size (fun k_ => some k_ ≠ (v20006 : Value).ownBlock ∧ some k_ ≠ (v20052 : Value).ownBlock) v20003 y20002) := ⟨h0_⟩
                              have n1_ : Aside0 (Kd.R (Kd.int .u8) 5 w88 w.heap.size (fun k_ => some k_ ≠ (v20003 : Value).ownBlock ∧ some k_ ≠ (v20052 : Value).ownBlock) v20006 y20005) := ⟨h1_⟩
                              have n2_ : Aside0 (Kd.R Kd.string 9 w88 w.heap.size (fun k_ => some k_ ≠ (.slice Ao82 y20041.length co82 : Value).ownBlock ∧ some k_ ≠ (v20046 : Value).ownBlock) (.slice Ao81 y20038.length co81) y20038) := ⟨h2_⟩
                              have n3_ : Aside0 (Kd.R Kd.string 9 w88 w.heap.size (fun k_ => some k_ ≠ (.slice Ao81 y20038.length co81 : Value).ownBlock ∧ some k_ ≠ (v20046 : Value).ownBlock) (.slice Ao82 y20041.length co82) y20041) := ⟨h3_⟩
                              have n4_ : Aside0 (Kd.R Kd.string 9 w88 w.heap.size (fun k_ => some k_ ≠ (.slice Ao81 y20038.length co81 : Value).ownBlock ∧ some k_ ≠ (.slice Ao82 y20041.length co82 : Value).ownBlock) v20046 t20045) := ⟨h4_⟩
                              have n5_ : Aside0 (Kd.R (Kd.int .u8) 5 w88 w.heap.size (fun k_ => some k_ ≠ (v20003 : Value).ownBlock ∧ some k_ ≠ (v20006 : Value).ownBlock) v20052 y20051) := ⟨h5_⟩
                              have n6_ : Aside0 (w88.heap[gb20001]? = some (.cells #[.int .u8 a0_0, .int .u8 a0_1, .slice (some ad20021) l0_2.length c0_2] 38 (0, 0))) := ⟨h6_⟩
                              have n7_ : Aside0 (Below w.heap.size w w88) := ⟨h7_⟩
                              clear HO20004
                              clear HO20007
                              clear HO20040
                              clear HO20043
                              clear BK20001
                              clear HB
                              clear h0_ h1_ h2_ h3_ h4_ h5_ h6_ h7_
                              have HO20004 := n0_
                              have HO20007 := n1_
                              have HO20040 := n2_
                              have HO20043 := n3_
                              have HO20047 := n4_
                              have HO20053 := n5_
                              have BK20001 := n6_
                              have HB := n7_
                              clear n0_ n1_ n2_ n3_ n4_ n5_ n6_ n7_
                              have hHeld : w88.cell? ⟨gb20001, 0, none⟩ = some (.int .u8 a0_0) ∧ w88.cell? ⟨gb20001, 1, none⟩ = some (.int .u8 a0_1) ∧ w88.cell? ⟨gb20001, 2, none⟩ = some (.slice (some ad20021) l0_2.length c0_2) ∧ w88.cell? ⟨ad20021.block, ad20021.off + 3, none⟩ = some (.int .u8 ((rd_T38 l0_2 1).f0)) ∧ w88.cell? ⟨ad20021.block, ad20021.off + 3 + 1, none⟩ = some (.int .u8 ((rd_T38 l0_2 1).f1)) ∧ w88.cell? ⟨ad20021.block, ad20021.off + 3 + 2, none⟩ = some (.slice A20044_2 ((rd_T38 l0_2 1).f2).length c20044_2) := hS_
                              obtain ⟨Ao90, co90, eo90⟩ := Kd.R_slice HO20047.out
                              (first | subst eo90 | (injection eo90 with f1_ f2_ f3_; have f4_ := f1_.symm; have f5_ := f3_.symm; clear f1_ f2_ f3_; subst f4_; subst f5_))
                              refine norm_ (a' := ?_) ?_ ?_
                              rotate_left
                              · simp only [putAll, Act.put, List.setIfInBounds_toArray, List.set_cons_zero, List.set_cons_succ]
                                rfl
                              refine two_ (i := 6) (j := 12) (Ni := some 64) (Nj := some 70) #[true, true, true, true, true, true, true, true, true, true, true, true, false, false, false] #[true, true, true, true, true, true, false, true, true, true, true, true, true, false, false] rfl rfl rfl rfl (two_of HT_.out (by kernel_rfl)) (by decide) (by decide) (fun K hK => ?_) (fun K hK => ?_)
                              · skip
                                refine Kd.R_append_rows_step Kd.string (w0 := w) w.heap.size (by rfl) (.tmp 58) (.tmp 63) 25 9 (.string ⟨#[]⟩) 16 rfl Try.underlying25 info9 rfl (by decide) (by omega) (.slice Ao82 y20041.length co82) y20041 t20045 _ _ _ (fun k_ => some k_ ≠ (.slice Ao81 y20038.length co81 : Value).ownBlock ∧ some k_ ≠ (.slice Ao90 t20045.length co90 : Value).ownBlock) (fun _ => False) rfl rfl ?aO ?aR (fun _ _ h => h) (fun _ h => h.elim) ?aF ?aB ?aS ?aL ?_
                                (case aR => repeat (first | exact (Kd.R_reads' HO20047.out).2.2 | (with_reducible refine Kd.C_alloc ?_ _) | (with_reducible refine Kd.C_drewN ?_ _) | (with_reducible refine Kd.C_drew ?_)))
                                (case aB => exact (by repeat (first | (with_reducible first | exact HB.out | apply below_alloc | apply pw_below_drewN | apply below_drew1 | refine below_set ?_ GE20001.out) | exact HB.out)))
                                (case aF => exact (fun k_ hk => ⟨Kd.fresh' (Kd.R_lt (by (with_reducible repeat (first | apply Kd.R_alloc | apply Kd.R_drewN | apply Kd.R_drew)); exact HO20040.out)) k_ hk, Kd.fresh' (Kd.R_lt (by (with_reducible repeat (first | apply Kd.R_alloc | apply Kd.R_drewN | apply Kd.R_drew)); exact HO20047.out)) k_ hk⟩))
                                (case aO => exact (by (with_reducible repeat (first | apply Kd.R_alloc | apply Kd.R_drewN | apply Kd.R_drew)); exact HO20043.out))
                                (case aS => exact (below_size (by repeat (first | (with_reducible first | exact HB.out | apply below_alloc | apply pw_below_drewN | apply below_drew1 | refine below_set ?_ GE20001.out) | exact HB.out))))
                                (case aL => have := LMc64.out; omega)
                                intro v20049 w89 ho hb hg hat
                                rw [← Ny20048.out] at ho
                                have n0_ := Aside0.mk (blk_grown (g := gb20001) (o := .cells #[.int .u8 a0_0, .int .u8 a0_1, .slice (some ad20021) l0_2.length c0_2] 38 (0, 0)) (by (with_reducible repeat (first | refine blk_drewN ?_ _ | refine blk_drew ?_ | refine blk_alloc ?_ _)); exact BK20001.out) hg (Kd.R_ne HO20043.out BK20001.out (by decide)))
                                have n1_ := Aside0.mk (Kd.R_over' (by (with_reducible repeat (first | apply Kd.R_alloc | apply Kd.R_drewN | apply Kd.R_drew)); exact HO20004.out) (Kd.R_typed (by (with_reducible repeat (first | apply Kd.R_alloc | apply Kd.R_drewN | apply Kd.R_drew)); exact HO20043.out)) (by decide) hg)
                                have n2_ := Aside0.mk (Kd.R_over' (by (with_reducible repeat (first | apply Kd.R_alloc | apply Kd.R_drewN | apply Kd.R_drew)); exact HO20007.out) (Kd.R_typed (by (with_reducible repeat (first | apply Kd.R_alloc | apply Kd.R_drewN | apply Kd.R_drew)); exact HO20043.out)) (by decide) hg)
                                have n3_ := Aside0.mk (Kd.R_after (ok := (fun k_ => some k_ ≠ (.slice Ao90 t20045.length co90 : Value).ownBlock)) (by (with_reducible repeat (first | apply Kd.R_alloc | apply Kd.R_drewN | apply Kd.R_drew)); exact Kd.R_mono HO20040.out (fun _ hk => ⟨hk.2, hk.1⟩)) hg hat)
                                have n4_ := Aside0.mk (Kd.R_after (ok := (fun k_ => some k_ ≠ (.slice Ao81 y20038.length co81 : Value).ownBlock)) (by (with_reducible repeat (first | apply Kd.R_alloc | apply Kd.R_drewN | apply Kd.R_drew)); exact HO20047.out) hg hat)
                                have n5_ := Aside0.mk (Kd.R_over' (by (with_reducible repeat (first | apply Kd.R_alloc | apply Kd.R_drewN | apply Kd.R_drew)); exact HO20053.out) (Kd.R_typed (by (with_reducible repeat (first | apply Kd.R_alloc | apply Kd.R_drewN | apply Kd.R_drew)); exact HO20043.out)) (by decide) hg)
                                have n6_ := Aside0.mk (hb)
                                have n7_ := Aside0.mk (ho)
                                clear BK20001
                                clear HO20004
                                clear HO20007
                                clear HO20040
                                clear HO20047
                                clear HO20053
                                clear HB
                                clear HO20043
                                have BK20001 := n0_
                                have HO20004 := n1_
                                have HO20007 := n2_
                                have HO20040 := n3_
                                have HO20047 := n4_
                                have HO20053 := n5_
                                have HB := n6_
                                have HO20050 := n7_
                                clear n0_ n1_ n2_ n3_ n4_ n5_ n6_ n7_
                                clear ho hb hg hat
                                refine hK.out _ _ ⟨(blk_cell BK20001.out 0).trans rfl, (blk_cell BK20001.out 1).trans rfl, (blk_cell BK20001.out 2).trans rfl, ((HB.out.cell (World.block_lt_of_cell? w _ hw20044_0)).trans hw20044_0), ((HB.out.cell (World.block_lt_of_cell? w _ hw20044_1)).trans hw20044_1), ((HB.out.cell (World.block_lt_of_cell? w _ hw20044_2)).trans hw20044_2)⟩ (fun hHeld => ?_)
                                clear hK K
                                refine norm_ (a' := ?_) ?_ ?_
                                rotate_left
                                · show Act.put _ (some 64) _ = _
                                  simp only [Act.put, List.setIfInBounds_toArray, List.set_cons_zero, List.set_cons_succ, i64_w, i32_w]
                                  rfl
                                exact norm_ (by first | (simp only [putAll, Act.put, List.setIfInBounds_toArray, List.set_cons_zero, List.set_cons_succ]; done) | (simp only [putAll, Act.put, List.setIfInBounds_toArray, List.set_cons_zero, List.set_cons_succ]; rfl)) (hJ5_6_10_11 (.slice Ao90 t20045.length co90, v20049, v20052) _ ⟨hHeld, (by (with_reducible repeat (first | apply Kd.R_alloc | apply Kd.R_drewN | apply Kd.R_drew)); exact HO20004.out), (by (with_reducible repeat (first | apply Kd.R_alloc | apply Kd.R_drewN | apply Kd.R_drew)); exact HO20007.out), (by (with_reducible repeat (first | apply Kd.R_alloc | apply Kd.R_drewN | apply Kd.R_drew)); exact HO20040.out), (by (with_reducible repeat (first | apply Kd.R_alloc | apply Kd.R_drewN | apply Kd.R_drew)); exact HO20047.out), (by (with_reducible repeat (first | apply Kd.R_alloc | apply Kd.R_drewN | apply Kd.R_drew)); exact HO20050.out), (by (with_reducible repeat (first | apply Kd.R_alloc | apply Kd.R_drewN | apply Kd.R_drew)); exact HO20053.out), (by (with_reducible repeat (first | refine blk_drewN ?_ _ | refine blk_drew ?_ | refine blk_alloc ?_ _)); exact BK20001.out), (by repeat (first | (with_reducible first | exact HB.out | apply below_alloc | apply pw_below_drewN | apply below_drew1 | refine below_set ?_ GE20001.out) | exact HB.out))⟩)
                              · skip
                                refine Kd.R_lit_step Kd.string _ 9 ?hg (N := 70) ?hd (xs := ([strOfNums y20051] : List ByteArray)) (inner := [.string (strOfNums y20051)]) (ok := fun _ => True) (okp := fun _ => True) ?hr ?hp (fun _ hk => hk) trivial (Below.refl _ _) (Nat.le_refl _) (by simp) ?_; (case hd => rfl); (case hg => rfl); (case hr => first | (go_simp; done) | (go_simp; rfl)); (case hp => exact (Reps.one (show Kd.M Kd.string _ _ _ (strOfNums y20051) [.string (strOfNums y20051)] from rfl) (Reps.none _ _)))
                                intro v20055 w89 ho90 hb hg_ hnew_
                                clear hg_ hnew_
                                (first | rw [← Ny20054.out] at ho90 | (simp only [Int.reduceToNat] at ho90; rw [← Ny20054.out] at ho90))
                                have n0_ := Aside0.mk (Kd.R_below (by (with_reducible repeat (first | apply Kd.R_alloc | apply Kd.R_drewN | apply Kd.R_drew)); exact HO20004.out) hb)
                                have n1_ := Aside0.mk (Kd.R_below (by (with_reducible repeat (first | apply Kd.R_alloc | apply Kd.R_drewN | apply Kd.R_drew)); exact HO20007.out) hb)
                                have n2_ := Aside0.mk (Kd.R_elder' (by (with_reducible repeat (first | apply Kd.R_alloc | apply Kd.R_drewN | apply Kd.R_drew)); exact HO20040.out) (Kd.R_base ho90) hb)
                                have n3_ := Aside0.mk (Kd.R_elder' (by (with_reducible repeat (first | apply Kd.R_alloc | apply Kd.R_drewN | apply Kd.R_drew)); exact HO20043.out) (Kd.R_base ho90) hb)
                                have n4_ := Aside0.mk (Kd.R_elder' (by (with_reducible repeat (first | apply Kd.R_alloc | apply Kd.R_drewN | apply Kd.R_drew)); exact HO20047.out) (Kd.R_base ho90) hb)
                                have n5_ := Aside0.mk (Kd.R_below (by (with_reducible repeat (first | apply Kd.R_alloc | apply Kd.R_drewN | apply Kd.R_drew)); exact HO20053.out) hb)
                                have n6_ := Aside0.mk (Kd.R_lower (Kd.R_new' (Kd.R_new' (Kd.R_new' ho90 (Kd.R_lt (by (with_reducible repeat (first | apply Kd.R_alloc | apply Kd.R_drewN | apply Kd.R_drew)); exact HO20040.out))) (Kd.R_lt (by (with_reducible repeat (first | apply Kd.R_alloc | apply Kd.R_drewN | apply Kd.R_drew)); exact HO20043.out))) (Kd.R_lt (by (with_reducible repeat (first | apply Kd.R_alloc | apply Kd.R_drewN | apply Kd.R_drew)); exact HO20047.out))) (below_size (by repeat (first | (with_reducible first | exact HB.out | apply below_alloc | apply pw_below_drewN | apply below_drew1 | refine below_set ?_ GE20001.out) | exact HB.out))))
                                have n7_ := Aside0.mk (blk_below (g := gb20001) (o := .cells #[.int .u8 a0_0, .int .u8 a0_1, .slice (some ad20021) l0_2.length c0_2] 38 (0, 0)) (by (with_reducible repeat (first | refine blk_drewN ?_ _ | refine blk_drew ?_ | refine blk_alloc ?_ _)); exact BK20001.out) hb)
                                have n8_ := Aside0.mk (below_step (by repeat (first | (with_reducible first | exact HB.out | apply below_alloc | apply pw_below_drewN | apply below_drew1 | refine below_set ?_ GE20001.out) | exact HB.out)) hb)
                                clear HO20004
                                clear HO20007
                                clear HO20040
                                clear HO20043
                                clear HO20047
                                clear HO20053
                                clear BK20001
                                clear HB
                                have HO20004 := n0_
                                have HO20007 := n1_
                                have HO20040 := n2_
                                have HO20043 := n3_
                                have HO20047 := n4_
                                have HO20053 := n5_
                                have HO20056 := n6_
                                have BK20001 := n7_
                                have HB := n8_
                                clear n0_ n1_ n2_ n3_ n4_ n5_ n6_ n7_ n8_
                                clear hb ho90
                                refine hK.out _ _ ⟨(blk_cell BK20001.out 0).trans rfl, (blk_cell BK20001.out 1).trans rfl, (blk_cell BK20001.out 2).trans rfl, ((HB.out.cell (World.block_lt_of_cell? w _ hw20044_0)).trans hw20044_0), ((HB.out.cell (World.block_lt_of_cell? w _ hw20044_1)).trans hw20044_1), ((HB.out.cell (World.block_lt_of_cell? w _ hw20044_2)).trans hw20044_2)⟩ (fun hHeld => ?_)
                                clear hK K
                                refine norm_ (a' := ?_) ?_ ?_
                                rotate_left
                                · show Act.put _ (some 70) _ = _
                                  simp only [Act.put, List.setIfInBounds_toArray, List.set_cons_zero, List.set_cons_succ, i64_w, i32_w]
                                  rfl
                                exact norm_ (by first | (simp only [putAll, Act.put, List.setIfInBounds_toArray, List.set_cons_zero, List.set_cons_succ]; done) | (simp only [putAll, Act.put, List.setIfInBounds_toArray, List.set_cons_zero, List.set_cons_succ]; rfl)) (hJ5_10_11_12 ((.slice Ao90 t20045.length co90 : Value), v20052, v20055) _ ⟨hHeld, (by (with_reducible repeat (first | apply Kd.R_alloc | apply Kd.R_drewN | apply Kd.R_drew)); exact HO20004.out), (by (with_reducible repeat (first | apply Kd.R_alloc | apply Kd.R_drewN | apply Kd.R_drew)); exact HO20007.out), (by (with_reducible repeat (first | apply Kd.R_alloc | apply Kd.R_drewN | apply Kd.R_drew)); exact Kd.R_mono HO20040.out (fun _ hk => ⟨hk.1.1, ⟨hk.1.2, hk.2⟩⟩)), (by (with_reducible repeat (first | apply Kd.R_alloc | apply Kd.R_drewN | apply Kd.R_drew)); exact Kd.R_mono HO20043.out (fun _ hk => ⟨hk.1.1, ⟨hk.1.2, hk.2⟩⟩)), (by (with_reducible repeat (first | apply Kd.R_alloc | apply Kd.R_drewN | apply Kd.R_drew)); exact Kd.R_mono HO20047.out (fun _ hk => ⟨hk.1.1, ⟨hk.1.2, hk.2⟩⟩)), (by (with_reducible repeat (first | apply Kd.R_alloc | apply Kd.R_drewN | apply Kd.R_drew)); exact HO20053.out), (by (with_reducible repeat (first | apply Kd.R_alloc | apply Kd.R_drewN | apply Kd.R_drew)); exact Kd.R_mono HO20056.out (fun _ hk => ⟨hk.1.1.2, ⟨hk.1.2, hk.2⟩⟩)), (by (with_reducible repeat (first | refine blk_drewN ?_ _ | refine blk_drew ?_ | refine blk_alloc ?_ _)); exact BK20001.out), (by repeat (first | (with_reducible first | exact HB.out | apply below_alloc | apply pw_below_drewN | apply below_drew1 | refine below_set ?_ GE20001.out) | exact HB.out))⟩)
                          · skip
                            rintro ⟨v20046, v20049, v20052⟩ w89 ⟨hS_, h0_, h1_, h2_, h3_, h4_, h5_, h6_, h7_⟩
                            have n0_ : Aside0 (Kd.R (Kd.int .u8) 5 w89 w.heap.size (fun k_ => some k_ ≠ (v20006 : Value).ownBlock ∧ some k_ ≠ (v20052 : Value).ownBlock) v20003 y20002) := ⟨h0_⟩
                            have n1_ : Aside0 (Kd.R (Kd.int .u8) 5 w89 w.heap.size (fun k_ => some k_ ≠ (v20003 : Value).ownBlock ∧ some k_ ≠ (v20052 : Value).ownBlock) v20006 y20005) := ⟨h1_⟩
                            have n2_ : Aside0 (Kd.R Kd.string 9 w89 w.heap.size (fun k_ => some k_ ≠ (v20046 : Value).ownBlock ∧ some k_ ≠ (v20049 : Value).ownBlock) (.slice Ao81 y20038.length co81) y20038) := ⟨h2_⟩
                            have n3_ : Aside0 (Kd.R Kd.string 9 w89 w.heap.size (fun k_ => some k_ ≠ (.slice Ao81 y20038.length co81 : Value).ownBlock ∧ some k_ ≠ (v20049 : Value).ownBlock) v20046 t20045) := ⟨h3_⟩
                            have n4_ : Aside0 (Kd.R Kd.string 9 w89 w.heap.size (fun k_ => some k_ ≠ (.slice Ao81 y20038.length co81 : Value).ownBlock ∧ some k_ ≠ (v20046 : Value).ownBlock) v20049 y20048) := ⟨h4_⟩
                            have n5_ : Aside0 (Kd.R (Kd.int .u8) 5 w89 w.heap.size (fun k_ => some k_ ≠ (v20003 : Value).ownBlock ∧ some k_ ≠ (v20006 : Value).ownBlock) v20052 y20051) := ⟨h5_⟩
                            have n6_ : Aside0 (w89.heap[gb20001]? = some (.cells #[.int .u8 a0_0, .int .u8 a0_1, .slice (some ad20021) l0_2.length c0_2] 38 (0, 0))) := ⟨h6_⟩
                            have n7_ : Aside0 (Below w.heap.size w w89) := ⟨h7_⟩
                            clear HO20004
                            clear HO20007
                            clear HO20040
                            clear HO20043
                            clear BK20001
                            clear HB
                            clear h0_ h1_ h2_ h3_ h4_ h5_ h6_ h7_
                            have HO20004 := n0_
                            have HO20007 := n1_
                            have HO20040 := n2_
                            have HO20047 := n3_
                            have HO20050 := n4_
                            have HO20053 := n5_
                            have BK20001 := n6_
                            have HB := n7_
                            clear n0_ n1_ n2_ n3_ n4_ n5_ n6_ n7_
                            have hHeld : w89.cell? ⟨gb20001, 0, none⟩ = some (.int .u8 a0_0) ∧ w89.cell? ⟨gb20001, 1, none⟩ = some (.int .u8 a0_1) ∧ w89.cell? ⟨gb20001, 2, none⟩ = some (.slice (some ad20021) l0_2.length c0_2) ∧ w89.cell? ⟨ad20021.block, ad20021.off + 3, none⟩ = some (.int .u8 ((rd_T38 l0_2 1).f0)) ∧ w89.cell? ⟨ad20021.block, ad20021.off + 3 + 1, none⟩ = some (.int .u8 ((rd_T38 l0_2 1).f1)) ∧ w89.cell? ⟨ad20021.block, ad20021.off + 3 + 2, none⟩ = some (.slice A20044_2 ((rd_T38 l0_2 1).f2).length c20044_2) := hS_
                            refine norm_ (a' := ?_) ?_ ?_
                            rotate_left
                            · simp only [putAll, Act.put, List.setIfInBounds_toArray, List.set_cons_zero, List.set_cons_succ]
                              rfl
                            refine one_ (i := 11) (N := some 69) #[true, true, true, true, true, true, true, true, true, true, true, true, false, false, false] rfl rfl (one_of HT_.out (by kernel_rfl)) (by decide) (fun K hK => ?_)
                            have hcv90 := own_string (P := Try.prog) Try.underlying33 Try.underlying5 Try.underlying9 (Kd.own_of_R HO20053.out)
                            refine value_ (w1 := ?_) (v := ?_) (by rfl) rfl ?_ ?_
                            rotate_left 2
                            · go_simp
                              constructor
                              · rfl
                              · rfl
                            clear hcv90
                            refine hK.out _ _ ⟨(blk_cell BK20001.out 0).trans rfl, (blk_cell BK20001.out 1).trans rfl, (blk_cell BK20001.out 2).trans rfl, ((HB.out.cell (World.block_lt_of_cell? w _ hw20044_0)).trans hw20044_0), ((HB.out.cell (World.block_lt_of_cell? w _ hw20044_1)).trans hw20044_1), ((HB.out.cell (World.block_lt_of_cell? w _ hw20044_2)).trans hw20044_2)⟩ (fun hHeld => ?_)
                            clear hK K
                            refine norm_ (a' := ?_) ?_ ?_
                            rotate_left
                            · show Act.put _ (some 69) _ = _
                              simp only [Act.put, List.setIfInBounds_toArray, List.set_cons_zero, List.set_cons_succ, i64_w, i32_w]
                              rfl
                            exact norm_ (by first | (simp only [putAll, Act.put, List.setIfInBounds_toArray, List.set_cons_zero, List.set_cons_succ]; done) | (simp only [putAll, Act.put, List.setIfInBounds_toArray, List.set_cons_zero, List.set_cons_succ]; rfl)) (hJ5_6_10_11 (v20046, v20049, v20052) _ ⟨hHeld, (by (with_reducible repeat (first | apply Kd.R_alloc | apply Kd.R_drewN | apply Kd.R_drew)); exact HO20004.out), (by (with_reducible repeat (first | apply Kd.R_alloc | apply Kd.R_drewN | apply Kd.R_drew)); exact HO20007.out), (by (with_reducible repeat (first | apply Kd.R_alloc | apply Kd.R_drewN | apply Kd.R_drew)); exact HO20040.out), (by (with_reducible repeat (first | apply Kd.R_alloc | apply Kd.R_drewN | apply Kd.R_drew)); exact HO20047.out), (by (with_reducible repeat (first | apply Kd.R_alloc | apply Kd.R_drewN | apply Kd.R_drew)); exact HO20050.out), (by (with_reducible repeat (first | apply Kd.R_alloc | apply Kd.R_drewN | apply Kd.R_drew)); exact HO20053.out), (by (with_reducible repeat (first | refine blk_drewN ?_ _ | refine blk_drew ?_ | refine blk_alloc ?_ _)); exact BK20001.out), (by repeat (first | (with_reducible first | exact HB.out | apply below_alloc | apply pw_below_drewN | apply below_drew1 | refine below_set ?_ GE20001.out) | exact HB.out))⟩)
                        · skip
                          rintro ⟨v20046, v20052, v20055⟩ w90 ⟨hS_, h0_, h1_, h2_, h3_, h4_, h5_, h6_, h7_, h8_⟩
                          have n0_ : Aside0 (Kd.R (Kd.int .u8) 5 w90 w.heap.size (fun k_ => some k_ ≠ (v20006 : Value).ownBlock ∧ some k_ ≠ (v20052 : Value).ownBlock) v20003 y20002) := ⟨h0_⟩
                          have n1_ : Aside0 (Kd.R (Kd.int .u8) 5 w90 w.heap.size (fun k_ => some k_ ≠ (v20003 : Value).ownBlock ∧ some k_ ≠ (v20052 : Value).ownBlock) v20006 y20005) := ⟨h1_⟩
                          have n2_ : Aside0 (Kd.R Kd.string 9 w90 w.heap.size (fun k_ => some k_ ≠ (.slice Ao82 y20041.length co82 : Value).ownBlock ∧ some k_ ≠ (v20046 : Value).ownBlock ∧ some k_ ≠ (v20055 : Value).ownBlock) (.slice Ao81 y20038.length co81) y20038) := ⟨h2_⟩
                          have n3_ : Aside0 (Kd.R Kd.string 9 w90 w.heap.size (fun k_ => some k_ ≠ (.slice Ao81 y20038.length co81 : Value).ownBlock ∧ some k_ ≠ (v20046 : Value).ownBlock ∧ some k_ ≠ (v20055 : Value).ownBlock) (.slice Ao82 y20041.length co82) y20041) := ⟨h3_⟩
                          have n4_ : Aside0 (Kd.R Kd.string 9 w90 w.heap.size (fun k_ => some k_ ≠ (.slice Ao81 y20038.length co81 : Value).ownBlock ∧ some k_ ≠ (.slice Ao82 y20041.length co82 : Value).ownBlock ∧ some k_ ≠ (v20055 : Value).ownBlock) v20046 t20045) := ⟨h4_⟩
                          have n5_ : Aside0 (Kd.R (Kd.int .u8) 5 w90 w.heap.size (fun k_ => some k_ ≠ (v20003 : Value).ownBlock ∧ some k_ ≠ (v20006 : Value).ownBlock) v20052 y20051) := ⟨h5_⟩
                          have n6_ : Aside0 (Kd.R Kd.string 9 w90 w.heap.size (fun k_ => some k_ ≠ (.slice Ao81 y20038.length co81 : Value).ownBlock ∧ some k_ ≠ (.slice Ao82 y20041.length co82 : Value).ownBlock ∧ some k_ ≠ (v20046 : Value).ownBlock) v20055 y20054) := ⟨h6_⟩
                          have n7_ : Aside0 (w90.heap[gb20001]? = some (.cells #[.int .u8 a0_0, .int .u8 a0_1, .slice (some ad20021) l0_2.length c0_2] 38 (0, 0))) := ⟨h7_⟩
                          have n8_ : Aside0 (Below w.heap.size w w90) := ⟨h8_⟩
                          clear HO20004
                          clear HO20007
                          clear HO20040
                          clear HO20043
                          clear BK20001
                          clear HB
                          clear h0_ h1_ h2_ h3_ h4_ h5_ h6_ h7_ h8_
                          have HO20004 := n0_
                          have HO20007 := n1_
                          have HO20040 := n2_
                          have HO20043 := n3_
                          have HO20047 := n4_
                          have HO20053 := n5_
                          have HO20056 := n6_
                          have BK20001 := n7_
                          have HB := n8_
                          clear n0_ n1_ n2_ n3_ n4_ n5_ n6_ n7_ n8_
                          have hHeld : w90.cell? ⟨gb20001, 0, none⟩ = some (.int .u8 a0_0) ∧ w90.cell? ⟨gb20001, 1, none⟩ = some (.int .u8 a0_1) ∧ w90.cell? ⟨gb20001, 2, none⟩ = some (.slice (some ad20021) l0_2.length c0_2) ∧ w90.cell? ⟨ad20021.block, ad20021.off + 3, none⟩ = some (.int .u8 ((rd_T38 l0_2 1).f0)) ∧ w90.cell? ⟨ad20021.block, ad20021.off + 3 + 1, none⟩ = some (.int .u8 ((rd_T38 l0_2 1).f1)) ∧ w90.cell? ⟨ad20021.block, ad20021.off + 3 + 2, none⟩ = some (.slice A20044_2 ((rd_T38 l0_2 1).f2).length c20044_2) := hS_
                          obtain ⟨Ao92, co92, eo92⟩ := Kd.R_slice HO20047.out
                          (first | subst eo92 | (injection eo92 with f1_ f2_ f3_; have f4_ := f1_.symm; have f5_ := f3_.symm; clear f1_ f2_ f3_; subst f4_; subst f5_))
                          refine norm_ (a' := ?_) ?_ ?_
                          rotate_left
                          · simp only [putAll, Act.put, List.setIfInBounds_toArray, List.set_cons_zero, List.set_cons_succ]
                            rfl
                          refine one_ (i := 6) (N := some 64) #[true, true, true, true, true, true, true, true, true, true, true, true, true, false, false] rfl rfl (one_of HT_.out (by kernel_rfl)) (by decide) (fun K hK => ?_)
                          refine Kd.R_append_rows_step Kd.string (w0 := w) w.heap.size (by rfl) (.tmp 58) (.tmp 63) 25 9 (.string ⟨#[]⟩) 16 rfl Try.underlying25 info9 rfl (by decide) (by omega) (.slice Ao82 y20041.length co82) y20041 t20045 _ _ _ (fun k_ => some k_ ≠ (.slice Ao81 y20038.length co81 : Value).ownBlock ∧ some k_ ≠ (.slice Ao92 t20045.length co92 : Value).ownBlock ∧ some k_ ≠ (v20055 : Value).ownBlock) (fun _ => False) rfl rfl ?aO ?aR (fun _ _ h => h) (fun _ h => h.elim) ?aF ?aB ?aS ?aL ?_
                          (case aR => repeat (first | exact (Kd.R_reads' HO20047.out).2.2 | (with_reducible refine Kd.C_alloc ?_ _) | (with_reducible refine Kd.C_drewN ?_ _) | (with_reducible refine Kd.C_drew ?_)))
                          (case aB => exact (by repeat (first | (with_reducible first | exact HB.out | apply below_alloc | apply pw_below_drewN | apply below_drew1 | refine below_set ?_ GE20001.out) | exact HB.out)))
                          (case aF => exact (fun k_ hk => ⟨Kd.fresh' (Kd.R_lt (by (with_reducible repeat (first | apply Kd.R_alloc | apply Kd.R_drewN | apply Kd.R_drew)); exact HO20040.out)) k_ hk, Kd.fresh' (Kd.R_lt (by (with_reducible repeat (first | apply Kd.R_alloc | apply Kd.R_drewN | apply Kd.R_drew)); exact HO20047.out)) k_ hk, Kd.fresh' (Kd.R_lt (by (with_reducible repeat (first | apply Kd.R_alloc | apply Kd.R_drewN | apply Kd.R_drew)); exact HO20056.out)) k_ hk⟩))
                          (case aO => exact (by (with_reducible repeat (first | apply Kd.R_alloc | apply Kd.R_drewN | apply Kd.R_drew)); exact HO20043.out))
                          (case aS => exact (below_size (by repeat (first | (with_reducible first | exact HB.out | apply below_alloc | apply pw_below_drewN | apply below_drew1 | refine below_set ?_ GE20001.out) | exact HB.out))))
                          (case aL => have := LMc64.out; omega)
                          intro v20049 w91 ho hb hg hat
                          rw [← Ny20048.out] at ho
                          have n0_ := Aside0.mk (blk_grown (g := gb20001) (o := .cells #[.int .u8 a0_0, .int .u8 a0_1, .slice (some ad20021) l0_2.length c0_2] 38 (0, 0)) (by (with_reducible repeat (first | refine blk_drewN ?_ _ | refine blk_drew ?_ | refine blk_alloc ?_ _)); exact BK20001.out) hg (Kd.R_ne HO20043.out BK20001.out (by decide)))
                          have n1_ := Aside0.mk (Kd.R_over' (by (with_reducible repeat (first | apply Kd.R_alloc | apply Kd.R_drewN | apply Kd.R_drew)); exact HO20004.out) (Kd.R_typed (by (with_reducible repeat (first | apply Kd.R_alloc | apply Kd.R_drewN | apply Kd.R_drew)); exact HO20043.out)) (by decide) hg)
                          have n2_ := Aside0.mk (Kd.R_over' (by (with_reducible repeat (first | apply Kd.R_alloc | apply Kd.R_drewN | apply Kd.R_drew)); exact HO20007.out) (Kd.R_typed (by (with_reducible repeat (first | apply Kd.R_alloc | apply Kd.R_drewN | apply Kd.R_drew)); exact HO20043.out)) (by decide) hg)
                          have n3_ := Aside0.mk (Kd.R_after (ok := (fun k_ => some k_ ≠ (.slice Ao92 t20045.length co92 : Value).ownBlock ∧ some k_ ≠ (v20055 : Value).ownBlock)) (by (with_reducible repeat (first | apply Kd.R_alloc | apply Kd.R_drewN | apply Kd.R_drew)); exact Kd.R_mono HO20040.out (fun _ hk => ⟨⟨hk.2.1, hk.2.2⟩, hk.1⟩)) hg hat)
                          have n4_ := Aside0.mk (Kd.R_after (ok := (fun k_ => some k_ ≠ (.slice Ao81 y20038.length co81 : Value).ownBlock ∧ some k_ ≠ (v20055 : Value).ownBlock)) (by (with_reducible repeat (first | apply Kd.R_alloc | apply Kd.R_drewN | apply Kd.R_drew)); exact Kd.R_mono HO20047.out (fun _ hk => ⟨⟨hk.1, hk.2.2⟩, hk.2.1⟩)) hg hat)
                          have n5_ := Aside0.mk (Kd.R_over' (by (with_reducible repeat (first | apply Kd.R_alloc | apply Kd.R_drewN | apply Kd.R_drew)); exact HO20053.out) (Kd.R_typed (by (with_reducible repeat (first | apply Kd.R_alloc | apply Kd.R_drewN | apply Kd.R_drew)); exact HO20043.out)) (by decide) hg)
                          have n6_ := Aside0.mk (Kd.R_after (ok := (fun k_ => some k_ ≠ (.slice Ao81 y20038.length co81 : Value).ownBlock ∧ some k_ ≠ (.slice Ao92 t20045.length co92 : Value).ownBlock)) (by (with_reducible repeat (first | apply Kd.R_alloc | apply Kd.R_drewN | apply Kd.R_drew)); exact Kd.R_mono HO20056.out (fun _ hk => ⟨⟨hk.1, hk.2.2⟩, hk.2.1⟩)) hg hat)
                          have n7_ := Aside0.mk (hb)
                          have n8_ := Aside0.mk (ho)
                          clear BK20001
                          clear HO20004
                          clear HO20007
                          clear HO20040
                          clear HO20047
                          clear HO20053
                          clear HO20056
                          clear HB
                          clear HO20043
                          have BK20001 := n0_
                          have HO20004 := n1_
                          have HO20007 := n2_
                          have HO20040 := n3_
                          have HO20047 := n4_
                          have HO20053 := n5_
                          have HO20056 := n6_
                          have HB := n7_
                          have HO20050 := n8_
                          clear n0_ n1_ n2_ n3_ n4_ n5_ n6_ n7_ n8_
                          clear ho hb hg hat
                          refine hK.out _ _ ⟨(blk_cell BK20001.out 0).trans rfl, (blk_cell BK20001.out 1).trans rfl, (blk_cell BK20001.out 2).trans rfl, ((HB.out.cell (World.block_lt_of_cell? w _ hw20044_0)).trans hw20044_0), ((HB.out.cell (World.block_lt_of_cell? w _ hw20044_1)).trans hw20044_1), ((HB.out.cell (World.block_lt_of_cell? w _ hw20044_2)).trans hw20044_2)⟩ (fun hHeld => ?_)
                          clear hK K
                          refine norm_ (a' := ?_) ?_ ?_
                          rotate_left
                          · show Act.put _ (some 64) _ = _
                            simp only [Act.put, List.setIfInBounds_toArray, List.set_cons_zero, List.set_cons_succ, i64_w, i32_w]
                            rfl
                          exact norm_ (by first | (simp only [putAll, Act.put, List.setIfInBounds_toArray, List.set_cons_zero, List.set_cons_succ]; done) | (simp only [putAll, Act.put, List.setIfInBounds_toArray, List.set_cons_zero, List.set_cons_succ]; rfl)) (hJ5_6_10_11_12 (.slice Ao92 t20045.length co92, v20049, v20052, v20055) _ ⟨hHeld, (by (with_reducible repeat (first | apply Kd.R_alloc | apply Kd.R_drewN | apply Kd.R_drew)); exact HO20004.out), (by (with_reducible repeat (first | apply Kd.R_alloc | apply Kd.R_drewN | apply Kd.R_drew)); exact HO20007.out), (by (with_reducible repeat (first | apply Kd.R_alloc | apply Kd.R_drewN | apply Kd.R_drew)); exact Kd.R_mono HO20040.out (fun _ hk => ⟨hk.1.1, ⟨hk.2, hk.1.2⟩⟩)), (by (with_reducible repeat (first | apply Kd.R_alloc | apply Kd.R_drewN | apply Kd.R_drew)); exact Kd.R_mono HO20047.out (fun _ hk => ⟨hk.1.1, ⟨hk.2, hk.1.2⟩⟩)), (by (with_reducible repeat (first | apply Kd.R_alloc | apply Kd.R_drewN | apply Kd.R_drew)); exact HO20050.out), (by (with_reducible repeat (first | apply Kd.R_alloc | apply Kd.R_drewN | apply Kd.R_drew)); exact HO20053.out), (by (with_reducible repeat (first | apply Kd.R_alloc | apply Kd.R_drewN | apply Kd.R_drew)); exact Kd.R_mono HO20056.out (fun _ hk => ⟨hk.1.1, ⟨hk.1.2, hk.2⟩⟩)), (by (with_reducible repeat (first | refine blk_drewN ?_ _ | refine blk_drew ?_ | refine blk_alloc ?_ _)); exact BK20001.out), (by repeat (first | (with_reducible first | exact HB.out | apply below_alloc | apply pw_below_drewN | apply below_drew1 | refine below_set ?_ GE20001.out) | exact HB.out))⟩)
                      · skip
                        rintro ⟨v20046, v20049, v20052⟩ w90 ⟨hS_, h0_, h1_, h2_, h3_, h4_, h5_, h6_, h7_⟩
                        have n0_ : Aside0 (Kd.R (Kd.int .u8) 5 w90 w.heap.size (fun k_ => some k_ ≠ (v20006 : Value).ownBlock ∧ some k_ ≠ (v20052 : Value).ownBlock) v20003 y20002) := ⟨h0_⟩
                        have n1_ : Aside0 (Kd.R (Kd.int .u8) 5 w90 w.heap.size (fun k_ => some k_ ≠ (v20003 : Value).ownBlock ∧ some k_ ≠ (v20052 : Value).ownBlock) v20006 y20005) := ⟨h1_⟩
                        have n2_ : Aside0 (Kd.R Kd.string 9 w90 w.heap.size (fun k_ => some k_ ≠ (v20046 : Value).ownBlock ∧ some k_ ≠ (v20049 : Value).ownBlock) (.slice Ao81 y20038.length co81) y20038) := ⟨h2_⟩
                        have n3_ : Aside0 (Kd.R Kd.string 9 w90 w.heap.size (fun k_ => some k_ ≠ (.slice Ao81 y20038.length co81 : Value).ownBlock ∧ some k_ ≠ (v20049 : Value).ownBlock) v20046 t20045) := ⟨h3_⟩
                        have n4_ : Aside0 (Kd.R Kd.string 9 w90 w.heap.size (fun k_ => some k_ ≠ (.slice Ao81 y20038.length co81 : Value).ownBlock ∧ some k_ ≠ (v20046 : Value).ownBlock) v20049 y20048) := ⟨h4_⟩
                        have n5_ : Aside0 (Kd.R (Kd.int .u8) 5 w90 w.heap.size (fun k_ => some k_ ≠ (v20003 : Value).ownBlock ∧ some k_ ≠ (v20006 : Value).ownBlock) v20052 y20051) := ⟨h5_⟩
                        have n6_ : Aside0 (w90.heap[gb20001]? = some (.cells #[.int .u8 a0_0, .int .u8 a0_1, .slice (some ad20021) l0_2.length c0_2] 38 (0, 0))) := ⟨h6_⟩
                        have n7_ : Aside0 (Below w.heap.size w w90) := ⟨h7_⟩
                        clear HO20004
                        clear HO20007
                        clear HO20040
                        clear HO20043
                        clear BK20001
                        clear HB
                        clear h0_ h1_ h2_ h3_ h4_ h5_ h6_ h7_
                        have HO20004 := n0_
                        have HO20007 := n1_
                        have HO20040 := n2_
                        have HO20047 := n3_
                        have HO20050 := n4_
                        have HO20053 := n5_
                        have BK20001 := n6_
                        have HB := n7_
                        clear n0_ n1_ n2_ n3_ n4_ n5_ n6_ n7_
                        have hHeld : w90.cell? ⟨gb20001, 0, none⟩ = some (.int .u8 a0_0) ∧ w90.cell? ⟨gb20001, 1, none⟩ = some (.int .u8 a0_1) ∧ w90.cell? ⟨gb20001, 2, none⟩ = some (.slice (some ad20021) l0_2.length c0_2) ∧ w90.cell? ⟨ad20021.block, ad20021.off + 3, none⟩ = some (.int .u8 ((rd_T38 l0_2 1).f0)) ∧ w90.cell? ⟨ad20021.block, ad20021.off + 3 + 1, none⟩ = some (.int .u8 ((rd_T38 l0_2 1).f1)) ∧ w90.cell? ⟨ad20021.block, ad20021.off + 3 + 2, none⟩ = some (.slice A20044_2 ((rd_T38 l0_2 1).f2).length c20044_2) := hS_
                        refine norm_ (a' := ?_) ?_ ?_
                        rotate_left
                        · simp only [putAll, Act.put, List.setIfInBounds_toArray, List.set_cons_zero, List.set_cons_succ]
                          rfl
                        refine one_ (i := 12) (N := some 70) #[true, true, true, true, true, true, true, true, true, true, true, true, true, false, false] rfl rfl (one_of HT_.out (by kernel_rfl)) (by decide) (fun K hK => ?_)
                        refine Kd.R_lit_step Kd.string _ 9 ?hg (N := 70) ?hd (xs := ([strOfNums y20051] : List ByteArray)) (inner := [.string (strOfNums y20051)]) (ok := fun _ => True) (okp := fun _ => True) ?hr ?hp (fun _ hk => hk) trivial (Below.refl _ _) (Nat.le_refl _) (by simp) ?_; (case hd => rfl); (case hg => rfl); (case hr => first | (go_simp; done) | (go_simp; rfl)); (case hp => exact (Reps.one (show Kd.M Kd.string _ _ _ (strOfNums y20051) [.string (strOfNums y20051)] from rfl) (Reps.none _ _)))
                        intro v20055 w91 ho92 hb hg_ hnew_
                        clear hg_ hnew_
                        (first | rw [← Ny20054.out] at ho92 | (simp only [Int.reduceToNat] at ho92; rw [← Ny20054.out] at ho92))
                        have n0_ := Aside0.mk (Kd.R_below (by (with_reducible repeat (first | apply Kd.R_alloc | apply Kd.R_drewN | apply Kd.R_drew)); exact HO20004.out) hb)
                        have n1_ := Aside0.mk (Kd.R_below (by (with_reducible repeat (first | apply Kd.R_alloc | apply Kd.R_drewN | apply Kd.R_drew)); exact HO20007.out) hb)
                        have n2_ := Aside0.mk (Kd.R_elder' (by (with_reducible repeat (first | apply Kd.R_alloc | apply Kd.R_drewN | apply Kd.R_drew)); exact HO20040.out) (Kd.R_base ho92) hb)
                        have n3_ := Aside0.mk (Kd.R_elder' (by (with_reducible repeat (first | apply Kd.R_alloc | apply Kd.R_drewN | apply Kd.R_drew)); exact HO20047.out) (Kd.R_base ho92) hb)
                        have n4_ := Aside0.mk (Kd.R_elder' (by (with_reducible repeat (first | apply Kd.R_alloc | apply Kd.R_drewN | apply Kd.R_drew)); exact HO20050.out) (Kd.R_base ho92) hb)
                        have n5_ := Aside0.mk (Kd.R_below (by (with_reducible repeat (first | apply Kd.R_alloc | apply Kd.R_drewN | apply Kd.R_drew)); exact HO20053.out) hb)
                        have n6_ := Aside0.mk (Kd.R_lower (Kd.R_new' (Kd.R_new' (Kd.R_new' ho92 (Kd.R_lt (by (with_reducible repeat (first | apply Kd.R_alloc | apply Kd.R_drewN | apply Kd.R_drew)); exact HO20040.out))) (Kd.R_lt (by (with_reducible repeat (first | apply Kd.R_alloc | apply Kd.R_drewN | apply Kd.R_drew)); exact HO20047.out))) (Kd.R_lt (by (with_reducible repeat (first | apply Kd.R_alloc | apply Kd.R_drewN | apply Kd.R_drew)); exact HO20050.out))) (below_size (by repeat (first | (with_reducible first | exact HB.out | apply below_alloc | apply pw_below_drewN | apply below_drew1 | refine below_set ?_ GE20001.out) | exact HB.out))))
                        have n7_ := Aside0.mk (blk_below (g := gb20001) (o := .cells #[.int .u8 a0_0, .int .u8 a0_1, .slice (some ad20021) l0_2.length c0_2] 38 (0, 0)) (by (with_reducible repeat (first | refine blk_drewN ?_ _ | refine blk_drew ?_ | refine blk_alloc ?_ _)); exact BK20001.out) hb)
                        have n8_ := Aside0.mk (below_step (by repeat (first | (with_reducible first | exact HB.out | apply below_alloc | apply pw_below_drewN | apply below_drew1 | refine below_set ?_ GE20001.out) | exact HB.out)) hb)
                        clear HO20004
                        clear HO20007
                        clear HO20040
                        clear HO20047
                        clear HO20050
                        clear HO20053
                        clear BK20001
                        clear HB
                        have HO20004 := n0_
                        have HO20007 := n1_
                        have HO20040 := n2_
                        have HO20047 := n3_
                        have HO20050 := n4_
                        have HO20053 := n5_
                        have HO20056 := n6_
                        have BK20001 := n7_
                        have HB := n8_
                        clear n0_ n1_ n2_ n3_ n4_ n5_ n6_ n7_ n8_
                        clear hb ho92
                        refine hK.out _ _ ⟨(blk_cell BK20001.out 0).trans rfl, (blk_cell BK20001.out 1).trans rfl, (blk_cell BK20001.out 2).trans rfl, ((HB.out.cell (World.block_lt_of_cell? w _ hw20044_0)).trans hw20044_0), ((HB.out.cell (World.block_lt_of_cell? w _ hw20044_1)).trans hw20044_1), ((HB.out.cell (World.block_lt_of_cell? w _ hw20044_2)).trans hw20044_2)⟩ (fun hHeld => ?_)
                        clear hK K
                        refine norm_ (a' := ?_) ?_ ?_
                        rotate_left
                        · show Act.put _ (some 70) _ = _
                          simp only [Act.put, List.setIfInBounds_toArray, List.set_cons_zero, List.set_cons_succ, i64_w, i32_w]
                          rfl
                        exact norm_ (by first | (simp only [putAll, Act.put, List.setIfInBounds_toArray, List.set_cons_zero, List.set_cons_succ]; done) | (simp only [putAll, Act.put, List.setIfInBounds_toArray, List.set_cons_zero, List.set_cons_succ]; rfl)) (hJ5_6_10_11_12 (v20046, v20049, v20052, v20055) _ ⟨hHeld, (by (with_reducible repeat (first | apply Kd.R_alloc | apply Kd.R_drewN | apply Kd.R_drew)); exact HO20004.out), (by (with_reducible repeat (first | apply Kd.R_alloc | apply Kd.R_drewN | apply Kd.R_drew)); exact HO20007.out), (by (with_reducible repeat (first | apply Kd.R_alloc | apply Kd.R_drewN | apply Kd.R_drew)); exact Kd.R_mono HO20040.out (fun _ hk => ⟨hk.1.1, ⟨hk.1.2, hk.2⟩⟩)), (by (with_reducible repeat (first | apply Kd.R_alloc | apply Kd.R_drewN | apply Kd.R_drew)); exact Kd.R_mono HO20047.out (fun _ hk => ⟨hk.1.1, ⟨hk.1.2, hk.2⟩⟩)), (by (with_reducible repeat (first | apply Kd.R_alloc | apply Kd.R_drewN | apply Kd.R_drew)); exact Kd.R_mono HO20050.out (fun _ hk => ⟨hk.1.1, ⟨hk.1.2, hk.2⟩⟩)), (by (with_reducible repeat (first | apply Kd.R_alloc | apply Kd.R_drewN | apply Kd.R_drew)); exact HO20053.out), (by (with_reducible repeat (first | apply Kd.R_alloc | apply Kd.R_drewN | apply Kd.R_drew)); exact Kd.R_mono HO20056.out (fun _ hk => ⟨hk.1.1.2, ⟨hk.1.2, hk.2⟩⟩)), (by (with_reducible repeat (first | refine blk_drewN ?_ _ | refine blk_drew ?_ | refine blk_alloc ?_ _)); exact BK20001.out), (by repeat (first | (with_reducible first | exact HB.out | apply below_alloc | apply pw_below_drewN | apply below_drew1 | refine below_set ?_ GE20001.out) | exact HB.out))⟩)
                    rintro ⟨v20046, v20049, v20052, v20055⟩ w92 ⟨hS_, h0_, h1_, h2_, h3_, h4_, h5_, h6_, h7_, h8_⟩
                    have n0_ : Aside0 (Kd.R (Kd.int .u8) 5 w92 w.heap.size (fun k_ => some k_ ≠ (v20006 : Value).ownBlock ∧ some k_ ≠ (v20052 : Value).ownBlock) v20003 y20002) := ⟨h0_⟩
                    have n1_ : Aside0 (Kd.R (Kd.int .u8) 5 w92 w.heap.size (fun k_ => some k_ ≠ (v20003 : Value).ownBlock ∧ some k_ ≠ (v20052 : Value).ownBlock) v20006 y20005) := ⟨h1_⟩
                    have n2_ : Aside0 (Kd.R Kd.string 9 w92 w.heap.size (fun k_ => some k_ ≠ (v20046 : Value).ownBlock ∧ some k_ ≠ (v20049 : Value).ownBlock ∧ some k_ ≠ (v20055 : Value).ownBlock) (.slice Ao81 y20038.length co81) y20038) := ⟨h2_⟩
                    have n3_ : Aside0 (Kd.R Kd.string 9 w92 w.heap.size (fun k_ => some k_ ≠ (.slice Ao81 y20038.length co81 : Value).ownBlock ∧ some k_ ≠ (v20049 : Value).ownBlock ∧ some k_ ≠ (v20055 : Value).ownBlock) v20046 t20045) := ⟨h3_⟩
                    have n4_ : Aside0 (Kd.R Kd.string 9 w92 w.heap.size (fun k_ => some k_ ≠ (.slice Ao81 y20038.length co81 : Value).ownBlock ∧ some k_ ≠ (v20046 : Value).ownBlock ∧ some k_ ≠ (v20055 : Value).ownBlock) v20049 y20048) := ⟨h4_⟩
                    have n5_ : Aside0 (Kd.R (Kd.int .u8) 5 w92 w.heap.size (fun k_ => some k_ ≠ (v20003 : Value).ownBlock ∧ some k_ ≠ (v20006 : Value).ownBlock) v20052 y20051) := ⟨h5_⟩
                    have n6_ : Aside0 (Kd.R Kd.string 9 w92 w.heap.size (fun k_ => some k_ ≠ (.slice Ao81 y20038.length co81 : Value).ownBlock ∧ some k_ ≠ (v20046 : Value).ownBlock ∧ some k_ ≠ (v20049 : Value).ownBlock) v20055 y20054) := ⟨h6_⟩
                    have n7_ : Aside0 (w92.heap[gb20001]? = some (.cells #[.int .u8 a0_0, .int .u8 a0_1, .slice (some ad20021) l0_2.length c0_2] 38 (0, 0))) := ⟨h7_⟩
                    have n8_ : Aside0 (Below w.heap.size w w92) := ⟨h8_⟩
                    clear HO20004
                    clear HO20007
                    clear HO20040
                    clear HO20043
                    clear BK20001
                    clear HB
                    clear h0_ h1_ h2_ h3_ h4_ h5_ h6_ h7_ h8_
                    have HO20004 := n0_
                    have HO20007 := n1_
                    have HO20040 := n2_
                    have HO20047 := n3_
                    have HO20050 := n4_
                    have HO20053 := n5_
                    have HO20056 := n6_
                    have BK20001 := n7_
                    have HB := n8_
                    clear n0_ n1_ n2_ n3_ n4_ n5_ n6_ n7_ n8_
                    have hHeld : w92.cell? ⟨gb20001, 0, none⟩ = some (.int .u8 a0_0) ∧ w92.cell? ⟨gb20001, 1, none⟩ = some (.int .u8 a0_1) ∧ w92.cell? ⟨gb20001, 2, none⟩ = some (.slice (some ad20021) l0_2.length c0_2) ∧ w92.cell? ⟨ad20021.block, ad20021.off + 3, none⟩ = some (.int .u8 ((rd_T38 l0_2 1).f0)) ∧ w92.cell? ⟨ad20021.block, ad20021.off + 3 + 1, none⟩ = some (.int .u8 ((rd_T38 l0_2 1).f1)) ∧ w92.cell? ⟨ad20021.block, ad20021.off + 3 + 2, none⟩ = some (.slice A20044_2 ((rd_T38 l0_2 1).f2).length c20044_2) := hS_
                    obtain ⟨Ao94, co94, eo94⟩ := Kd.R_slice HO20056.out
                    (first | subst eo94 | (injection eo94 with f1_ f2_ f3_; have f4_ := f1_.symm; have f5_ := f3_.symm; clear f1_ f2_ f3_; subst f4_; subst f5_))
                    refine norm_ (a' := ?_) ?_ ?_
                    rotate_left
                    · simp only [putAll, Act.put, List.setIfInBounds_toArray, List.set_cons_zero, List.set_cons_succ]
                      rfl
                    refine one_ (i := 13) (N := some 71) #[true, true, true, true, true, true, true, true, true, true, true, true, true, true, false] rfl rfl (one_of HT_.out (by kernel_rfl)) (by decide) (fun K hK => ?_)
                    refine Kd.R_append_rows_step Kd.string (w0 := w) w.heap.size (by rfl) (.tmp 64) (.tmp 70) 25 9 (.string ⟨#[]⟩) 16 rfl Try.underlying25 info9 rfl (by decide) (by omega) v20049 y20048 y20054 _ _ _ (fun k_ => some k_ ≠ (.slice Ao81 y20038.length co81 : Value).ownBlock ∧ some k_ ≠ (v20046 : Value).ownBlock ∧ some k_ ≠ (.slice Ao94 y20054.length co94 : Value).ownBlock) (fun _ => False) rfl rfl ?aO ?aR (fun _ _ h => h) (fun _ h => h.elim) ?aF ?aB ?aS ?aL ?_
                    (case aR => repeat (first | exact (Kd.R_reads' HO20056.out).2.2 | (with_reducible refine Kd.C_alloc ?_ _) | (with_reducible refine Kd.C_drewN ?_ _) | (with_reducible refine Kd.C_drew ?_)))
                    (case aB => exact (by repeat (first | (with_reducible first | exact HB.out | apply below_alloc | apply pw_below_drewN | apply below_drew1 | refine below_set ?_ GE20001.out) | exact HB.out)))
                    (case aF => exact (fun k_ hk => ⟨Kd.fresh' (Kd.R_lt (by (with_reducible repeat (first | apply Kd.R_alloc | apply Kd.R_drewN | apply Kd.R_drew)); exact HO20040.out)) k_ hk, Kd.fresh' (Kd.R_lt (by (with_reducible repeat (first | apply Kd.R_alloc | apply Kd.R_drewN | apply Kd.R_drew)); exact HO20047.out)) k_ hk, Kd.fresh' (Kd.R_lt (by (with_reducible repeat (first | apply Kd.R_alloc | apply Kd.R_drewN | apply Kd.R_drew)); exact HO20056.out)) k_ hk⟩))
                    (case aO => exact (by (with_reducible repeat (first | apply Kd.R_alloc | apply Kd.R_drewN | apply Kd.R_drew)); exact HO20050.out))
                    (case aS => exact (below_size (by repeat (first | (with_reducible first | exact HB.out | apply below_alloc | apply pw_below_drewN | apply below_drew1 | refine below_set ?_ GE20001.out) | exact HB.out))))
                    (case aL => have := LMc65.out; omega)
                    intro v20058 w93 ho hb hg hat
                    rw [← Ny20057.out] at ho
                    have n0_ := Aside0.mk (blk_grown (g := gb20001) (o := .cells #[.int .u8 a0_0, .int .u8 a0_1, .slice (some ad20021) l0_2.length c0_2] 38 (0, 0)) (by (with_reducible repeat (first | refine blk_drewN ?_ _ | refine blk_drew ?_ | refine blk_alloc ?_ _)); exact BK20001.out) hg (Kd.R_ne HO20050.out BK20001.out (by decide)))
                    have n1_ := Aside0.mk (Kd.R_over' (by (with_reducible repeat (first | apply Kd.R_alloc | apply Kd.R_drewN | apply Kd.R_drew)); exact HO20004.out) (Kd.R_typed (by (with_reducible repeat (first | apply Kd.R_alloc | apply Kd.R_drewN | apply Kd.R_drew)); exact HO20050.out)) (by decide) hg)
                    have n2_ := Aside0.mk (Kd.R_over' (by (with_reducible repeat (first | apply Kd.R_alloc | apply Kd.R_drewN | apply Kd.R_drew)); exact HO20007.out) (Kd.R_typed (by (with_reducible repeat (first | apply Kd.R_alloc | apply Kd.R_drewN | apply Kd.R_drew)); exact HO20050.out)) (by decide) hg)
                    have n3_ := Aside0.mk (Kd.R_after (ok := (fun k_ => some k_ ≠ (v20046 : Value).ownBlock ∧ some k_ ≠ (.slice Ao94 y20054.length co94 : Value).ownBlock)) (by (with_reducible repeat (first | apply Kd.R_alloc | apply Kd.R_drewN | apply Kd.R_drew)); exact Kd.R_mono HO20040.out (fun _ hk => ⟨⟨hk.1, hk.2.2⟩, hk.2.1⟩)) hg hat)
                    have n4_ := Aside0.mk (Kd.R_after (ok := (fun k_ => some k_ ≠ (.slice Ao81 y20038.length co81 : Value).ownBlock ∧ some k_ ≠ (.slice Ao94 y20054.length co94 : Value).ownBlock)) (by (with_reducible repeat (first | apply Kd.R_alloc | apply Kd.R_drewN | apply Kd.R_drew)); exact Kd.R_mono HO20047.out (fun _ hk => ⟨⟨hk.1, hk.2.2⟩, hk.2.1⟩)) hg hat)
                    have n5_ := Aside0.mk (Kd.R_over' (by (with_reducible repeat (first | apply Kd.R_alloc | apply Kd.R_drewN | apply Kd.R_drew)); exact HO20053.out) (Kd.R_typed (by (with_reducible repeat (first | apply Kd.R_alloc | apply Kd.R_drewN | apply Kd.R_drew)); exact HO20050.out)) (by decide) hg)
                    have n6_ := Aside0.mk (Kd.R_after (ok := (fun k_ => some k_ ≠ (.slice Ao81 y20038.length co81 : Value).ownBlock ∧ some k_ ≠ (v20046 : Value).ownBlock)) (by (with_reducible repeat (first | apply Kd.R_alloc | apply Kd.R_drewN | apply Kd.R_drew)); exact Kd.R_mono HO20056.out (fun _ hk => ⟨⟨hk.1, hk.2.1⟩, hk.2.2⟩)) hg hat)
                    have n7_ := Aside0.mk (hb)
                    have n8_ := Aside0.mk (ho)
                    clear BK20001
                    clear HO20004
                    clear HO20007
                    clear HO20040
                    clear HO20047
                    clear HO20053
                    clear HO20056
                    clear HB
                    clear HO20050
                    have BK20001 := n0_
                    have HO20004 := n1_
                    have HO20007 := n2_
                    have HO20040 := n3_
                    have HO20047 := n4_
                    have HO20053 := n5_
                    have HO20056 := n6_
                    have HB := n7_
                    have HO20059 := n8_
                    clear n0_ n1_ n2_ n3_ n4_ n5_ n6_ n7_ n8_
                    clear ho hb hg hat
                    refine hK.out _ _ ⟨(blk_cell BK20001.out 0).trans rfl, (blk_cell BK20001.out 1).trans rfl, (blk_cell BK20001.out 2).trans rfl, ((HB.out.cell (World.block_lt_of_cell? w _ hw20044_0)).trans hw20044_0), ((HB.out.cell (World.block_lt_of_cell? w _ hw20044_1)).trans hw20044_1), ((HB.out.cell (World.block_lt_of_cell? w _ hw20044_2)).trans hw20044_2)⟩ (fun hHeld => ?_)
                    clear hK K
                    refine norm_ (a' := ?_) ?_ ?_
                    rotate_left
                    · show Act.put _ (some 71) _ = _
                      simp only [Act.put, List.setIfInBounds_toArray, List.set_cons_zero, List.set_cons_succ, i64_w, i32_w]
                      rfl
                    refine pure_ (i := 14) (N := some 2) (v := ?_) (a' := ?_) #[true, true, true, true, true, true, true, true, true, true, true, true, true, true, true] rfl rfl (any_of HT_.out (by kernel_rfl)) (fun _ _ _ h => h) (Or.inl ⟨by rfl, ?_⟩) ?_ ?_
                    rotate_left
                    · intro w'
                      go_simp
                      with_reducible rfl
                    rotate_left
                    · simp only [Act.put, List.setIfInBounds_toArray, List.set_cons_zero, List.set_cons_succ, i64_w, i32_w]
                      rfl
                    refine done_ (done_of HT_.out (by kernel_rfl)) ?_
                    try go_wp2
                    go_ret
                    exact ⟨_, by first | rfl | (simp [errW_none, errW_some] <;> rfl) | (simp [*, errW_none, errW_some] <;> rfl), by (with_reducible repeat (first | apply Kd.R_alloc | apply Kd.R_drewN | apply Kd.R_drew)); exact Kd.R_mono HO20059.out (fun _ hk => trivial), by repeat (first | (with_reducible first | exact HB.out | apply below_alloc | apply pw_below_drewN | apply below_drew1 | refine below_set ?_ GE20001.out) | exact HB.out)⟩
                  · rw [if_neg c65] at H
                    exact absurd H (by simp)
                · rw [if_neg c64] at H
                  exact absurd H (by simp)
              · rw [if_neg c62] at H
                exact absurd H (by simp)
            · rw [if_neg c61] at H
              exact absurd H (by simp)
          · rw [if_neg c60] at H
            exact absurd H (by simp)
      · rw [if_neg c34] at H
        exact absurd H (by simp)

end Go.Proofs.Ytjelhemaohjkdaa.Vc
