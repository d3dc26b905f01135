/-
  FnExactInnerOf: the law's walk where the argument is too large.
-/
import Derived.Test.YtlakjonnkggomaaLwA
namespace Go.Proofs.YtlakjonnkggomaaW.PrintMore
set_option linter.unusedVariables false
set_option linter.unusedSimpArgs false
open Go.Proofs Go.Deep Go.Proofs.Ytlakjonnkggomaa.In
open Go.RowKit Go.Proofs.YtlakjonnkggomaaW.PrintWords Go.Proofs.YtlakjonnkggomaaW.PrintLast Go.Proofs.YtlakjonnkggomaaW.PrintMore
set_option maxHeartbeats 8000000 in
set_option maxRecDepth 100000 in
theorem inner_law_neg (k : Nat) (A0 : Option Addr) (c0 : Nat) (L : List (List Int)) (A1 : Option Addr) (c1 : Nat) (D : List Int) (left : Int) (w : World) (h : laws_szLayout.f k L D 1048576 = some left) (h0 : left < 0)
    (hr0 : Kd.C (Kd.slice 3 (Kd.int .i64)) w A0 L.length L) (hc0 : L.length ≤ c0) (hr1 : Kd.C (Kd.int .i64) w A1 D.length D) (hc1 : D.length ≤ c1) :
    Calls Try.prog 3 #[.agg #[.slice A0 L.length c0, .slice A1 D.length c1]] w fun e w' => e = .returned (.bool true) ∧ Below w.heap.size w w' := by
  have hul := Try.underlying30
  have hua := Try.underlying25
  obtain ⟨W1, hW1⟩ : ∃ W1, W1 = w.alloc (.cells #[.slice A0 L.length c0, .slice A1 D.length c1] 25) := ⟨_, rfl⟩
  have hb1 : Below w.heap.size w W1 := by rw [hW1]; exact (Below.refl _ w).alloc (Nat.le_refl _) _
  have HB1 := Aside0.mk hb1
  have HW1 := Aside0.mk hW1
  have HO1 := Aside0.mk (show OBA W1 w.heap.size (.slice A0 L.length c0) (.slice A1 D.length c1) from by rw [hW1]; exact blk_new w _)
  have HX1 := Aside0.mk (laws_szLayout.calls k A0 c0 L A1 c1 D 1048576 left W1 (Kd.C_below hr0 hb1) hc0 (Kd.C_below hr1 hb1) hc1 h)
  have hx0 : W1.cell? ⟨w.heap.size, 0, none⟩ = some (.slice A0 L.length c0) := (blk_cell HO1.out 0).trans rfl
  have hx1 : W1.cell? ⟨w.heap.size, 1, none⟩ = some (.slice A1 D.length c1) := (blk_cell HO1.out 1).trans rfl
  have hlf : decide (left < 0) = true := decide_eq_true h0
  clear h hr0 hc0 hr1 hc1 hb1 hW1 h0
  go_enter Try.func3, Try.ntmps3
  go_upto_region 2 with (fail)
  rw [← HW1.out]
  go_wp2_with fail
  refine HX1.out.mono ?_
  rintro e w2 ⟨rfl, hb⟩
  have HB2 := Aside0.mk (HB1.out.trans (hb.mono HB1.out.size))
  clear hb hx0 hx1
  go_wp2_with fail
  go_ret
  exact ⟨rfl, HB2.out⟩
end Go.Proofs.YtlakjonnkggomaaW.PrintMore
