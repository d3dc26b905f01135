/- The law FnExactInnerOf answers true for every input, and its argument reads afterwards as before. No condition. -/
import Derived.Test.YtlakjonnkggomaaRows
import Derived.Test.YtlakjonnkggomaaLwB
import Derived.Test.YtlakjonnkggomaaPureFnExactInnerOf
import Derived.Test.YtlakjonnkggomaaLyRow
import Derived.WalkKit
import Derived.ProofKit
import Derived.OpenShut
import Derived.ShutString
import Derived.ChangeOld
import Derived.Below
import Derived.SizedLaws
namespace Go.Proofs.Ytlakjonnkggomaa.fnExactInnerOf
open Go.ChangeShapes Go.WideShapes Go.ChangeAt Go.RowKit
set_option linter.unusedVariables false
theorem own : ownKnob Try.prog.godebug = none := by kernel_rfl
theorem laidOut : laidOutB Try.prog = true := by kernel_rfl
set_option maxRecDepth 100000 in
theorem lifted (os : Os) (started : os.Started) (H : Type) (enc : TypeId × Value → H) :
    ReturnsInHanded {} Try.checked os 3 .any (Rows.fnExactInnerOfSpec.pre6 enc Try.prog Try.f3 Rows.fnExactInnerOfRow.domain false) (Rows.fnExactInnerOfSpec.post enc Try.prog Try.f3 false true false false) := by
  refine returnsInHanded_of_change_sized (C := Try.checked) own started (by kernel_rfl) Try.func3
    (ChangeSpec.witness6 (enc := enc) (C := Try.checked) false ⟨#[], #[.agg #[.slice none 0 0, .slice none 0 0]], []⟩ 8 (by kernel_rfl) (by kernel_rfl) (by kernel_rfl) (by kernel_rfl)) ?_
  intro W base args ds gs before hval0 hW hcnd hsz0 _
  have hval : ∀ (j : Nat) t v, Try.f3.params[j]? = some t → args[j]? = some v → Value.okWide Try.prog W .any base t v := hval0
  have hW' := hW
  obtain ⟨p, q, hA0, hV, rfl, hfz, hnd⟩ := hW
  have hA : DataW.TrodAll enc Try.prog W 0 (fun _ => true) true Try.f3.params.toList args.toList ds p := hA0
  rw [Try.params3] at hA hval
  obtain ⟨v0, vs0, d0, ds0, p0, q0, hargs, rfl, rfl, h0, r0⟩ := trodAll_cons hA
  obtain ⟨rfl, rfl, rfl⟩ := trodAll_nil r0
  obtain rfl : args = #[v0] := by cases args; simp_all
  obtain ⟨rfl, rfl⟩ := trodVars_none hV
  have k0 := h0
  have lt0 : ∀ x ∈ p0, x.block < W.heap.size := by obtain ⟨m, hm⟩ := k0; exact DataW.trod_lt m _ _ _ hm
  obtain ⟨s0_0, s0_1, y0_0, y0_1, n0, rfl, _, _, t0_0, t0_1⟩ := Go.Joins.open_agg2 Try.underlying25 (by kernel_rfl) (by kernel_rfl) (hval 0 25 v0 rfl rfl) h0
  obtain ⟨a0_0, c0_0, l0_0, rfl, hr0_0, hc0_0, hn0_0, hm0_0⟩ := LyRow.rows_of Try.underlying22 Try.underlying23 Try.underlying3 (by kernel_rfl) (by kernel_rfl) t0_0
  obtain ⟨a0_1, c0_1, l0_1, rfl, hr0_1, hc0_1, hn0_1⟩ := LyRow.ints_of Try.underlying23 Try.underlying3 (by kernel_rfl) t0_1
  clear hA0 hval0 hsz0
  obtain ⟨k, left, hsz, hk⟩ := Pure.FnExactInnerOf l0_0 l0_1 hn0_0 hm0_0 hn0_1
  have hcall : Calls Try.prog 3 #[.agg #[.slice a0_0 l0_0.length c0_0, .slice a0_1 l0_1.length c0_1]] W fun e w' => e = .returned (.bool true) ∧ Below W.heap.size W w' := by
    rcases hk with hk | ⟨xs, t, hk⟩
    · exact Go.Proofs.YtlakjonnkggomaaW.PrintMore.inner_law_neg k _ _ l0_0 _ _ l0_1 left W hsz hk hr0_0 hc0_0 hr0_1 hc0_1
    · exact Go.Proofs.YtlakjonnkggomaaW.PrintMore.inner_law k _ _ l0_0 _ _ l0_1 left xs t W hk hr0_0 hc0_0 hr0_1 hc0_1
  refine hcall.mono fun e W' ⟨he, bel⟩ => ?_
  subst he
  exact ⟨_, rfl, _, _, _, [], _, [], hW', trodAll_mk1 (shut_bool Try.underlying4 _), (trodAll_cons_mk (Below.trod laidOut (by kernel_rfl) (of_decide_eq_true (by kernel_rfl)) k0 bel lt0) trodAll_mk0), rfl, bel.frame _, fun h => by cases h⟩
theorem over : Rows.fnExactInnerOfRow.holds Try.pinned (OpenSpec.ofChange Rows.fnExactInnerOfSpec) :=
  OpenClaim.holds_of_wide 3 Try.f3 rfl rfl rfl rfl rfl rfl rfl ⟨rfl, rfl, rfl, rfl, rfl⟩ rfl rfl rfl rfl rfl (by kernel_rfl) Try.func3 (by kernel_rfl)
    (of_decide_eq_true (by kernel_rfl)) (by unfold Func.isWrapper; first | (rw [if_pos (by decide +kernel)]; kernel_rfl) | (rw [if_neg (by decide +kernel)]; exact ⟨rfl, rfl⟩))
    (fun os started H enc _ => lifted os started H enc)
theorem proved : Rows.FnExactInnerOfSaid := over
#print axioms proved
end Go.Proofs.Ytlakjonnkggomaa.fnExactInnerOf
namespace Go.Proofs.Ytlakjonnkggomaa
/-- The row, under a short name, for the claim. -/
theorem fnExactInnerOf_holds : Rows.FnExactInnerOfSaid := fnExactInnerOf.proved
end Go.Proofs.Ytlakjonnkggomaa
