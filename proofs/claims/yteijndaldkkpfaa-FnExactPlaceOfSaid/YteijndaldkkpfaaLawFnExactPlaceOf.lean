/- The law FnExactPlaceOf answers true for every input, and its arguments read afterwards as before. No condition. (Written by a program of this claim, wip/hyb/rowlayout.py.) -/
import Derived.Test.YteijndaldkkpfaaRows
import Derived.Test.YteijndaldkkpfaaLp5
import Derived.Test.YteijndaldkkpfaaPureFnExactPlaceOf
import Derived.Test.YteijndaldkkpfaaLyRow
import Derived.WalkKit
import Derived.ProofKit
import Derived.OpenShut
import Derived.ShutString
import Derived.ChangeOld
import Derived.Below
import Derived.SizedLaws
namespace Go.Proofs.Yteijndaldkkpfaa.fnExactPlaceOf
open Go.ChangeShapes Go.WideShapes Go.ChangeAt Go.RowKit
set_option linter.unusedVariables false
theorem own : ownKnob Try.prog.godebug = none := by kernel_rfl
theorem laidOut : laidOutB Try.prog = true := by kernel_rfl
set_option maxRecDepth 100000 in
theorem lifted (os : Os) (started : os.Started) (H : Type) (enc : TypeId × Value → H) :
    ReturnsInHanded {} Try.checked os 8 .any (Rows.fnExactPlaceOfSpec.pre6 enc Try.prog Try.f8 Rows.fnExactPlaceOfRow.domain false) (Rows.fnExactPlaceOfSpec.post enc Try.prog Try.f8 false true false false) := by
  refine returnsInHanded_of_change_sized (C := Try.checked) own started (by kernel_rfl) Try.func8
    (ChangeSpec.witness6 (enc := enc) (C := Try.checked) false ⟨#[], #[.agg #[.slice none 0 0, .slice none 0 0], .slice none 0 0], []⟩ 8 (by kernel_rfl) (by kernel_rfl) (by kernel_rfl) (by kernel_rfl)) ?_
  intro W base args ds gs before hval0 hW hcnd hsz0 _
  have hval : ∀ (j : Nat) t v, Try.f8.params[j]? = some t → args[j]? = some v → Value.okWide Try.prog W .any base t v := hval0
  have hW' := hW
  obtain ⟨p, q, hA0, hV, rfl, hfz, hnd⟩ := hW
  have hA : DataW.TrodAll enc Try.prog W 0 (fun _ => true) true Try.f8.params.toList args.toList ds p := hA0
  rw [Try.params8] at hA hval
  obtain ⟨v0, vs0, d0, ds0, p0, q0, hargs, rfl, rfl, h0, r0⟩ := trodAll_cons hA
  obtain ⟨v1, vs1, d1, ds1, p1, q1, rfl, rfl, rfl, h1, r1⟩ := trodAll_cons r0
  obtain ⟨rfl, rfl, rfl⟩ := trodAll_nil r1
  obtain rfl : args = #[v0, v1] := by cases args; simp_all
  obtain ⟨rfl, rfl⟩ := trodVars_none hV
  have k0 := h0
  have lt0 : ∀ x ∈ p0, x.block < W.heap.size := by obtain ⟨m, hm⟩ := k0; exact DataW.trod_lt m _ _ _ hm
  obtain ⟨s0_0, s0_1, y0_0, y0_1, n0, rfl, _, _, t0_0, t0_1⟩ := Go.Joins.open_agg2 Try.underlying36 (by kernel_rfl) (by kernel_rfl) (hval 0 36 v0 rfl rfl) h0
  obtain ⟨a0_0, c0_0, l0_0, rfl, hr0_0, hc0_0, hn0_0, hm0_0⟩ := LyRow.rows_of Try.underlying34 Try.underlying22 Try.underlying3 (by kernel_rfl) (by kernel_rfl) t0_0
  obtain ⟨a0_1, c0_1, l0_1, rfl, hr0_1, hc0_1, hn0_1⟩ := LyRow.ints_of Try.underlying22 Try.underlying3 (by kernel_rfl) t0_1
  have k1 := h1
  have lt1 : ∀ x ∈ p1, x.block < W.heap.size := by obtain ⟨m, hm⟩ := k1; exact DataW.trod_lt m _ _ _ hm
  obtain ⟨b1, cb1, ca1, rfl⟩ := okWide_slice Try.underlying22 (hval 1 22 v1 rfl rfl)
  obtain ⟨n1, t1⟩ : ∃ n, DataW.trod enc Try.prog W 0 (fun _ => true) true n 22 [.slice b1 cb1 ca1] = some (d1, p1) := by obtain ⟨fuel, hf⟩ := k1; exact ⟨fuel, by simpa [Value.cells] using hf⟩
  obtain ⟨a1, c1, l1, ev1, hr1, hc1, hn1⟩ := LyRow.ints_of Try.underlying22 Try.underlying3 (by kernel_rfl) t1
  cases ev1
  clear hA0 hval0 hsz0
  obtain ⟨k, hk⟩ := Pure.FnExactPlaceOf l0_0 l0_1 l1 hn0_0 hm0_0 hn0_1 hn1
  refine (Lp.laws_FnExactPlaceOf.calls k _ _ l0_0 _ _ l0_1 _ _ l1 true W hr0_0 hc0_0 hr0_1 hc0_1 hr1 hc1 hk).mono fun e W' ⟨he, bel⟩ => ?_
  subst he
  exact ⟨_, rfl, _, _, _, [], _, [], hW', trodAll_mk1 (shut_bool Try.underlying4 _), (trodAll_cons_mk (Below.trod laidOut (by kernel_rfl) (of_decide_eq_true (by kernel_rfl)) k0 bel lt0) (trodAll_cons_mk (Below.trod laidOut (by kernel_rfl) (of_decide_eq_true (by kernel_rfl)) k1 bel lt1) trodAll_mk0)), rfl, bel.frame _, fun h => by cases h⟩
theorem over : Rows.fnExactPlaceOfRow.holds Try.pinned (OpenSpec.ofChange Rows.fnExactPlaceOfSpec) :=
  OpenClaim.holds_of_wide 8 Try.f8 rfl rfl rfl rfl rfl rfl rfl ⟨rfl, rfl, rfl, rfl, rfl⟩ rfl rfl rfl rfl rfl (by kernel_rfl) Try.func8 (by kernel_rfl)
    (of_decide_eq_true (by kernel_rfl)) (by unfold Func.isWrapper; first | (rw [if_pos (by decide +kernel)]; kernel_rfl) | (rw [if_neg (by decide +kernel)]; exact ⟨rfl, rfl⟩))
    (fun os started H enc _ => lifted os started H enc)
theorem proved : Rows.FnExactPlaceOfSaid := over
#print axioms proved
end Go.Proofs.Yteijndaldkkpfaa.fnExactPlaceOf
namespace Go.Proofs.Yteijndaldkkpfaa
/-- The row, under a short name, for the claim. -/
theorem fnExactPlaceOf_holds : Rows.FnExactPlaceOfSaid := fnExactPlaceOf.proved
end Go.Proofs.Yteijndaldkkpfaa
