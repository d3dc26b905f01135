/-
  InnerOf of the reference; a list of layouts as a row of its own.
-/
import Derived.Test.YtlakjonnkggomaaLvG
namespace Go.Proofs.YtlakjonnkggomaaW.PrintMore
set_option linter.unusedVariables false
set_option linter.unusedSimpArgs false
open Go.Proofs Go.Deep
open Go.RowKit Go.Proofs.YtlakjonnkggomaaW.PrintWords Go.Proofs.YtlakjonnkggomaaW.PrintLast Go.Proofs.YtlakjonnkggomaaW.PrintMore
/-- A list of layouts, told as the printed functions tell it. -/
theorem GS.R {α : Type} (d : Kd α) (g : α → List (List Int) × List Int) (hsz : d.sz = 2) (hM : ∀ (W : World) (base : Nat) (ok : Nat → Prop) (x : α) (a b : Value), Kd.R (Kd.slice 3 kI) 23 W base ok a (g x).1 → Kd.R kI 3 W base ok b (g x).2 → d.M W base ok x [a, b])
    {W : World} {base : Nat} {v : Value} {xs : List α} (h : GS W base v (xs.map g)) : Kd.R d 30 W base (fun _ => True) v xs := by
  obtain ⟨f, ps, hl, hR, hx⟩ := h
  have hR' := hR
  obtain ⟨h0, inner, hown, hrep⟩ := hR
  rw [List.length_map] at hl hx
  refine ⟨fun _ _ => trivial, inner, by rw [hsz, ← hl]; exact hown, by rw [hsz, ← hl]; exact hrep.1, fun j p hj => ?_⟩
  have hjl : j < xs.length := (List.getElem?_eq_some_iff.1 hj).1
  have hp := hrep.2 j (ps.getD j pD) (by rw [List.getD_eq_getElem?_getD, List.getElem?_eq_getElem (by omega)]; rfl)
  rw [hsz]
  have e : (inner.drop (j * 2)).take 2 = [(ps.getD j pD).1, (ps.getD j pD).2] := hp.1
  rw [e]
  have hL := hx j hjl
  have eg : (xs.map g).getD j ([], []) = g p := by
    rw [List.getD_eq_getElem?_getD, List.getElem?_map, hj]; rfl
  rw [eg] at hL
  obtain ⟨us, h1, h2, h3⟩ := hL
  have hI : ∀ (c : Nat × Nat) (u : Value) (zs : List Int) (a : Value) (n : Nat) (ys : List Value), W.ownsRow base 23 1 a n ys → Kd.R kI 3 W base (fun k => f k = c) u zs → Kd.R kI 3 W base (fun k => (True ∧ some k ≠ v.ownBlock) ∧ some k ≠ a.ownBlock) u zs := fun c u zs a n ys hown hu => by
    refine Kd.R_mono (Kd.R_bound hu) (fun k hk => ?_)
    obtain ⟨_, _, _, q, hq, cs, hcs⟩ := hk
    have : q = 3 := by simpa [kI, Kd.int, Kd.scalar] using hq
    subst this
    refine ⟨⟨trivial, Kd.R_ne hR' hcs (by decide)⟩, fun e => ?_⟩
    obtain ⟨cs', hcs'⟩ := own_typed hown k e.symm
    exact absurd rfl (ne_tag hcs hcs' (by decide))
  refine hM W base _ p _ _ ⟨fun k hk => ?_, us, h1, ?_, fun i z hi => ?_⟩ ?_
  · obtain ⟨cs, hcs⟩ := own_typed h1 k hk
    exact ⟨trivial, Kd.R_ne hR' hcs (by decide)⟩
  · exact h1.1
  · have hil : i < (g p).1.length := (List.getElem?_eq_some_iff.1 hi).1
    obtain ⟨u, hu, hRu⟩ := h2 i hil
    rw [List.getD_eq_getElem?_getD, hi] at hRu
    refine ⟨u, ?_, hI _ u z _ _ _ h1 hRu⟩
    show (us.drop (i * 1)).take 1 = [u]
    rw [Nat.mul_one]
    have hiu : i < us.length := (List.getElem?_eq_some_iff.1 hu).1
    rw [List.drop_eq_getElem_cons hiu]
    have : us[i] = u := by rw [List.getElem?_eq_getElem hiu] at hu; exact Option.some.inj hu
    rw [this]
    rfl
  · exact Kd.R_mono (hI _ _ _ _ _ _ h1 h3) (fun k hk => hk.1)
/-- One cell. -/
def kOne : Kd Value where
  sz := 1
  E := []
  K := fun _ x cs => cs = [x] ∧ x.oneCell' = true
  M := fun _ _ _ x cs => cs = [x] ∧ x.oneCell' = true
  K_len := by rintro w x cs ⟨rfl, _⟩; rfl
  K_one := by
    rintro w x cs ⟨rfl, h1⟩ u hu
    rw [List.mem_singleton.1 hu]
    exact h1
  K_below := fun _ h => h
  K_of_M := fun h => h
  M_mono := fun _ h => h
  M_bound := fun h => h
  M_move := fun _ h => h
  M_lower := fun _ h => h
end Go.Proofs.YtlakjonnkggomaaW.PrintMore
