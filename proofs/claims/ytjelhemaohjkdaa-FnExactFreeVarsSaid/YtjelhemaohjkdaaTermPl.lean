/-
  Terms in plain words: which signs they have, and the depth of what they give.
-/
import Derived.Test.YtjelhemaohjkdaaTermQ
namespace Go.Proofs.YtjelhemaohjkdaaW.PrintMore
set_option linter.unusedVariables false
set_option linter.unusedSimpArgs false
open Go.Proofs Go.Deep
open Go.RowKit Go.Proofs.YtjelhemaohjkdaaW.PrintWords
/-- A term with the signs that the readers take. -/
def Tm.ok : Tm → Prop
  | .leaf c => (isVar c || isDig c) = true
  | .un c x => isUn c = true ∧ x.ok
  | .bin c x y => isBin c = true ∧ x.ok ∧ y.ok
  | .loop c u x y => (c = 91 ∨ c = 123) ∧ isBound u = true ∧ x.ok ∧ y.ok
theorem parse_ok : ∀ (n : Nat) (l : List UInt8) (t : Tm) (r : List UInt8), parse n l = some (t, r) → t.ok := by
  intro n
  induction n with
  | zero => intro l t r h; cases h
  | succ n ih =>
    intro l t r h
    cases l with
    | nil => cases h
    | cons c l =>
      unfold parse at h
      split at h
      · rename_i hc; cases h; exact hc
      split at h
      · rename_i hc
        obtain ⟨⟨x, r1⟩, h1, h2⟩ := Option.bind_eq_some_iff.1 h
        cases h2; exact ⟨hc, ih _ _ _ h1⟩
      split at h
      · obtain ⟨⟨x, r1⟩, h1, h2⟩ := Option.bind_eq_some_iff.1 h
        cases r1 with
        | nil => cases h2
        | cons g r1 =>
          simp only at h2
          split at h2
          · rename_i hg
            obtain ⟨⟨y, r2⟩, h3, h4⟩ := Option.bind_eq_some_iff.1 h2
            cases r2 with
            | nil => cases h4
            | cons d r2 =>
              simp only at h4
              split at h4
              · cases h4; exact ⟨hg, ih _ _ _ h1, ih _ _ _ h3⟩
              · cases h4
          · cases h2
      split at h
      · rename_i hc
        split at h
        · split at h
          · rename_i hb
            obtain ⟨⟨x, r1⟩, h1, h2⟩ := Option.bind_eq_some_iff.1 h
            cases r1 with
            | nil => cases h2
            | cons g r1 =>
              simp only at h2
              split at h2
              · obtain ⟨⟨y, r2⟩, h3, h4⟩ := Option.bind_eq_some_iff.1 h2
                cases r2 with
                | nil => cases h4
                | cons d r2 =>
                  simp only at h4
                  split at h4
                  · cases h4
                    exact ⟨hc, hb.1, ih _ _ _ h1, ih _ _ _ h3⟩
                  · cases h4
              · cases h2
          · cases h
        · cases h
      · cases h
theorem tmOf_ok {l : List UInt8} {t : Tm} (h : tmOf l = some t) : t.ok := by
  unfold tmOf at h
  split at h
  · split at h
    · rename_i h2; cases h; exact parse_ok _ _ _ _ h2
    · cases h
  · cases h
theorem bound_nz {u : UInt8} (h : isBound u = true) : ¬ (u.toNat : Int) = 0 := by
  simp only [isBound, Bool.and_eq_true, decide_eq_true_eq, UInt8.le_iff_toNat_le] at h
  have := h.1; simp at this; omega
theorem Tm.ok.wf : ∀ {t : Tm}, t.ok → t.wf
  | .leaf _, _ => trivial
  | .un _ x, h => (h.2.wf : x.wf)
  | .bin _ x y, h => (⟨h.2.1.wf, h.2.2.wf⟩ : x.wf ∧ y.wf)
  | .loop c u x y, h => ⟨h.1, bound_nz h.2.1, h.2.2.1.wf, h.2.2.2.wf⟩
theorem isUn_cases {c : UInt8} (h : isUn c = true) : c = 83 ∨ c = 77 ∨ c = 73 ∨ c = 78 ∨ c = 82 ∨ c = 67 ∨ c = 80 := by
  simpa [isUn, mem1] using h
theorem isBin_cases {c : UInt8} (h : isBin c = true) : c = 43 ∨ c = 42 ∨ c = 94 ∨ c = 45 ∨ c = 61 ∨ c = 60 ∨ c = 64 := by
  simpa [isBin, mem1] using h
/-- The depth of what a sign gives of one depth. -/
def sd1 (c : UInt8) (x : Int) : Int :=
  if c = 83 ∨ c = 77 then (if x = 1 then 0 else -1)
  else if c = 73 then (if x = 0 then 1 else -1)
  else if c = 78 then (if 1 ≤ x then 0 else -1)
  else if c = 82 then (if 1 ≤ x then x else -1)
  else if c = 67 then (if 2 ≤ x then wrap64 (x - 1) else -1)
  else if c = 80 then (if x = 1 then 1 else -1) else -1
/-- The depth of what a sign gives of two depths. -/
def sd2 (c : UInt8) (x y : Int) : Int :=
  if c = 64 then (if x = 1 ∧ y = 0 then 0 else -1) else (if x = 0 ∧ y = 0 then 0 else -1)
/-- The depth of what a loop gives. -/
def sdl (c : UInt8) (s t : Int) : Int := if s < 1 then -1 else if c = 91 ∧ 0 ≤ t ∧ t ≤ 2 then wrap64 (t + 1) else if c = 123 ∧ t = 0 then s else -1
abbrev Dp := UInt8 → Int
def updD (F : Dp) (u : UInt8) (x : Int) : Dp := fun c => if c = u then x else F c
/-- The depth of what a term gives, if variables have some depths. -/
def Tm.dp : Tm → Dp → Int
  | .leaf c, F => if isDig c = true then 0 else F c
  | .un c x, F => sd1 c (x.dp F)
  | .bin c x y, F => sd2 c (x.dp F) (y.dp F)
  | .loop c u x y, F => sdl c (x.dp F) (y.dp (updD F u (wrap64 (x.dp F - 1))))
/-- How often a variable stands in a term where it is not bound. -/
def Tm.fc : Tm → UInt8 → Nat
  | .leaf c, d => if isDig c = false ∧ d = c then 1 else 0
  | .un _ x, d => x.fc d
  | .bin _ x y, d => x.fc d + y.fc d
  | .loop _ u x y, d => x.fc d + if d = u then 0 else y.fc d
theorem fc_le : ∀ (t : Tm) (d : UInt8), t.fc d ≤ t.tx.size := by
  intro t
  induction t with
  | leaf c => intro d; show (if _ then 1 else 0) ≤ (1 : Nat); split <;> omega
  | un c x ih => intro d; have := ih d; simp only [Tm.fc, Tm.tx, ByteArray.size_append]; omega
  | bin c x y ih1 ih2 => intro d; have := ih1 d; have := ih2 d; simp only [Tm.fc, Tm.tx, ByteArray.size_append]; omega
  | loop c u x y ih1 ih2 =>
    intro d; have := ih1 d; have := ih2 d
    simp only [Tm.fc, Tm.tx, ByteArray.size_append]
    split <;> omega
/-- Only variables are free. -/
theorem fc_var : ∀ (t : Tm) (d : UInt8), t.ok → 0 < t.fc d → isVar d = true := by
  intro t
  induction t with
  | leaf c =>
    intro d h h0
    simp only [Tm.fc] at h0
    split at h0
    · rename_i hd
      obtain ⟨h1, rfl⟩ := hd
      have h2 : (isVar d || isDig d) = true := h
      rw [h1, Bool.or_false] at h2
      exact h2
    · omega
  | un c x ih => intro d h h0; exact ih d h.2 h0
  | bin c x y ih1 ih2 =>
    intro d h h0
    simp only [Tm.fc] at h0
    by_cases hx : 0 < x.fc d
    · exact ih1 d h.2.1 hx
    · exact ih2 d h.2.2 (by omega)
  | loop c u x y ih1 ih2 =>
    intro d h h0
    simp only [Tm.fc] at h0
    by_cases hx : 0 < x.fc d
    · exact ih1 d h.2.2.1 hx
    · split at h0
      · omega
      · exact ih2 d h.2.2.2 (by omega)
end Go.Proofs.YtjelhemaohjkdaaW.PrintMore
