/-
  Cut to what this claim uses.
-/
import Derived.Test.YtpklhagedifglaaQTermM
import Derived.Test.YtpklhagedifglaaQTermN
namespace Go.Proofs.YtpklhagedifglaaW.PrintMore
set_option linter.unusedVariables false
set_option linter.unusedSimpArgs false
open Go.Proofs Go.Deep
open Go.RowKit Go.Proofs.YtpklhagedifglaaW.PrintWords
theorem nd_shape {W : World} {lo : Nat} {v : Value} {t : Tm} (h : NdAt W lo v t) : ∃ a c A m k, v = ndV a c A m k := by
  cases t with
  | leaf x => obtain ⟨A', k', h⟩ := h; exact ⟨_, _, _, _, _, h⟩
  | un x y => obtain ⟨q, k', f0, f1, f2, h0, h, _⟩ := h; exact ⟨_, _, _, _, _, h⟩
  | bin x y z => obtain ⟨q, k', f0, f1, f2, f3, f4, f5, h0, h, _⟩ := h; exact ⟨_, _, _, _, _, h⟩
  | loop x u y z => obtain ⟨q, k', f0, f1, f2, f3, f4, f5, h0, h, _⟩ := h; exact ⟨_, _, _, _, _, h⟩
theorem nd_below {W W' : World} {lo : Nat} (h : Below W.heap.size W W') {t : Tm} {v : Value} (ht : NdAt W lo v t) : NdAt W' lo v t := nd_blk (fun k _ h2 => h.block k h2) ht
/-- A reference's term, part by part. -/
theorem nd_parts {W : World} {lo : Nat} {v : Value} {t : Tm} (h : NdAt W lo v t) :
    (∃ c A k, t = .leaf c ∧ v = ndV (if isDig c = true then 48 else 97) (c.toNat : Int) A 0 k) ∨
    (∃ c x q k a0 c0 A0 m0 k0, t = .un c x ∧ v = ndV (c.toNat : Int) 0 (some ⟨q, 0, none⟩) 1 k ∧ W.cell? ⟨q, 0, none⟩ = some (.int .u8 a0) ∧ W.cell? ⟨q, 1, none⟩ = some (.int .u8 c0) ∧ W.cell? ⟨q, 2, none⟩ = some (.slice A0 m0 k0) ∧ NdAt W lo (ndV a0 c0 A0 m0 k0) x) ∨
    (∃ c u x y q k a0 c0 A0 m0 k0 a1 c1 A1 m1 k1, ((t = .bin c x y ∧ u = 0) ∨ (∃ z : UInt8, t = .loop c z x y ∧ u = (z.toNat : Int))) ∧ v = ndV (c.toNat : Int) u (some ⟨q, 0, none⟩) 2 k ∧ W.cell? ⟨q, 0, none⟩ = some (.int .u8 a0) ∧ W.cell? ⟨q, 1, none⟩ = some (.int .u8 c0) ∧ W.cell? ⟨q, 2, none⟩ = some (.slice A0 m0 k0) ∧
      W.cell? ⟨q, 3, none⟩ = some (.int .u8 a1) ∧ W.cell? ⟨q, 4, none⟩ = some (.int .u8 c1) ∧ W.cell? ⟨q, 5, none⟩ = some (.slice A1 m1 k1) ∧ NdAt W lo (ndV a0 c0 A0 m0 k0) x ∧ NdAt W lo (ndV a1 c1 A1 m1 k1) y) := by
  cases t with
  | leaf c => obtain ⟨A, k, h⟩ := h; exact .inl ⟨c, A, k, rfl, h⟩
  | un c x =>
    obtain ⟨q, k, f0, f1, f2, h0, h1, h2, h3, h4, h5, h6⟩ := h
    obtain ⟨a0, c0, A0, m0, k0, e⟩ := nd_shape h6
    unfold ndV at e; simp at e
    obtain ⟨rfl, rfl, rfl⟩ := e
    exact .inr (.inl ⟨c, x, q, k, a0, c0, A0, m0, k0, rfl, h1, h3, h4, h5, h6⟩)
  | bin c x y =>
    obtain ⟨q, k, f0, f1, f2, f3, f4, f5, h0, h1, h2, h3, h4, h5, h6, h7, h8, h9, ha⟩ := h
    obtain ⟨a0, c0, A0, m0, k0, e⟩ := nd_shape h9
    obtain ⟨a1, c1, A1, m1, k1, e'⟩ := nd_shape ha
    unfold ndV at e e'; simp at e e'
    obtain ⟨rfl, rfl, rfl⟩ := e
    obtain ⟨rfl, rfl, rfl⟩ := e'
    exact .inr (.inr ⟨c, 0, x, y, q, k, a0, c0, A0, m0, k0, a1, c1, A1, m1, k1, .inl ⟨rfl, rfl⟩, h1, h3, h4, h5, h6, h7, h8, h9, ha⟩)
  | loop c u x y =>
    obtain ⟨q, k, f0, f1, f2, f3, f4, f5, h0, h1, h2, h3, h4, h5, h6, h7, h8, h9, ha⟩ := h
    obtain ⟨a0, c0, A0, m0, k0, e⟩ := nd_shape h9
    obtain ⟨a1, c1, A1, m1, k1, e'⟩ := nd_shape ha
    unfold ndV at e e'; simp at e e'
    obtain ⟨rfl, rfl, rfl⟩ := e
    obtain ⟨rfl, rfl, rfl⟩ := e'
    exact .inr (.inr ⟨c, u.toNat, x, y, q, k, a0, c0, A0, m0, k0, a1, c1, A1, m1, k1, .inr ⟨u, rfl, rfl⟩, h1, h3, h4, h5, h6, h7, h8, h9, ha⟩)
/-- A term as the readers make it. -/
def Tm.wf : Tm → Prop
  | .leaf _ => True
  | .un _ x => x.wf
  | .bin _ x y => x.wf ∧ y.wf
  | .loop c u x y => (c = 91 ∨ c = 123) ∧ ¬ (u.toNat : Int) = 0 ∧ x.wf ∧ y.wf
theorem parse_wf : ∀ (n : Nat) (l : List UInt8) (t : Tm) (r : List UInt8), parse n l = some (t, r) → t.wf := by
  intro n
  induction n with
  | zero => intro l t r h; cases h
  | succ n ih =>
    intro l t r h
    cases l with
    | nil => cases h
    | cons c l =>
      unfold parse at h
      split at h
      · cases h; trivial
      split at h
      · obtain ⟨⟨x, r1⟩, h1, h2⟩ := Option.bind_eq_some_iff.1 h
        cases h2; exact (show x.wf from ih _ _ _ h1)
      split at h
      · obtain ⟨⟨x, r1⟩, h1, h2⟩ := Option.bind_eq_some_iff.1 h
        cases r1 with
        | nil => cases h2
        | cons g r1 =>
          simp only at h2
          split at h2
          · obtain ⟨⟨y, r2⟩, h3, h4⟩ := Option.bind_eq_some_iff.1 h2
            cases r2 with
            | nil => cases h4
            | cons d r2 =>
              simp only at h4
              split at h4
              · cases h4; exact ⟨ih _ _ _ h1, ih _ _ _ h3⟩
              · cases h4
          · cases h2
      split at h
      · rename_i hc
        split at h
        · split at h
          · rename_i hb
            obtain ⟨⟨x, r1⟩, h1, h2⟩ := Option.bind_eq_some_iff.1 h
            cases r1 with
            | nil => cases h2
            | cons g r1 =>
              simp only at h2
              split at h2
              · obtain ⟨⟨y, r2⟩, h3, h4⟩ := Option.bind_eq_some_iff.1 h2
                cases r2 with
                | nil => cases h4
                | cons d r2 =>
                  simp only at h4
                  split at h4
                  · cases h4
                    refine ⟨hc, ?_, ih _ _ _ h1, ih _ _ _ h3⟩
                    have hb1 := hb.1
                    simp only [isBound, Bool.and_eq_true, decide_eq_true_eq, UInt8.le_iff_toNat_le] at hb1
                    have := hb1.1; simp at this; omega
                  · cases h4
              · cases h2
          · cases h
        · cases h
      · cases h
theorem tmOf_wf {l : List UInt8} {t : Tm} (h : tmOf l = some t) : t.wf := by
  unfold tmOf at h
  split at h
  · split at h
    · rename_i h2; cases h; exact parse_wf _ _ _ _ h2
    · cases h
  · cases h
end Go.Proofs.YtpklhagedifglaaW.PrintMore
