/-
  Cut to what this claim uses.
-/
import Derived.Test.YtpklhagedifglaaQTermR
import Derived.Test.YtpklhagedifglaaQTermS
namespace Go.Proofs.YtpklhagedifglaaW.PrintMore
set_option linter.unusedVariables false
set_option linter.unusedSimpArgs false
open Go.Proofs Go.Deep
open Go.RowKit Go.Proofs.YtpklhagedifglaaW.PrintWords Go.Proofs.YtpklhagedifglaaW.PrintLast Go.Proofs.YtpklhagedifglaaW.PrintMore
theorem app_list (a b : ByteArray) : (a ++ b).data.toList = a.data.toList ++ b.data.toList := by simp
/-- A term is read off its text. -/
theorem parse_tx : ∀ (n : Nat) (l : List UInt8) (t : Tm) (r : List UInt8), parse n l = some (t, r) → l = t.tx.data.toList ++ r := by
  intro n
  induction n with
  | zero => intro l t r h; cases h
  | succ n ih =>
    intro l t r h
    cases l with
    | nil => cases h
    | cons c l =>
      unfold parse at h
      split at h
      · cases h; rfl
      split at h
      · obtain ⟨⟨x, r1⟩, h1, h2⟩ := Option.bind_eq_some_iff.1 h
        cases h2
        have := ih _ _ _ h1
        simp only [Tm.tx, app_list]
        rw [this]; rfl
      split at h
      · rename_i hc
        obtain ⟨⟨x, r1⟩, h1, h2⟩ := Option.bind_eq_some_iff.1 h
        have k1 := ih _ _ _ h1
        cases r1 with
        | nil => cases h2
        | cons g r1 =>
          simp only at h2
          split at h2
          · obtain ⟨⟨y, r2⟩, h3, h4⟩ := Option.bind_eq_some_iff.1 h2
            have k2 := ih _ _ _ h3
            cases r2 with
            | nil => cases h4
            | cons d r2 =>
              simp only at h4
              split at h4
              · rename_i hd
                cases h4
                simp only [Tm.tx, app_list]
                rw [k1, k2, hc, hd]; simp
              · cases h4
          · cases h2
      split at h
      · split at h
        · split at h
          · rename_i hb
            obtain ⟨⟨x, r1⟩, h1, h2⟩ := Option.bind_eq_some_iff.1 h
            have k1 := ih _ _ _ h1
            cases r1 with
            | nil => cases h2
            | cons g r1 =>
              simp only at h2
              split at h2
              · rename_i hg
                obtain ⟨⟨y, r2⟩, h3, h4⟩ := Option.bind_eq_some_iff.1 h2
                have k2 := ih _ _ _ h3
                cases r2 with
                | nil => cases h4
                | cons d r2 =>
                  simp only at h4
                  split at h4
                  · rename_i hd
                    cases h4
                    simp only [Tm.tx, app_list]
                    rw [k1, k2, hb.2, hg, hd]; simp
                  · cases h4
              · cases h2
          · cases h
        · cases h
      · cases h
theorem tmOf_tx {l : List UInt8} {t : Tm} (h : tmOf l = some t) : l = t.tx.data.toList ∧ t.tx.size ≤ 80 := by
  unfold tmOf at h
  split at h
  · rename_i h1
    split at h
    · rename_i h2; cases h
      have := parse_tx _ _ _ _ h2
      rw [List.append_nil] at this
      exact ⟨this, by rw [size_list, ← this]; exact h1⟩
    · cases h
  · cases h
set_option maxHeartbeats 8000000 in
set_option maxRecDepth 100000 in
theorem impl_PartsOfTerm_walk (s : ByteArray) (w : World) :
    Calls Try.prog 11 #[.string s] w fun e w' => ∃ v, e = .returned v ∧ Kd.R Kd.string 9 w' w.heap.size (fun _ => True) v ((tmOf s.data.toList).elim [] Tm.ps) ∧ Below w.heap.size w w' := by
  cases ht : tmOf s.data.toList with
  | some t => exact impl_parts_node s w t ht (tmOf_tx ht).2
  | none =>
    have HT := Aside0.mk ht
    clear ht
    go_enter Try.func11, Try.ntmps11
    go_wp2_with fail
    refine (termOf_walk s _).mono ?_
    rintro e w1 ⟨v, rfl, hb, hres⟩
    obtain rfl : v = .pointer none := by
      rcases hres with ⟨t', h1, _⟩ | ⟨_, h⟩
      · rw [HT.out] at h1; cases h1
      · exact h
    have HR0 := Aside0.mk (Kd.R_below (own_empty w w.heap.size (Nat.le_refl _)) hb)
    have HB0 := Aside0.mk (show Below w.heap.size w w1 from ((Below.refl _ w).alloc (Nat.le_refl _) _).trans (hb.mono (by simp)))
    clear hb hres
    go_wp2
    go_ret
    exact ⟨_, rfl, HR0.out, HB0.out⟩
end Go.Proofs.YtpklhagedifglaaW.PrintMore
