/-
  Cut to what this claim uses.
-/
import Derived.Test.YtpklhagedifglaaQTermT
namespace Go.Proofs.YtpklhagedifglaaW.PrintMore
set_option linter.unusedVariables false
set_option linter.unusedSimpArgs false
open Go.Proofs Go.Deep
open Go.RowKit Go.Proofs.YtpklhagedifglaaW.PrintWords
/-- The text of x is read as x, whatever follows. -/
def Re (x : Tm) : Prop := ∀ (m : Nat) (r' : List UInt8), x.tx.size ≤ m → parse m (x.tx.data.toList ++ r') = some (x, r')
def ReS : Tm → Prop
  | .leaf _ => True
  | .un _ x => Re x
  | .bin _ x y => Re x ∧ Re y
  | .loop _ _ x y => Re x ∧ Re y
theorem bsz1 (x : UInt8) : (⟨#[x]⟩ : ByteArray).size = 1 := rfl
theorem parse_re : ∀ (n : Nat) (l : List UInt8) (t : Tm) (r : List UInt8), parse n l = some (t, r) → Re t ∧ ReS t := by
  intro n
  induction n with
  | zero => intro l t r h; simp [parse] at h
  | succ n ih =>
    intro l t r h
    cases l with
    | nil => simp [parse] at h
    | cons c l =>
      unfold parse at h
      split at h
      · rename_i hc
        cases h
        refine ⟨fun m r' hm => ?_, trivial⟩
        simp only [Tm.tx, ByteArray.size_append, bsz1] at hm
        obtain ⟨m, rfl⟩ : ∃ j, m = j + 1 := ⟨m - 1, by omega⟩
        show parse (m + 1) (c :: r') = _
        unfold parse
        rw [if_pos hc]
      rename_i hn1
      split at h
      · rename_i hc
        obtain ⟨⟨x, r1⟩, h1, h2⟩ := Option.bind_eq_some_iff.1 h
        cases h2
        obtain ⟨k1, _⟩ := ih _ _ _ h1
        refine ⟨fun m r' hm => ?_, k1⟩
        simp only [Tm.tx, ByteArray.size_append, bsz1] at hm
        simp only [Tm.tx, app_list]
        obtain ⟨m, rfl⟩ : ∃ j, m = j + 1 := ⟨m - 1, by omega⟩
        have k2 := k1 m r' (by omega)
        show parse (m + 1) (c :: (x.tx.data.toList ++ r')) = _
        unfold parse
        rw [if_neg hn1, if_pos hc, k2]; rfl
      rename_i hn2
      split at h
      · rename_i hc
        obtain ⟨⟨x, r1⟩, h1, h2⟩ := Option.bind_eq_some_iff.1 h
        obtain ⟨k1, _⟩ := ih _ _ _ h1
        cases r1 with
        | nil => cases h2
        | cons g r1 =>
          simp only at h2
          split at h2
          · rename_i hg
            obtain ⟨⟨y, r2⟩, h3, h4⟩ := Option.bind_eq_some_iff.1 h2
            obtain ⟨k2, _⟩ := ih _ _ _ h3
            cases r2 with
            | nil => cases h4
            | cons d r2 =>
              simp only at h4
              split at h4
              · rename_i hd
                cases h4
                refine ⟨fun m r' hm => ?_, k1, k2⟩
                simp only [Tm.tx, ByteArray.size_append, bsz1] at hm
                simp only [Tm.tx, app_list]
                obtain ⟨m, rfl⟩ : ∃ j, m = j + 1 := ⟨m - 1, by omega⟩
                have q1 := k1 m (g :: (y.tx.data.toList ++ (41 :: r'))) (by omega)
                have q2 := k2 m (41 :: r') (by omega)
                have e : ((⟨#[40]⟩ : ByteArray).data.toList ++ x.tx.data.toList ++ (ch g).data.toList ++ y.tx.data.toList ++ (⟨#[41]⟩ : ByteArray).data.toList) ++ r' = 40 :: (x.tx.data.toList ++ (g :: (y.tx.data.toList ++ (41 :: r')))) := by simp
                rw [e]
                unfold parse
                rw [if_neg (hc ▸ hn1), if_neg (hc ▸ hn2), if_pos rfl, q1]
                simp only [Option.bind_some, hg, if_true, q2]
              · cases h4
          · cases h2
      rename_i hn3
      split at h
      · rename_i hlc
        split at h
        · split at h
          · rename_i v k l' hb
            obtain ⟨⟨x, r1⟩, h1, h2⟩ := Option.bind_eq_some_iff.1 h
            obtain ⟨k1, _⟩ := ih _ _ _ h1
            cases r1 with
            | nil => cases h2
            | cons g r1 =>
              simp only at h2
              split at h2
              · rename_i hg
                obtain ⟨⟨y, r2⟩, h3, h4⟩ := Option.bind_eq_some_iff.1 h2
                obtain ⟨k2, _⟩ := ih _ _ _ h3
                cases r2 with
                | nil => cases h4
                | cons d r2 =>
                  simp only at h4
                  split at h4
                  · rename_i hd
                    cases h4
                    refine ⟨fun m r' hm => ?_, k1, k2⟩
                    simp only [Tm.tx, ByteArray.size_append, bsz1] at hm
                    simp only [Tm.tx, app_list]
                    obtain ⟨m, rfl⟩ : ∃ j, m = j + 1 := ⟨m - 1, by omega⟩
                    have q1 := k1 m (62 :: (y.tx.data.toList ++ ((c + 2) :: r'))) (by omega)
                    have q2 := k2 m ((c + 2) :: r') (by omega)
                    have e : ((ch c).data.toList ++ (ch v).data.toList ++ (⟨#[58]⟩ : ByteArray).data.toList ++ x.tx.data.toList ++ (⟨#[62]⟩ : ByteArray).data.toList ++ y.tx.data.toList ++ (ch (c + 2)).data.toList) ++ r' = c :: v :: 58 :: (x.tx.data.toList ++ (62 :: (y.tx.data.toList ++ ((c + 2) :: r')))) := by simp
                    rw [e]
                    unfold parse
                    rw [if_neg hn1, if_neg hn2, if_neg hn3, if_pos hlc]
                    simp only [hb.1, and_self, if_true, q1, Option.bind_some, q2]
                  · cases h4
              · cases h2
          · cases h
        · cases h
      · cases h
/-- A part's text is the part's. -/
theorem tmOf_re {x : Tm} (h : Re x) (hx : x.tx.size ≤ 80) : tmOf x.tx.data.toList = some x := by
  unfold tmOf
  rw [if_pos (by rw [← size_list]; exact hx)]
  have := h x.tx.data.toList.length [] (by rw [size_list]; exact Nat.le_refl _)
  rw [List.append_nil] at this
  rw [this]
theorem tmOf_parts {l : List UInt8} {t : Tm} (h : tmOf l = some t) : ReS t := by
  unfold tmOf at h
  split at h
  · split at h
    · rename_i h2; cases h; exact (parse_re _ _ _ _ h2).2
    · cases h
  · cases h
/-- What a sign is. -/
def SgS : Tm → Prop
  | .leaf c => (isVar c || isDig c) = true
  | .un c _ => isUn c = true
  | .bin c _ _ => isBin c = true
  | .loop c _ _ _ => c = 91 ∨ c = 123
theorem parse_sg {n : Nat} {l : List UInt8} {t : Tm} {r : List UInt8} (h : parse n l = some (t, r)) : SgS t := by
  cases n with
  | zero => simp [parse] at h
  | succ n =>
    cases l with
    | nil => simp [parse] at h
    | cons c l =>
      unfold parse at h
      split at h
      · cases h; assumption
      split at h
      · obtain ⟨⟨x, r1⟩, h1, h2⟩ := Option.bind_eq_some_iff.1 h
        cases h2; assumption
      split at h
      · obtain ⟨⟨x, r1⟩, h1, h2⟩ := Option.bind_eq_some_iff.1 h
        cases r1 with
        | nil => cases h2
        | cons g r1 =>
          simp only at h2
          split at h2
          · rename_i hg
            obtain ⟨⟨y, r2⟩, h3, h4⟩ := Option.bind_eq_some_iff.1 h2
            cases r2 with
            | nil => cases h4
            | cons d r2 =>
              simp only at h4
              split at h4
              · cases h4; exact hg
              · cases h4
          · cases h2
      split at h
      · rename_i hlc
        split at h
        · split at h
          · obtain ⟨⟨x, r1⟩, h1, h2⟩ := Option.bind_eq_some_iff.1 h
            cases r1 with
            | nil => cases h2
            | cons g r1 =>
              simp only at h2
              split at h2
              · obtain ⟨⟨y, r2⟩, h3, h4⟩ := Option.bind_eq_some_iff.1 h2
                cases r2 with
                | nil => cases h4
                | cons d r2 =>
                  simp only at h4
                  split at h4
                  · cases h4; exact hlc
                  · cases h4
              · cases h2
          · cases h
        · cases h
      · cases h
theorem tmOf_sg {l : List UInt8} {t : Tm} (h : tmOf l = some t) : SgS t := by
  unfold tmOf at h
  split at h
  · split at h
    · rename_i h2; cases h; exact parse_sg h2
    · cases h
  · cases h
theorem sg_not : ∀ c : UInt8, ((isVar c || isDig c) = true ∨ isUn c = true ∨ isBin c = true) → c ≠ 91 ∧ c ≠ 123 := by
  intro c h
  refine ⟨?_, ?_⟩ <;> (rintro rfl; revert h; decide)
end Go.Proofs.YtpklhagedifglaaW.PrintMore
