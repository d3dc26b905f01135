/-
  Cut to what this claim uses.
-/
import Derived.Test.YtpklhagedifglaaQMR
import Derived.Test.YtpklhagedifglaaQTermRe
namespace Go.Proofs.YtpklhagedifglaaW.PrintMore
set_option linter.unusedVariables false
set_option linter.unusedSimpArgs false
open Go.Proofs Go.Deep
open Go.RowKit Go.Proofs.YtpklhagedifglaaW.PrintWords
theorem un_not : ∀ c : UInt8, isUn c = true → (isVar c || isDig c) = false := by
  intro c h
  rcases isUn_cases h with rfl | rfl | rfl | rfl | rfl | rfl | rfl <;> decide
theorem ok_re : ∀ t : Tm, t.ok → Re t := by
  intro t
  induction t with
  | leaf c =>
    intro hc m r' hm
    simp only [Tm.tx, ByteArray.size_append, bsz1] at hm
    obtain ⟨m, rfl⟩ : ∃ j, m = j + 1 := ⟨m - 1, by omega⟩
    show parse (m + 1) (c :: r') = _
    unfold parse
    rw [if_pos (show (isVar c || isDig c) = true from hc)]
  | un c x ih =>
    intro h m r' hm
    simp only [Tm.tx, ByteArray.size_append, bsz1] at hm
    simp only [Tm.tx, app_list]
    obtain ⟨m, rfl⟩ : ∃ j, m = j + 1 := ⟨m - 1, by omega⟩
    have k2 := ih h.2 m r' (by omega)
    show parse (m + 1) (c :: (x.tx.data.toList ++ r')) = _
    unfold parse
    rw [if_neg (by rw [un_not c h.1]; decide), if_pos h.1, k2]; rfl
  | bin g x y ih1 ih2 =>
    intro h m r' hm
    simp only [Tm.tx, ByteArray.size_append, bsz1] at hm
    simp only [Tm.tx, app_list]
    obtain ⟨m, rfl⟩ : ∃ j, m = j + 1 := ⟨m - 1, by omega⟩
    have q1 := ih1 h.2.1 m (g :: (y.tx.data.toList ++ (41 :: r'))) (by omega)
    have q2 := ih2 h.2.2 m (41 :: r') (by omega)
    have e : ((⟨#[40]⟩ : ByteArray).data.toList ++ x.tx.data.toList ++ (ch g).data.toList ++ y.tx.data.toList ++ (⟨#[41]⟩ : ByteArray).data.toList) ++ r' = 40 :: (x.tx.data.toList ++ (g :: (y.tx.data.toList ++ (41 :: r')))) := by simp
    rw [e]
    unfold parse
    rw [if_neg (by decide), if_neg (by decide), if_pos rfl, q1]
    simp only [Option.bind_some, h.1, if_true, q2]
  | loop c v x y ih1 ih2 =>
    intro h m r' hm
    simp only [Tm.tx, ByteArray.size_append, bsz1] at hm
    simp only [Tm.tx, app_list]
    obtain ⟨m, rfl⟩ : ∃ j, m = j + 1 := ⟨m - 1, by omega⟩
    have q1 := ih1 h.2.2.1 m (62 :: (y.tx.data.toList ++ ((c + 2) :: r'))) (by omega)
    have q2 := ih2 h.2.2.2 m ((c + 2) :: r') (by omega)
    have e : ((ch c).data.toList ++ (ch v).data.toList ++ (⟨#[58]⟩ : ByteArray).data.toList ++ x.tx.data.toList ++ (⟨#[62]⟩ : ByteArray).data.toList ++ y.tx.data.toList ++ (ch (c + 2)).data.toList) ++ r' = c :: v :: 58 :: (x.tx.data.toList ++ (62 :: (y.tx.data.toList ++ ((c + 2) :: r')))) := by simp
    rw [e]
    have n1 : ¬ (isVar c || isDig c) = true := by rcases h.1 with rfl | rfl <;> decide
    have n2 : ¬ isUn c = true := by rcases h.1 with rfl | rfl <;> decide
    have n3 : ¬ c = 40 := by rcases h.1 with rfl | rfl <;> decide
    unfold parse
    rw [if_neg n1, if_neg n2, if_neg n3, if_pos h.1]
    simp only [h.2.1, and_self, if_true, q1, Option.bind_some, q2]
/-- A good term's text is the term's. -/
theorem tmOf_ok' {x : Tm} (h : x.ok) (hx : x.tx.size ≤ 80) : tmOf x.tx.data.toList = some x := tmOf_re (ok_re x h) hx
/-- A variable that does not stand there is not replaced. -/
theorem pt_none (z : UInt8) (u n : Tm) (h : n.fc z = 0) : n.pt z u = some n := by
  cases n with
  | leaf c => rw [Tm.pt, if_pos h]
  | un c x => rw [Tm.pt, if_pos (show x.fc z = 0 from h)]
  | bin c x y => rw [Tm.pt, if_pos (show x.fc z + y.fc z = 0 from h)]
  | loop c b x y => rw [Tm.pt, if_pos h]
/-- What is left: the other ones and those of what came in. -/
theorem pt_free (z : UInt8) (u : Tm) : ∀ (n r : Tm), n.pt z u = some r → ∀ d, 0 < r.fc d → 0 < u.fc d ∨ (0 < n.fc d ∧ d ≠ z) := by
  have base : ∀ (n : Tm), n.fc z = 0 → ∀ d, 0 < n.fc d → 0 < u.fc d ∨ (0 < n.fc d ∧ d ≠ z) := fun n h d hd => .inr ⟨hd, fun e => by subst e; omega⟩
  intro n
  induction n with
  | leaf c =>
    intro r h d hd
    rw [Tm.pt] at h
    split at h
    · rename_i h0; cases h; exact base _ h0 d hd
    · cases h; exact .inl hd
  | un c x ih =>
    intro r h d hd
    rw [Tm.pt] at h
    split at h
    · rename_i h0; cases h; exact base (.un c x) h0 d hd
    · obtain ⟨x', h1, rfl⟩ := Option.map_eq_some_iff.1 h
      exact ih x' h1 d hd
  | bin c x y ih1 ih2 =>
    intro r h d hd
    rw [Tm.pt] at h
    split at h
    · rename_i h0; cases h; exact base (.bin c x y) h0 d hd
    · obtain ⟨x', h1, h2⟩ := Option.bind_eq_some_iff.1 h
      obtain ⟨y', h3, rfl⟩ := Option.map_eq_some_iff.1 h2
      rw [Tm.fc] at hd ⊢
      by_cases c1 : 0 < x'.fc d
      · rcases ih1 x' h1 d c1 with h | ⟨h, h'⟩
        · exact .inl h
        · exact .inr ⟨by omega, h'⟩
      · rcases ih2 y' h3 d (by omega) with h | ⟨h, h'⟩
        · exact .inl h
        · exact .inr ⟨by omega, h'⟩
  | loop c b x y ih1 ih2 =>
    intro r h d hd
    rw [Tm.pt] at h
    split at h
    · rename_i h0; cases h; exact base (.loop c b x y) h0 d hd
    · obtain ⟨x', h1, h2⟩ := Option.bind_eq_some_iff.1 h
      have hx : 0 < x'.fc d → 0 < u.fc d ∨ (0 < (Tm.loop c b x y).fc d ∧ d ≠ z) := fun c1 => by
        rcases ih1 x' h1 d c1 with h | ⟨h, h'⟩
        · exact .inl h
        · exact .inr ⟨by rw [Tm.fc]; omega, h'⟩
      split at h2
      · rename_i hb
        cases h2
        rw [Tm.fc] at hd
        by_cases c1 : 0 < x'.fc d
        · exact hx c1
        · by_cases e : d = b
          · rw [if_pos e] at hd; omega
          · rw [if_neg e] at hd
            exact .inr ⟨by rw [Tm.fc, if_neg e]; omega, fun e2 => e (e2.trans hb.symm)⟩
      split at h2
      · cases h2
      · obtain ⟨y', h3, rfl⟩ := Option.map_eq_some_iff.1 h2
        rw [Tm.fc] at hd
        by_cases c1 : 0 < x'.fc d
        · exact hx c1
        · by_cases e : d = b
          · rw [if_pos e] at hd; omega
          · rw [if_neg e] at hd
            rcases ih2 y' h3 d (by omega) with h | ⟨h, h'⟩
            · exact .inl h
            · exact .inr ⟨by rw [Tm.fc, if_neg e]; omega, h'⟩
/-- A variable replaced by itself. -/
theorem pt_self (z : UInt8) (hz : isDig z = false) : ∀ n : Tm, n.pt z (.leaf z) = some n := by
  intro n
  induction n with
  | leaf c =>
    rw [Tm.pt]
    split
    · rfl
    · rename_i h
      rw [Tm.fc] at h
      split at h
      · rename_i h2; rw [h2.2]
      · omega
  | un c x ih => rw [Tm.pt]; split; rfl; rw [ih]; rfl
  | bin c x y ih1 ih2 => rw [Tm.pt]; split; rfl; rw [ih1, Option.bind_some, ih2]; rfl
  | loop c b x y ih1 ih2 =>
    rw [Tm.pt]
    split
    · rfl
    · rw [ih1, Option.bind_some]
      split
      · rfl
      · rename_i hb
        rw [if_neg (fun h => by
          have h2 := h.2
          rw [Tm.fc] at h2
          split at h2
          · rename_i h3; exact hb h3.2
          · omega), ih2]; rfl
/-- A depth hangs on the variables that stand there alone. -/
theorem dp_same : ∀ (t : Tm) (F G : Dp), (∀ d, 0 < t.fc d → F d = G d) → t.dp F = t.dp G := by
  intro t
  induction t with
  | leaf c =>
    intro F G h
    rw [Tm.dp, Tm.dp]
    split
    · rfl
    · rename_i hc
      exact h c (by rw [Tm.fc, if_pos ⟨by simpa using hc, rfl⟩]; omega)
  | un c x ih => intro F G h; rw [Tm.dp, Tm.dp, ih F G h]
  | bin c x y ih1 ih2 => intro F G h; rw [Tm.dp, Tm.dp, ih1 F G (fun d hd => h d (by rw [Tm.fc]; omega)), ih2 F G (fun d hd => h d (by rw [Tm.fc]; omega))]
  | loop c b x y ih1 ih2 =>
    intro F G h
    have hx := ih1 F G (fun d hd => h d (by rw [Tm.fc]; omega))
    rw [Tm.dp, Tm.dp, hx, ih2 (updD F b (wrap64 (x.dp G - 1))) (updD G b (wrap64 (x.dp G - 1))) (fun d hd => by
      unfold updD
      by_cases e : d = b
      · rw [if_pos e, if_pos e]
      · rw [if_neg e, if_neg e]; exact h d (by rw [Tm.fc, if_neg e]; omega))]
/-- What is replaced by something of its depth keeps the depth. -/
theorem pt_depth (z : UInt8) (u : Tm) : ∀ (n r : Tm) (F : Dp), n.pt z u = some r → F z = u.dp F → r.dp F = n.dp F := by
  intro n
  induction n with
  | leaf c =>
    intro r F h hF
    rw [Tm.pt] at h
    split at h
    · cases h; rfl
    · rename_i h0
      cases h
      rw [Tm.fc] at h0
      split at h0
      · rename_i h2
        rw [Tm.dp, h2.1, if_neg (by simp), ← h2.2, hF]
      · omega
  | un c x ih =>
    intro r F h hF
    rw [Tm.pt] at h
    split at h
    · cases h; rfl
    · obtain ⟨x', h1, rfl⟩ := Option.map_eq_some_iff.1 h
      rw [Tm.dp, Tm.dp, ih x' F h1 hF]
  | bin c x y ih1 ih2 =>
    intro r F h hF
    rw [Tm.pt] at h
    split at h
    · cases h; rfl
    · obtain ⟨x', h1, h2⟩ := Option.bind_eq_some_iff.1 h
      obtain ⟨y', h3, rfl⟩ := Option.map_eq_some_iff.1 h2
      rw [Tm.dp, Tm.dp, ih1 x' F h1 hF, ih2 y' F h3 hF]
  | loop c b x y ih1 ih2 =>
    intro r F h hF
    rw [Tm.pt] at h
    split at h
    · cases h; rfl
    · obtain ⟨x', h1, h2⟩ := Option.bind_eq_some_iff.1 h
      have hx := ih1 x' F h1 hF
      split at h2
      · cases h2
        rw [Tm.dp, Tm.dp, hx]
      split at h2
      · cases h2
      · rename_i hb hcap
        obtain ⟨y', h3, rfl⟩ := Option.map_eq_some_iff.1 h2
        rw [Tm.dp, Tm.dp, hx]
        by_cases hy : y.fc z = 0
        · rw [pt_none z u y hy] at h3
          cases h3; rfl
        · have hub : u.fc b = 0 := by
            by_cases c1 : u.fc b = 0
            · exact c1
            · exact absurd ⟨by omega, by omega⟩ hcap
          rw [ih2 y' (updD F b (wrap64 (x.dp F - 1))) h3 (by
            rw [dp_same u (updD F b (wrap64 (x.dp F - 1))) F (fun d hd => by
              unfold updD
              rw [if_neg (fun e => by subst e; omega)])]
            unfold updD
            rw [if_neg (fun e => hb e.symm)]
            exact hF)]
end Go.Proofs.YtpklhagedifglaaW.PrintMore
