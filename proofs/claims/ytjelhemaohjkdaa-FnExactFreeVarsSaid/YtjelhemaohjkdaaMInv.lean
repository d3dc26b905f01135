/-
  A drawn region by one invariant, and the activation behind it as a literal.
-/
import Derived.Test.YtjelhemaohjkdaaInv
namespace Go.Proofs.YtjelhemaohjkdaaW.PrintMore
set_option linter.unusedVariables false
set_option linter.unusedSimpArgs false
open Go.Proofs Go.Deep
open Go.RowKit Go.Proofs.YtjelhemaohjkdaaW.PrintWords
theorem region_phi2 {P : Program} {Q : Exit → Act → World → Prop} {ops : Array Oper} {id : Nat} {a : Act} {w : World} (φ : Nat → Value → World → Prop) (base : List Nat)
    (hm : P.follows .mixedOrders = true) (hf : fwd ops = true) (hd : dstOk ops base a.tmps.size = true)
    (hst : ∀ i v V V', Below V.heap.size V V' → φ i v V → φ i v V')
    (hs : PhiSteps P Q ops φ base a w 0 ops.toList)
    (he : ∀ (b : Act) (V : World), b.defers = a.defers → b.tmps.size = a.tmps.size → (∀ t, t ∈ base → b.eval (.tmp t) = a.eval (.tmp t)) → Below w.heap.size w V →
      (∀ j d, ops[j]?.bind (fun o : Oper => o.dst) = some d → φ j (b.eval (.tmp d)) V) → Q .normal b V) : (Code.region id ops true).wp P Q a w := by
  unfold dstOk at hd
  simp only [Bool.and_eq_true, List.all_eq_true, decide_eq_true_eq] at hd
  obtain ⟨⟨hd1, hd2⟩, hd3⟩ := hd
  have hdst : ∀ (i : Nat) (o : Oper), ops[i]? = some o → ∃ d, o.dst = some d ∧ d < a.tmps.size ∧ d ∉ base := by
    intro i o ho
    have hm := hd1 o.dst (List.mem_map.2 ⟨o, by
      rw [Array.mem_toList_iff]
      exact Array.mem_of_getElem? ho, rfl⟩)
    cases h : o.dst with
    | none => rw [h] at hm; cases hm
    | some d =>
      rw [h] at hm
      simp at hm
      exact ⟨d, rfl, hm.1, hm.2⟩
  have hne : ∀ (i : Nat) (o : Oper) (d : Nat), ops[i]? = some o → o.dst = some d → ∀ (j : Nat) (o' : Oper) (d' : Nat), ops[j]? = some o' → o'.dst = some d' → j ≠ i → d' ≠ d := by
    intro i o d ho hod j o' d' ho' hod' hji e
    apply hji
    have hi : (ops.toList.map (fun o : Oper => o.dst))[i]? = some (some d) := by simp [ho, hod]
    have hj : (ops.toList.map (fun o : Oper => o.dst))[j]? = some (some d) := by simp [ho', hod', e]
    exact (List.getElem?_inj (by
      have := (List.getElem?_eq_some_iff.1 hj).1
      exact this) hd2).1 (hj.trans hi.symm)
  refine region_inv hm hf (fun L b V => b.defers = a.defers ∧ b.tmps.size = a.tmps.size ∧ (∀ t, t ∈ base → b.eval (.tmp t) = a.eval (.tmp t)) ∧ Below w.heap.size w V ∧
    ∀ j d, L j = true → ops[j]?.bind (fun o : Oper => o.dst) = some d → φ j (b.eval (.tmp d)) V) ?_ ?_ ?_
  · exact ⟨rfl, rfl, fun _ _ => rfl, below_drew1 (Below.refl _ w), fun _ _ h => by cases h⟩
  · intro i o ho L L' b V haf hLi hL' ⟨h1, h2, h3, h4, h5⟩ K hK
    have hg : o.guard = none := by
      have := hd3 o (by rw [Array.mem_toList_iff]; exact Array.mem_of_getElem? ho)
      simpa using this
    rw [if_pos (by simp [Region.wanted, hg])]
    have hst0 : PhiStep P Q ops φ base a w i o := by
      have := phiSteps_get ops.toList 0 hs i o (by simpa using ho)
      simpa using this
    obtain ⟨d, hod, hdl, hdb⟩ := hdst i o ho
    refine hst0 b V h1 h3 h4 ?_ K ?_
    · intro j dj hw hj
      refine h5 j dj ?_ hj
      unfold waits at hw
      rw [List.any_eq_true] at hw
      obtain ⟨e, he, hb⟩ := hw
      simp only [Bool.and_eq_true, beq_iff_eq] at hb
      rw [← hb.1]
      exact haf e (by simpa using he) hb.2
    · intro v V' hV hv
      refine hK _ _ ⟨by rw [put_defers]; exact h1, by rw [put_size]; exact h2, ?_, h4.trans (hV.mono h4.size), ?_⟩
      · intro t ht
        rw [hod]
        show ev _ t = _
        rw [ev_put _ _ _ _ (h2 ▸ hdl), if_neg (by rintro rfl; exact hdb ht)]
        exact h3 t ht
      · intro j dj hLj hj
        rw [hod]
        show φ j (ev _ dj) V'
        rw [ev_put _ _ _ _ (h2 ▸ hdl)]
        rw [hL' j] at hLj
        by_cases hji : j = i
        · subst hji
          rw [ho] at hj
          simp only [Option.bind_some, hod, Option.some.injEq] at hj
          rw [if_pos hj.symm]
          exact hv
        · rw [if_neg hji] at hLj
          have hj2 := hj
          cases hoj : ops[j]? with
          | none => rw [hoj] at hj2; cases hj2
          | some oj =>
            rw [hoj] at hj2
            rw [if_neg (hne i o d ho hod j oj dj hoj hj2 hji)]
            exact hst j _ V V' hV (h5 j dj hLj hj)
  · intro L b V hall ⟨h1, h2, h3, h4, h5⟩
    refine he b V h1 h2 h3 h4 fun j d hj => h5 j d (hall j ?_) hj
    cases hoj : ops[j]? with
    | none => rw [hoj] at hj; cases hj
    | some oj => exact (Array.getElem?_eq_some_iff.1 hoj).1
theorem act_lit (b : Act) (n : Nat) (h : b.tmps.size = n) (hd : b.defers = []) : ∃ f : Nat → Value, (∀ t, f t = b.eval (.tmp t)) ∧ b = { tmps := ((List.range n).map f).toArray, defers := [] } := by
  refine ⟨fun t => b.eval (.tmp t), fun _ => rfl, ?_⟩
  obtain ⟨tm, df⟩ := b
  simp only at h hd
  subst hd
  congr 1
  apply Array.ext_getElem?
  intro i
  simp only [List.getElem?_toArray, List.getElem?_map]
  by_cases hi : i < n
  · rw [List.getElem?_range hi]
    simp only [Option.map_some, Act.eval, Array.getD_eq_getD_getElem?]
    rw [Array.getElem?_eq_getElem (by omega)]
    rfl
  · rw [Array.getElem?_eq_none (by omega), List.getElem?_eq_none (by rw [List.length_range]; omega)]
    rfl
end Go.Proofs.YtjelhemaohjkdaaW.PrintMore
namespace Go.Proofs.YtjelhemaohjkdaaW.PrintMore
set_option linter.unusedVariables false
set_option linter.unusedSimpArgs false
open Go.Proofs Go.Deep
open Go.RowKit Go.Proofs.YtjelhemaohjkdaaW.PrintWords
def dstOkS (ops : Array Oper) (s : Nat) (base : List Nat) (n : Nat) : Bool :=
  ((List.range ops.size).all fun i => match ops[i]? with
    | none => true
    | some o => o.guard.isNone && (i == s || (match o.dst with | none => false | some d => decide (d < n) && !base.contains d))) &&
  (List.range ops.size).all fun i => (List.range ops.size).all fun j => i == j || i == s || j == s || !(ops[i]?.bind (fun o : Oper => o.dst) == ops[j]?.bind (fun o : Oper => o.dst))
/-- Everything else comes ahead of number s. -/
def lastOf (ops : Array Oper) (s : Nat) : Bool := match ops[s]? with
  | none => false
  | some o => (List.range ops.size).all fun j => j == s || waits o j || o.after.toList.any fun e => Region.binds .any e && (match ops[e.on]? with | none => false | some o' => waits o' j)
def PhiStepsS (P : Program) (Q : Exit → Act → World → Prop) (ops : Array Oper) (φ : Nat → Value → World → Prop) (base : List Nat) (a : Act) (w : World) (s : Nat) : Nat → List Oper → Prop
  | _, [] => True
  | i, o :: os => (i ≠ s → PhiStep P Q ops φ base a w i o) ∧ PhiStepsS P Q ops φ base a w s (i + 1) os
theorem phiStepsS_get {P : Program} {Q : Exit → Act → World → Prop} {ops : Array Oper} {φ : Nat → Value → World → Prop} {base : List Nat} {a : Act} {w : World} {s : Nat} :
    ∀ (os : List Oper) (k : Nat), PhiStepsS P Q ops φ base a w s k os → ∀ i o, os[i]? = some o → k + i ≠ s → PhiStep P Q ops φ base a w (k + i) o
  | [], _, _, i, o, ho, _ => by simp at ho
  | o' :: os, k, h, 0, o, ho, hs => by simp at ho; subst ho; exact h.1 hs
  | o' :: os, k, h, i + 1, o, ho, hs => by
    have := phiStepsS_get os (k + 1) h.2 i o (by simpa using ho) (by omega)
    rw [show k + (i + 1) = k + 1 + i from by omega]
    exact this
theorem region_phi3 {P : Program} {Q : Exit → Act → World → Prop} {ops : Array Oper} {id : Nat} {a : Act} {w : World} (φ : Nat → Value → World → Prop) (base : List Nat) (s : Nat) (os : Oper) (hos : ops[s]? = some os)
    (hm : P.follows .mixedOrders = true) (hf : fwd ops = true) (hd : dstOkS ops s base a.tmps.size = true) (hl : lastOf ops s = true)
    (hst : ∀ i v V V', Below V.heap.size V V' → φ i v V → φ i v V')
    (hs : PhiStepsS P Q ops φ base a w s 0 ops.toList)
    (he : ∀ (b : Act) (V : World), b.defers = a.defers → b.tmps.size = a.tmps.size → (∀ t, t ∈ base → b.eval (.tmp t) = a.eval (.tmp t)) → Below w.heap.size w V →
      (∀ j d, j ≠ s → ops[j]?.bind (fun o : Oper => o.dst) = some d → φ j (b.eval (.tmp d)) V) →
      ∀ K : Act → World → Prop, (∀ a' V', Q .normal a' V' → K a' V') → Oper.wp P os b V K Q) : (Code.region id ops true).wp P Q a w := by
  have hlt : ∀ (i : Nat) (o : Oper), ops[i]? = some o → i < ops.size := fun i o ho => (Array.getElem?_eq_some_iff.1 ho).1
  unfold dstOkS at hd
  simp only [Bool.and_eq_true, List.all_eq_true, List.mem_range] at hd
  obtain ⟨hd1, hd2⟩ := hd
  have hdst : ∀ (i : Nat) (o : Oper), ops[i]? = some o → o.guard = none ∧ (i ≠ s → ∃ d, o.dst = some d ∧ d < a.tmps.size ∧ d ∉ base) := by
    intro i o ho
    have h1 := hd1 i (hlt i o ho)
    rw [ho] at h1
    simp only [Bool.and_eq_true, Bool.or_eq_true, beq_iff_eq] at h1
    refine ⟨by simpa using h1.1, fun hi => ?_⟩
    rcases h1.2 with h | h
    · exact absurd h hi
    · cases hod : o.dst with
      | none => rw [hod] at h; cases h
      | some d => rw [hod] at h; simp at h; exact ⟨d, rfl, h.1, h.2⟩
  have hne : ∀ (i : Nat) (o : Oper) (d : Nat), ops[i]? = some o → o.dst = some d → i ≠ s → ∀ (j : Nat) (o' : Oper) (d' : Nat), ops[j]? = some o' → o'.dst = some d' → j ≠ s → j ≠ i → d' ≠ d := by
    intro i o d ho hod his j o' d' ho' hod' hjs hji e
    have h := hd2 i (hlt i o ho) j (hlt j o' ho')
    rw [ho, ho'] at h
    simp only [Option.bind_some, hod, hod', e, Bool.or_eq_true, beq_iff_eq, Bool.not_eq_true', beq_self_eq_true] at h
    rcases h with ((h | h) | h) | h
    · exact hji h.symm
    · exact his h
    · exact hjs h
    · cases h
  have hall : ∀ L : Nat → Bool, (∀ i o, ops[i]? = some o → L i = true → ∀ e ∈ o.after, Region.binds .any e = true → L e.on = true) → (∀ e ∈ os.after, Region.binds .any e = true → L e.on = true) → ∀ j, j < ops.size → j ≠ s → L j = true := by
    intro L hcl haf j hj hjs
    unfold lastOf at hl
    rw [hos] at hl
    simp only [List.all_eq_true, List.mem_range] at hl
    have h := hl j hj
    have hw : ∀ (o : Oper), waits o j = true → (∀ e ∈ o.after, Region.binds .any e = true → L e.on = true) → L j = true := by
      intro o hw ha
      unfold waits at hw
      rw [List.any_eq_true] at hw
      obtain ⟨e, he, hb⟩ := hw
      simp only [Bool.and_eq_true, beq_iff_eq] at hb
      rw [← hb.1]
      exact ha e (by simpa using he) hb.2
    simp only [Bool.or_eq_true, beq_iff_eq, List.any_eq_true, Bool.and_eq_true] at h
    rcases h with (h | h) | ⟨e, he1, hb, h⟩
    · exact absurd h hjs
    · exact hw os h haf
    · cases ho' : ops[e.on]? with
      | none => rw [ho'] at h; cases h
      | some o' =>
        rw [ho'] at h
        exact hw o' h (hcl e.on o' ho' (haf e (by simpa using he1) hb))
  refine region_inv hm hf (fun L b V => (∀ i o, ops[i]? = some o → L i = true → ∀ e ∈ o.after, Region.binds .any e = true → L e.on = true) ∧ ((L s = false ∧ b.defers = a.defers ∧ b.tmps.size = a.tmps.size ∧ (∀ t, t ∈ base → b.eval (.tmp t) = a.eval (.tmp t)) ∧ Below w.heap.size w V ∧
    ∀ j d, j ≠ s → L j = true → ops[j]?.bind (fun o : Oper => o.dst) = some d → φ j (b.eval (.tmp d)) V) ∨ ((∀ i, i < ops.size → L i = true) ∧ Q .normal b V))) ?_ ?_ ?_
  · exact ⟨fun _ _ _ h => (by cases h), .inl ⟨rfl, rfl, rfl, fun _ _ => rfl, below_drew1 (Below.refl _ w), fun _ _ _ h => (by cases h)⟩⟩
  · intro i o ho L L' b V haf hLi hL' ⟨hcl, hI⟩ K hK
    have hcl' : ∀ i o, ops[i]? = some o → L' i = true → ∀ e ∈ o.after, Region.binds .any e = true → L' e.on = true := by
      intro i' o' ho' hi' e he' hb'
      have : L e.on = true := by
        rw [hL' i'] at hi'
        by_cases hii : i' = i
        · subst hii; rw [ho] at ho'; cases ho'; exact haf e he' hb'
        · rw [if_neg hii] at hi'; exact hcl i' o' ho' hi' e he' hb'
      rw [hL' e.on]
      split
      · rfl
      · exact this
    have hg := (hdst i o ho).1
    rw [if_pos (by simp [Region.wanted, hg])]
    rcases hI with ⟨hLs, h1, h2, h3, h4, h5⟩ | ⟨h1, _⟩
    · by_cases his : i = s
      · subst his
        rw [hos] at ho; cases ho
        have hA := hall L hcl haf
        refine he b V h1 h2 h3 h4 (fun j d hj hjd => h5 j d hj (hA j ?_ hj) hjd) K (fun a' V' hQ => hK _ _ ⟨hcl', .inr ⟨fun j hj => ?_, hQ⟩⟩)
        · cases hoj : ops[j]? with
          | none => rw [hoj] at hjd; cases hjd
          | some oj => exact hlt j oj hoj
        · rw [hL' j]
          split
          · rfl
          · rename_i hji; exact hA j hj hji
      · obtain ⟨d, hod, hdl, hdb⟩ := (hdst i o ho).2 his
        have hst0 : PhiStep P Q ops φ base a w i o := by
          have := phiStepsS_get ops.toList 0 hs i o (by simpa using ho) (by omega)
          simpa using this
        refine hst0 b V h1 h3 h4 ?_ K ?_
        · intro j dj hw hj
          have hjs : j ≠ s := by
            rintro rfl
            unfold waits at hw
            rw [List.any_eq_true] at hw
            obtain ⟨e, he', hb⟩ := hw
            simp only [Bool.and_eq_true, beq_iff_eq] at hb
            have := haf e (by simpa using he') hb.2
            rw [hb.1, hLs] at this
            cases this
          refine h5 j dj hjs ?_ hj
          unfold waits at hw
          rw [List.any_eq_true] at hw
          obtain ⟨e, he', hb⟩ := hw
          simp only [Bool.and_eq_true, beq_iff_eq] at hb
          rw [← hb.1]
          exact haf e (by simpa using he') hb.2
        · intro v V' hV hv
          refine hK _ _ ⟨hcl', .inl ⟨by rw [hL' s, if_neg (fun e => his e.symm)]; exact hLs, by rw [put_defers]; exact h1, by rw [put_size]; exact h2, ?_, h4.trans (hV.mono h4.size), ?_⟩⟩
          · intro t ht
            rw [hod]
            show ev _ t = _
            rw [ev_put _ _ _ _ (h2 ▸ hdl), if_neg (by rintro rfl; exact hdb ht)]
            exact h3 t ht
          · intro j dj hjs hLj hj
            rw [hod]
            show φ j (ev _ dj) V'
            rw [ev_put _ _ _ _ (h2 ▸ hdl)]
            rw [hL' j] at hLj
            by_cases hji : j = i
            · subst hji
              rw [ho] at hj
              simp only [Option.bind_some, hod, Option.some.injEq] at hj
              rw [if_pos hj.symm]
              exact hv
            · rw [if_neg hji] at hLj
              have hj2 := hj
              cases hoj : ops[j]? with
              | none => rw [hoj] at hj2; cases hj2
              | some oj =>
                rw [hoj] at hj2
                rw [if_neg (hne i o d ho hod his j oj dj hoj hj2 hjs hji)]
                exact hst j _ V V' hV (h5 j dj hjs hLj hj)
    · exfalso
      have := h1 i (hlt i o ho)
      rw [hLi] at this
      cases this
  · intro L b V hA ⟨_, hI⟩
    rcases hI with ⟨hLs, _⟩ | ⟨_, hQ⟩
    · exfalso
      have := hA s (hlt s os hos)
      rw [hLs] at this
      cases this
    · exact hQ
end Go.Proofs.YtjelhemaohjkdaaW.PrintMore
