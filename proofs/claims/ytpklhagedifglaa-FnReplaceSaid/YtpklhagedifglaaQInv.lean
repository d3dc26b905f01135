/-
  Cut to what this claim uses.
-/
import Derived.Deep.RegionHeld3
import Derived.Test.YtpklhagedifglaaQTermQ
namespace Go.Proofs.YtpklhagedifglaaW.PrintMore
set_option linter.unusedVariables false
set_option linter.unusedSimpArgs false
open Go.Proofs Go.Deep
open Go.RowKit Go.Proofs.YtpklhagedifglaaW.PrintWords
section
variable {P : Program} {ops : Array Oper} {Q : Exit → Act → World → Prop}
/-- How many are not listed. -/
def unl (l : Array Bool) : Nat := l.toList.count false
theorem unl_set (l : Array Bool) (i : Nat) (h : l.getD i true = false) : unl (l.setIfInBounds i true) + 1 = unl l := by
  unfold unl
  have hi : i < l.size := by
    by_cases hi : i < l.size
    · exact hi
    · rw [Array.getD_eq_getD_getElem?, Array.getElem?_eq_none (by omega)] at h
      cases h
  have hv : l.toList[i]'(by simpa using hi) = false := by
    rw [Array.getD_eq_getD_getElem?, Array.getElem?_eq_getElem hi] at h
    simpa using h
  have hc : 0 < l.toList.count false := List.count_pos_iff.2 (hv ▸ List.getElem_mem _)
  rw [Array.toList_setIfInBounds, List.count_set (by simpa using hi), hv]
  have e1 : (false == false) = true := rfl
  have e2 : ¬ ((true == false) = true) := by decide
  rw [if_pos e1, if_neg e2]
  omega
def dn (l : Array Bool) (i : Nat) : Bool := l.getD i false
theorem dn_set (l : Array Bool) (i j : Nat) (hi : i < l.size) : dn (l.setIfInBounds i true) j = if j = i then true else dn l j := by
  unfold dn
  by_cases h : j = i
  · subst h; simp [Array.getElem?_setIfInBounds, hi]
  · rw [getD_set_ne false (fun x => h x.symm), if_neg h]
/-- No operation waits for a later one. -/
def fwd (ops : Array Oper) : Bool := (List.range ops.size).all fun i => match ops[i]? with | none => true | some o => o.after.all fun e => decide (e.on < i)
theorem ready_all (hf : fwd ops = true) (l : Array Bool) (hl : l.size = ops.size) (hr : Region.ready .any ops l = []) : ∀ i, i < ops.size → dn l i = true := by
  intro i
  induction i using Nat.strongRecOn with
  | ind i ih =>
    intro hi
    cases hd : dn l i with
    | true => rfl
    | false =>
      exfalso
      have hm : i ∈ Region.ready .any ops l := by
        rw [mem_ready]
        refine ⟨?_, ops[i], Array.getElem?_eq_getElem hi, fun e he hb => ?_⟩
        · unfold dn at hd
          rw [Array.getD_eq_getD_getElem?, Array.getElem?_eq_getElem (by omega)] at hd ⊢
          simpa using hd
        · unfold fwd at hf
          rw [List.all_eq_true] at hf
          have := hf i (List.mem_range.2 hi)
          rw [Array.getElem?_eq_getElem hi] at this
          simp only [Array.all_eq_true_iff_forall_mem] at this
          have h2 := of_decide_eq_true (this e he)
          exact ih e.on h2 (by omega)
      rw [hr] at hm
      cases hm
theorem inv_any (hf : fwd ops = true) (I : (Nat → Bool) → Act → World → Prop)
    (hs : ∀ (i : Nat) (o : Oper), ops[i]? = some o → ∀ (L L' : Nat → Bool) (a : Act) (w : World), (∀ e ∈ o.after, Region.binds .any e = true → L e.on = true) → L i = false → (∀ j, L' j = if j = i then true else L j) → I L a w →
      ∀ K : Act → World → Prop, (∀ a' w', I L' a' w' → K a' w') → if Region.wanted o (yielded ops a.tmps) = true then Oper.wp P o a w K Q else K (a.put o.dst undef) w)
    (he : ∀ L a w, (∀ i, i < ops.size → L i = true) → I L a w → Q .normal a w) :
    ∀ (n : Nat) (l : Array Bool) (a : Act) (w : World), unl l = n → l.size = ops.size → I (dn l) a w → wpAnyH P .any ops Q (fun _ => True) n l a w := by
  intro n
  induction n with
  | zero =>
    intro l a w hn hl hI
    have hr : Region.ready .any ops l = [] := by
      rw [List.eq_nil_iff_forall_not_mem]
      intro i hi
      have := unl_set l i (mem_ready.1 hi).1
      omega
    exact ⟨hr, he _ a w (ready_all hf l hl hr) hI⟩
  | succ n ih =>
    intro l a w hn hl hI
    refine ⟨fun hr => he _ a w (ready_all hf l hl hr) hI, fun i hi => ?_⟩
    obtain ⟨hu, o, ho, hall⟩ := mem_ready.1 hi
    have hil : i < l.size := by rw [hl]; exact (Array.getElem?_eq_some_iff.1 ho).1
    refine wpOp_step ho fun K' hK => ?_
    refine hs i o ho (dn l) (dn (l.setIfInBounds i true)) a w (fun e he hb => hall e he hb) (by
      unfold dn
      rw [Array.getD_eq_getD_getElem?, Array.getElem?_eq_getElem hil] at hu ⊢
      simpa using hu) (fun j => dn_set l i j hil) hI K' (fun a' w' hI' => hK a' w' ⟨trivial, ih _ a' w' ?_ ?_ hI'⟩)
    · have := unl_set l i hu; omega
    · rw [Array.size_setIfInBounds]; exact hl
theorem region_inv {id : Nat} {a : Act} {w : World} (hm : P.follows .mixedOrders = true) (hf : fwd ops = true) (I : (Nat → Bool) → Act → World → Prop)
    (h0 : I (fun _ => false) a w.drew)
    (hs : ∀ (i : Nat) (o : Oper), ops[i]? = some o → ∀ (L L' : Nat → Bool) (a : Act) (w : World), (∀ e ∈ o.after, Region.binds .any e = true → L e.on = true) → L i = false → (∀ j, L' j = if j = i then true else L j) → I L a w →
      ∀ K : Act → World → Prop, (∀ a' w', I L' a' w' → K a' w') → if Region.wanted o (yielded ops a.tmps) = true then Oper.wp P o a w K Q else K (a.put o.dst undef) w)
    (he : ∀ L a w, (∀ i, i < ops.size → L i = true) → I L a w → Q .normal a w) : (Code.region id ops true).wp P Q a w := by
  refine wp_region_held (S := fun _ => True) hm (inv_any hf I hs he _ _ _ _ ?_ (by simp) ?_)
  · unfold unl; simp [Array.toList_replicate, List.count_replicate]
  · have : dn (Array.replicate ops.size false) = fun _ => false := by
      funext j
      unfold dn
      by_cases h : j < ops.size <;> simp [Array.getElem?_replicate, h]
    rw [this]
    exact h0
end
def ev (a : Act) (t : Nat) : Value := a.tmps.getD t undef
theorem ev_put (a : Act) (d t : Nat) (v : Value) (h : d < a.tmps.size) : ev (a.put (some d) v) t = if t = d then v else ev a t := by
  unfold ev Act.put
  by_cases e : t = d
  · subst e; simp [Array.getElem?_setIfInBounds, h]
  · simp only [if_neg e, Array.getD_eq_getD_getElem?]
    rw [Array.getElem?_setIfInBounds_ne (fun x => e x.symm)]
theorem put_size (a : Act) (d : Option Nat) (v : Value) : (a.put d v).tmps.size = a.tmps.size := by
  cases d <;> simp [Act.put]
theorem put_defers (a : Act) (d : Option Nat) (v : Value) : (a.put d v).defers = a.defers := by
  cases d <;> rfl
/-- Each operation has a temporary of its own, no base temporary, in bounds; no guards. -/
def dstOk (ops : Array Oper) (base : List Nat) (n : Nat) : Bool :=
  let ds := ops.toList.map (fun o : Oper => o.dst)
  ds.all (fun d => match d with | none => false | some d => decide (d < n) && !base.contains d) && decide ds.Nodup && ops.toList.all (fun o : Oper => o.guard.isNone)
/-- o comes behind number j (in every mode). -/
def waits (o : Oper) (j : Nat) : Bool := o.after.toList.any fun e => e.on == j && Region.binds .any e
/-- What one operation owes. -/
def PhiStep (P : Program) (Q : Exit → Act → World → Prop) (ops : Array Oper) (φ : Nat → Value → World → Prop) (base : List Nat) (a : Act) (w : World) (i : Nat) (o : Oper) : Prop :=
  ∀ (b : Act) (V : World), b.defers = a.defers → (∀ t, t ∈ base → b.eval (.tmp t) = a.eval (.tmp t)) → Below w.heap.size w V →
    (∀ j d, waits o j = true → ops[j]?.bind (fun o : Oper => o.dst) = some d → φ j (b.eval (.tmp d)) V) →
    ∀ K : Act → World → Prop, (∀ v V', Below V.heap.size V V' → φ i v V' → K (b.put o.dst v) V') → Oper.wp P o b V K Q
def PhiSteps (P : Program) (Q : Exit → Act → World → Prop) (ops : Array Oper) (φ : Nat → Value → World → Prop) (base : List Nat) (a : Act) (w : World) : Nat → List Oper → Prop
  | _, [] => True
  | i, o :: os => PhiStep P Q ops φ base a w i o ∧ PhiSteps P Q ops φ base a w (i + 1) os
theorem phiSteps_get {P : Program} {Q : Exit → Act → World → Prop} {ops : Array Oper} {φ : Nat → Value → World → Prop} {base : List Nat} {a : Act} {w : World} :
    ∀ (os : List Oper) (k : Nat), PhiSteps P Q ops φ base a w k os → ∀ i o, os[i]? = some o → PhiStep P Q ops φ base a w (k + i) o
  | [], _, _, i, o, ho => by simp at ho
  | o' :: os, k, h, 0, o, ho => by simp at ho; subst ho; exact h.1
  | o' :: os, k, h, i + 1, o, ho => by
    have := phiSteps_get os (k + 1) h.2 i o (by simpa using ho)
    rw [show k + (i + 1) = k + 1 + i from by omega]
    exact this
theorem region_phi {P : Program} {Q : Exit → Act → World → Prop} {ops : Array Oper} {id : Nat} {a : Act} {w : World} (φ : Nat → Value → World → Prop) (base : List Nat)
    (hm : P.follows .mixedOrders = true) (hf : fwd ops = true) (hd : dstOk ops base a.tmps.size = true)
    (hst : ∀ i v V V', Below V.heap.size V V' → φ i v V → φ i v V')
    (hs : PhiSteps P Q ops φ base a w 0 ops.toList)
    (he : ∀ (b : Act) (V : World), b.defers = a.defers → (∀ t, t ∈ base → b.eval (.tmp t) = a.eval (.tmp t)) → Below w.heap.size w V →
      (∀ j d, ops[j]?.bind (fun o : Oper => o.dst) = some d → φ j (b.eval (.tmp d)) V) → Q .normal b V) : (Code.region id ops true).wp P Q a w := by
  unfold dstOk at hd
  simp only [Bool.and_eq_true, List.all_eq_true, decide_eq_true_eq] at hd
  obtain ⟨⟨hd1, hd2⟩, hd3⟩ := hd
  have hdst : ∀ (i : Nat) (o : Oper), ops[i]? = some o → ∃ d, o.dst = some d ∧ d < a.tmps.size ∧ d ∉ base := by
    intro i o ho
    have hm := hd1 o.dst (List.mem_map.2 ⟨o, by
      rw [Array.mem_toList_iff]
      exact Array.mem_of_getElem? ho, rfl⟩)
    cases h : o.dst with
    | none => rw [h] at hm; cases hm
    | some d =>
      rw [h] at hm
      simp at hm
      exact ⟨d, rfl, hm.1, hm.2⟩
  have hne : ∀ (i : Nat) (o : Oper) (d : Nat), ops[i]? = some o → o.dst = some d → ∀ (j : Nat) (o' : Oper) (d' : Nat), ops[j]? = some o' → o'.dst = some d' → j ≠ i → d' ≠ d := by
    intro i o d ho hod j o' d' ho' hod' hji e
    apply hji
    have hi : (ops.toList.map (fun o : Oper => o.dst))[i]? = some (some d) := by simp [ho, hod]
    have hj : (ops.toList.map (fun o : Oper => o.dst))[j]? = some (some d) := by simp [ho', hod', e]
    exact (List.getElem?_inj (by
      have := (List.getElem?_eq_some_iff.1 hj).1
      exact this) hd2).1 (hj.trans hi.symm)
  refine region_inv hm hf (fun L b V => b.defers = a.defers ∧ b.tmps.size = a.tmps.size ∧ (∀ t, t ∈ base → b.eval (.tmp t) = a.eval (.tmp t)) ∧ Below w.heap.size w V ∧
    ∀ j d, L j = true → ops[j]?.bind (fun o : Oper => o.dst) = some d → φ j (b.eval (.tmp d)) V) ?_ ?_ ?_
  · exact ⟨rfl, rfl, fun _ _ => rfl, below_drew1 (Below.refl _ w), fun _ _ h => by cases h⟩
  · intro i o ho L L' b V haf hLi hL' ⟨h1, h2, h3, h4, h5⟩ K hK
    have hg : o.guard = none := by
      have := hd3 o (by rw [Array.mem_toList_iff]; exact Array.mem_of_getElem? ho)
      simpa using this
    rw [if_pos (by simp [Region.wanted, hg])]
    have hst0 : PhiStep P Q ops φ base a w i o := by
      have := phiSteps_get ops.toList 0 hs i o (by simpa using ho)
      simpa using this
    obtain ⟨d, hod, hdl, hdb⟩ := hdst i o ho
    refine hst0 b V h1 h3 h4 ?_ K ?_
    · intro j dj hw hj
      refine h5 j dj ?_ hj
      unfold waits at hw
      rw [List.any_eq_true] at hw
      obtain ⟨e, he, hb⟩ := hw
      simp only [Bool.and_eq_true, beq_iff_eq] at hb
      rw [← hb.1]
      exact haf e (by simpa using he) hb.2
    · intro v V' hV hv
      refine hK _ _ ⟨by rw [put_defers]; exact h1, by rw [put_size]; exact h2, ?_, h4.trans (hV.mono h4.size), ?_⟩
      · intro t ht
        rw [hod]
        show ev _ t = _
        rw [ev_put _ _ _ _ (h2 ▸ hdl), if_neg (by rintro rfl; exact hdb ht)]
        exact h3 t ht
      · intro j dj hLj hj
        rw [hod]
        show φ j (ev _ dj) V'
        rw [ev_put _ _ _ _ (h2 ▸ hdl)]
        rw [hL' j] at hLj
        by_cases hji : j = i
        · subst hji
          rw [ho] at hj
          simp only [Option.bind_some, hod, Option.some.injEq] at hj
          rw [if_pos hj.symm]
          exact hv
        · rw [if_neg hji] at hLj
          have hj2 := hj
          cases hoj : ops[j]? with
          | none => rw [hoj] at hj2; cases hj2
          | some oj =>
            rw [hoj] at hj2
            rw [if_neg (hne i o d ho hod j oj dj hoj hj2 hji)]
            exact hst j _ V V' hV (h5 j dj hLj hj)
  · intro L b V hall ⟨h1, h2, h3, h4, h5⟩
    refine he b V h1 h3 h4 fun j d hj => h5 j d (hall j ?_) hj
    cases hoj : ops[j]? with
    | none => rw [hoj] at hj; cases hj
    | some oj => exact (Array.getElem?_eq_some_iff.1 hoj).1
end Go.Proofs.YtpklhagedifglaaW.PrintMore
