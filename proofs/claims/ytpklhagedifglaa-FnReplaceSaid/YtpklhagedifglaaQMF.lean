/-
  Cut to what this claim uses.
-/
import Derived.Maps.OwnSet
import Derived.Maps.Range
import Derived.Maps.RangeWalk
import Derived.Shelf.SlGeneric
import Derived.Shelf.SlIter.Nil
import Derived.Shelf.SortM.Plain
import Derived.Shelf.SortM.SortNone
import Derived.Sort.KeysCollected
import Derived.Test.YtpklhagedifglaaQM3
import Derived.Test.YtpklhagedifglaaQTermT
import Derived.Test.YtpklhagedifglaaQTermV
namespace Go.Proofs.YtpklhagedifglaaW.PrintMore
set_option linter.unusedVariables false
set_option linter.unusedSimpArgs false
open Go.Proofs Go.Deep
open Go.RowKit Go.Proofs.YtpklhagedifglaaW.PrintWords
def guardOn (G : Nat → Bool) (o : Oper) : Bool := match o.guard with | none => true | some (g, b) => G g == b
def dstOkG (ops : Array Oper) (base : List Nat) (n : Nat) (gs : List Nat) : Bool :=
  let ds := ops.toList.map (fun o : Oper => o.dst)
  ds.all (fun d => match d with | none => false | some d => decide (d < n) && !base.contains d) && decide ds.Nodup && ops.toList.all (fun o : Oper => match o.guard with | none => true | some (g, _) => waits o g && (decide (g < ops.size) && gs.contains g))
def PhiStepG (P : Program) (Q : Exit → Act → World → Prop) (ops : Array Oper) (G : Nat → Bool) (φ : Nat → Value → World → Prop) (base : List Nat) (a : Act) (w : World) (i : Nat) (o : Oper) : Prop :=
  ∀ (b : Act) (V : World), b.defers = a.defers → (∀ t, t ∈ base → b.eval (.tmp t) = a.eval (.tmp t)) → Below w.heap.size w V →
    (∀ j d, waits o j = true → ops[j]?.bind (fun o : Oper => o.dst) = some d → φ j (b.eval (.tmp d)) V) →
    (guardOn G o = true → ∀ K : Act → World → Prop, (∀ v V', Below V.heap.size V V' → φ i v V' → K (b.put o.dst v) V') → Oper.wp P o b V K Q) ∧ (guardOn G o = false → φ i undef V)
def PhiStepsG (P : Program) (Q : Exit → Act → World → Prop) (ops : Array Oper) (G : Nat → Bool) (φ : Nat → Value → World → Prop) (base : List Nat) (a : Act) (w : World) : Nat → List Oper → Prop
  | _, [] => True
  | i, o :: os => PhiStepG P Q ops G φ base a w i o ∧ PhiStepsG P Q ops G φ base a w (i + 1) os
theorem phiStepsG_get {P : Program} {Q : Exit → Act → World → Prop} {ops : Array Oper} {G : Nat → Bool} {φ : Nat → Value → World → Prop} {base : List Nat} {a : Act} {w : World} :
    ∀ (os : List Oper) (k : Nat), PhiStepsG P Q ops G φ base a w k os → ∀ i o, os[i]? = some o → PhiStepG P Q ops G φ base a w (k + i) o
  | [], _, _, i, o, ho => by simp at ho
  | o' :: os, k, h, 0, o, ho => by simp at ho; subst ho; exact h.1
  | o' :: os, k, h, i + 1, o, ho => by
    have := phiStepsG_get os (k + 1) h.2 i o (by simpa using ho)
    rw [show k + (i + 1) = k + 1 + i from by omega]
    exact this
theorem region_phi4 {P : Program} {Q : Exit → Act → World → Prop} {ops : Array Oper} {id : Nat} {a : Act} {w : World} (G : Nat → Bool) (φ : Nat → Value → World → Prop) (base : List Nat) (gs : List Nat)
    (hm : P.follows .mixedOrders = true) (hf : fwd ops = true) (hd : dstOkG ops base a.tmps.size gs = true)
    (hG : ∀ g, g ∈ gs → ∀ v V, φ g v V → v = .bool (G g))
    (hst : ∀ i v V V', Below V.heap.size V V' → φ i v V → φ i v V')
    (hs : PhiStepsG P Q ops G φ base a w 0 ops.toList)
    (he : ∀ (b : Act) (V : World), b.defers = a.defers → b.tmps.size = a.tmps.size → (∀ t, t ∈ base → b.eval (.tmp t) = a.eval (.tmp t)) → Below w.heap.size w V →
      (∀ j d, ops[j]?.bind (fun o : Oper => o.dst) = some d → φ j (b.eval (.tmp d)) V) → Q .normal b V) : (Code.region id ops true).wp P Q a w := by
  unfold dstOkG at hd
  simp only [Bool.and_eq_true, List.all_eq_true, decide_eq_true_eq] at hd
  obtain ⟨⟨hd1, hd2⟩, hd3⟩ := hd
  have hdst : ∀ (i : Nat) (o : Oper), ops[i]? = some o → ∃ d, o.dst = some d ∧ d < a.tmps.size ∧ d ∉ base := by
    intro i o ho
    have hm := hd1 o.dst (List.mem_map.2 ⟨o, by
      rw [Array.mem_toList_iff]
      exact Array.mem_of_getElem? ho, rfl⟩)
    cases h : o.dst with
    | none => rw [h] at hm; cases hm
    | some d =>
      rw [h] at hm
      simp at hm
      exact ⟨d, rfl, hm.1, hm.2⟩
  have hne : ∀ (i : Nat) (o : Oper) (d : Nat), ops[i]? = some o → o.dst = some d → ∀ (j : Nat) (o' : Oper) (d' : Nat), ops[j]? = some o' → o'.dst = some d' → j ≠ i → d' ≠ d := by
    intro i o d ho hod j o' d' ho' hod' hji e
    apply hji
    have hi : (ops.toList.map (fun o : Oper => o.dst))[i]? = some (some d) := by simp [ho, hod]
    have hj : (ops.toList.map (fun o : Oper => o.dst))[j]? = some (some d) := by simp [ho', hod', e]
    exact (List.getElem?_inj (by
      have := (List.getElem?_eq_some_iff.1 hj).1
      exact this) hd2).1 (hj.trans hi.symm)
  refine region_inv hm hf (fun L b V => b.defers = a.defers ∧ b.tmps.size = a.tmps.size ∧ (∀ t, t ∈ base → b.eval (.tmp t) = a.eval (.tmp t)) ∧ Below w.heap.size w V ∧
    ∀ j d, L j = true → ops[j]?.bind (fun o : Oper => o.dst) = some d → φ j (b.eval (.tmp d)) V) ?_ ?_ ?_
  · exact ⟨rfl, rfl, fun _ _ => rfl, below_drew1 (Below.refl _ w), fun _ _ h => by cases h⟩
  · intro i o ho L L' b V haf hLi hL' ⟨h1, h2, h3, h4, h5⟩ K hK
    have hst0 : PhiStepG P Q ops G φ base a w i o := by
      have := phiStepsG_get ops.toList 0 hs i o (by simpa using ho)
      simpa using this
    obtain ⟨d, hod, hdl, hdb⟩ := hdst i o ho
    have hfacts : ∀ j dj, waits o j = true → ops[j]?.bind (fun o : Oper => o.dst) = some dj → φ j (b.eval (.tmp dj)) V := by
      intro j dj hw hj
      refine h5 j dj ?_ hj
      unfold waits at hw
      rw [List.any_eq_true] at hw
      obtain ⟨e, he, hb⟩ := hw
      simp only [Bool.and_eq_true, beq_iff_eq] at hb
      rw [← hb.1]
      exact haf e (by simpa using he) hb.2
    have hwant : Region.wanted o (yielded ops b.tmps) = guardOn G o := by
      have hgd := hd3 o (by rw [Array.mem_toList_iff]; exact Array.mem_of_getElem? ho)
      cases hg : o.guard with
      | none => simp [Region.wanted, guardOn, hg]
      | some gb =>
        obtain ⟨g, bb⟩ := gb
        rw [hg] at hgd
        simp only [Bool.and_eq_true, decide_eq_true_eq] at hgd
        obtain ⟨og, hog⟩ : ∃ og, ops[g]? = some og := ⟨ops[g], Array.getElem?_eq_getElem hgd.2.1⟩
        obtain ⟨dg, hdg, hdgl, _⟩ := hdst g og hog
        have hv := hG g (by simpa using hgd.2.2) _ _ (hfacts g dg hgd.1 (by rw [hog]; exact hdg))
        have hy : yielded ops b.tmps g = some (G g) := by
          unfold yielded
          rw [hog]
          simp only [Option.bind_some, hdg]
          have e2 : b.tmps[dg]? = some (.bool (G g)) := by
            simp only [Act.eval, Array.getD_eq_getD_getElem?] at hv
            have hlt : dg < b.tmps.size := by rw [h2]; exact hdgl
            rw [Array.getElem?_eq_getElem hlt] at hv ⊢
            simpa using hv
          rw [e2]
        simp [Region.wanted, guardOn, hg, hy]
    have hkeep : ∀ v V', Below V.heap.size V V' → φ i v V' → K (b.put o.dst v) V' := by
      intro v V' hV hv
      refine hK _ _ ⟨by rw [put_defers]; exact h1, by rw [put_size]; exact h2, ?_, h4.trans (hV.mono h4.size), ?_⟩
      · intro t ht
        rw [hod]
        show ev _ t = _
        rw [ev_put _ _ _ _ (h2 ▸ hdl), if_neg (by rintro rfl; exact hdb ht)]
        exact h3 t ht
      · intro j dj hLj hj
        rw [hod]
        show φ j (ev _ dj) V'
        rw [ev_put _ _ _ _ (h2 ▸ hdl)]
        rw [hL' j] at hLj
        by_cases hji : j = i
        · subst hji
          rw [ho] at hj
          simp only [Option.bind_some, hod, Option.some.injEq] at hj
          rw [if_pos hj.symm]
          exact hv
        · rw [if_neg hji] at hLj
          have hj2 := hj
          cases hoj : ops[j]? with
          | none => rw [hoj] at hj2; cases hj2
          | some oj =>
            rw [hoj] at hj2
            rw [if_neg (hne i o d ho hod j oj dj hoj hj2 hji)]
            exact hst j _ V V' hV (h5 j dj hLj hj)
    obtain ⟨s1, s2⟩ := hst0 b V h1 h3 h4 hfacts
    rw [hwant]
    cases hgo : guardOn G o with
    | true => rw [if_pos rfl]; exact s1 hgo K hkeep
    | false => rw [if_neg (by decide)]; exact hkeep undef V (Below.refl _ V) (s2 hgo)
  · intro L b V hall ⟨h1, h2, h3, h4, h5⟩
    refine he b V h1 h2 h3 h4 fun j d hj => h5 j d (hall j ?_) hj
    cases hoj : ops[j]? with
    | none => rw [hoj] at hj; cases hj
    | some oj => exact (Array.getElem?_eq_some_iff.1 hoj).1
end Go.Proofs.YtpklhagedifglaaW.PrintMore
namespace Go.Proofs.YtpklhagedifglaaW.PrintMore
set_option linter.unusedVariables false
set_option linter.unusedSimpArgs false
open Go.Proofs Go.Deep Go.Maps
open Go.RowKit Go.Proofs.YtpklhagedifglaaW.PrintWords Go.Proofs.YtpklhagedifglaaW.PrintLast Go.Proofs.YtpklhagedifglaaW.PrintMore
abbrev Ct := UInt8 → Nat
def cntS (C : Ct) : List UInt8 → Nat
  | [c] => C c
  | _ => 0
def FrD (D : DataW Unit) (C : Ct) : Prop := ∀ (s : List UInt8) (zd : DataW Unit), D.atKey (.string s) zd = if cntS C s = 0 then zd else .lit (.int .i64 (cntS C s : Int))
def FrAt (W : World) (b n : Nat) (C : Ct) : Prop := ∃ D : DataW Unit, W.ownsMap Try.prog 9 (plainElem Try.prog 3) b n D ∧ FrD D C
theorem fr_kept {W W' : World} {b n : Nat} {C : Ct} {row : Option Nat} (h : FrAt W b n C) (hg : W.grownBy W' row) (hne : some b ≠ row) : FrAt W' b n C := by
  obtain ⟨D, ho, hD⟩ := h
  have hlt := ho.lt
  obtain ⟨es, clock, hh, F, hs, hDD⟩ := ho
  exact ⟨D, ⟨es, clock, (hg.block b hlt hne).trans hh, F, hs, hDD⟩, hD⟩
theorem fr_lt {W : World} {b n : Nat} {C : Ct} (h : FrAt W b n C) : b < W.heap.size := by
  obtain ⟨D, ho, hD⟩ := h
  exact ho.lt
theorem fr_below {W W' : World} {b n : Nat} {C : Ct} (h : FrAt W b n C) (hb : Below W.heap.size W W') : FrAt W' b n C := by
  obtain ⟨D, ho, hD⟩ := h
  have hlt := ho.lt
  obtain ⟨es, clock, hh, F, hs, hDD⟩ := ho
  exact ⟨D, ⟨es, clock, (hb.block b hlt).trans hh, F, hs, hDD⟩, hD⟩
theorem fr_look {W : World} {b n : Nat} {C : Ct} (h : FrAt W b n C) (c : UInt8) :
    (Instr.lookup 41 (.map (some b)) (.string (ch c)) false).run Try.prog W = .ok (.int .i64 (C c : Int)) W := by
  obtain ⟨D, ho, hD⟩ := h
  obtain ⟨es, clock, hh, F, hs, rfl⟩ := ho
  have hc := hD [c]
  have e1 : cntS C [c] = C c := rfl
  rw [e1] at hc
  rcases Maps.fit_look false env_keyed Try.underlying41 (env_zero W) hh F (env_key c) with ⟨hrun, _, hat⟩ | ⟨e0, y, _, _, hrun, hRv, hat, _⟩
  · by_cases hE : C c = 0
    · rw [hE]; simpa using hrun
    · have h1 := hc (.map [])
      rw [hat, if_neg hE] at h1
      cases h1
  · obtain ⟨a, h1, h2, _⟩ := plainElem_int_inv (P := Try.prog) Try.underlying3 hRv
    by_cases hE : C c = 0
    · have h3 := hc (.map [])
      rw [hat, if_pos hE, h2] at h3
      cases h3
    · have h3 := hc (.map [])
      rw [hat, if_neg hE, h2] at h3
      simp only [DataW.lit.injEq, Lit.int.injEq, true_and] at h3
      subst h3
      rw [h1] at hrun
      simpa using hrun
def addC (C : Ct) (u : UInt8) (k : Nat) : Ct := fun d => if d = u then C d + k else C d
theorem fr_store {W : World} {b n : Nat} {C : Ct} (h : FrAt W b n C) (hn : n < 100000) (u : UInt8) (k : Nat) (hk : 1 ≤ k) (hx : C u + k < 9223372036854775808) :
    ∃ W', (Instr.mapUpdate 41 (.map (some b)) (.string (ch u)) (.int .i64 ((C u : Int) + (k : Int)))).run Try.prog W = .ok () W' ∧ FrAt W' b (n + 1) (addC C u k) ∧ W.grownBy W' (some b) := by
  obtain ⟨D, ho, hD⟩ := h
  have hlw : (Lit.int .i64 ((C u : Int) + (k : Int))).wf = true := by
    have := lit_wrap ((C u : Int) + (k : Int))
    rw [show wrap64 ((C u : Int) + (k : Int)) = (C u : Int) + (k : Int) from by rw [wrap64]; omega] at this
    exact this
  obtain ⟨W', hrun, ho', hg⟩ := ho.update env_keyed Try.underlying41 (by unfold maxLen; omega) (env_key u) (plainElem_int (P := Try.prog) Try.underlying3 hlw)
  have hm : IsMap D := by obtain ⟨es, clock, hh, F, hs, rfl⟩ := ho; exact ⟨_, rfl⟩
  refine ⟨W', hrun, ⟨_, ho', fun s zd => ?_⟩, hg⟩
  by_cases hc : s = [u]
  · subst hc
    have e : cntS (addC C u k) [u] = C u + k := by simp [cntS, addC]
    rw [atKey_put_same hm (env_keyed.key (env_key u)), e, if_neg (by omega)]
    congr 2
  · rw [atKey_put_other (fun e => hc (by simpa using e)), hD s zd]
    have e : cntS (addC C u k) s = cntS C s := by
      match s, hc with
      | [], _ => rfl
      | [c], hc => simp only [cntS, addC]; rw [if_neg (fun e => hc (by rw [e]))]
      | _ :: _ :: _, _ => rfl
    rw [e]
theorem fr_empty (W : World) : FrAt (W.alloc (.map #[] 0)) W.heap.size 0 (fun _ => 0) :=
  ⟨_, World.ownsMap_made W _ _ _, fun s zd => by
    have e : cntS (fun _ => 0) s = 0 := by
      match s with
      | [] => rfl
      | [c] => rfl
      | _ :: _ :: _ => rfl
    rw [e, if_pos rfl]; rfl⟩
/-- What a key of such a map is. -/
theorem fr_key {D : DataW Unit} {C : Ct} (hD : FrD D C) {s : List UInt8} {y : DataW Unit} (h : ∀ zd, D.atKey (.string s) zd = y) : ∃ c, s = [c] ∧ C c ≠ 0 ∧ y = .lit (.int .i64 (C c : Int)) := by
  have h1 := hD s (.map [])
  have h2 := hD s (.lit (.int .i64 0))
  rw [h] at h1 h2
  by_cases hc : cntS C s = 0
  · rw [if_pos hc] at h1 h2
    rw [h1] at h2; cases h2
  · rw [if_neg hc] at h1
    match s, hc, h1 with
    | [c], hc, h1 => exact ⟨c, rfl, hc, h1⟩
    | [], hc, _ => exact absurd rfl hc
    | _ :: _ :: _, hc, _ => exact absurd rfl hc
theorem fr_has {D : DataW Unit} {C : Ct} (hD : FrD D C) (c : UInt8) (hc : C c ≠ 0) : Maps.has D (.string [c]) = true := by
  refine has_true_of_atKey (y := .lit (.int .i64 (C c : Int))) fun z => ?_
  have := hD [c] z
  have e1 : cntS C [c] = C c := rfl
  rw [e1, if_neg hc] at this
  exact this
/-- What has come of a part's map, while some of it is left. -/
def part_ (B C : Ct) (cond : UInt8 → Bool) (left : Lit → Bool) : Ct := fun d => B d + if C d ≠ 0 ∧ left (.string [d]) = false ∧ cond d = true then C d else 0
theorem part_start {D : DataW Unit} {B C : Ct} {cond : UInt8 → Bool} (hD : FrD D C) : part_ B C cond (Maps.has D) = B := by
  funext d
  unfold part_
  by_cases hc : C d = 0
  · rw [if_neg (fun h => h.1 hc)]; rfl
  · rw [if_neg (fun h => by rw [fr_has hD d hc] at h; cases h.2.1)]; rfl
def both (B C : Ct) (cond : UInt8 → Bool) : Ct := fun d => B d + if cond d = true then C d else 0
theorem part_end {B C : Ct} {cond : UInt8 → Bool} {left : Lit → Bool} (hl : ∀ kl, left kl = false) : part_ B C cond left = both B C cond := by
  funext d
  unfold part_ both
  by_cases hc : C d = 0
  · rw [hc]; simp
  · by_cases h2 : cond d = true
    · rw [if_pos ⟨hc, hl _, h2⟩, if_pos h2]
    · rw [if_neg (fun h => h2 h.2.2), if_neg h2]
theorem sk1 (c d : UInt8) : (Lit.string [d]).sameKey (Lit.string [c]) = (d == c) := by
  by_cases h : d = c
  · subst h; simp [Lit.sameKey]
  · have : (d == c) = false := by simp [h]
    rw [this]
    simp [Lit.sameKey, h]
theorem part_yes {B C : Ct} {cond : UInt8 → Bool} {left : Lit → Bool} (c : UInt8) (hc : C c ≠ 0) (hl : left (.string [c]) = true) (h2 : cond c = true) : part_ B C cond (fun z => left z && !z.sameKey (.string [c])) = addC (part_ B C cond left) c (C c) := by
  funext d
  unfold part_ addC
  dsimp only
  by_cases hd : d = c
  · subst hd
    rw [if_pos ⟨hc, by simp [sk1], h2⟩, if_pos rfl, if_neg (fun h => by rw [hl] at h; cases h.2.1)]
    rfl
  · rw [if_neg hd]
    congr 1
    have : (d == c) = false := by simp [hd]
    simp only [sk1, this]; simp
theorem part_no {B C : Ct} {cond : UInt8 → Bool} {left : Lit → Bool} (c : UInt8) (h2 : cond c = false) : part_ B C cond (fun z => left z && !z.sameKey (.string [c])) = part_ B C cond left := by
  funext d
  unfold part_
  dsimp only
  by_cases hd : d = c
  · subst hd
    rw [if_neg (fun h => by rw [h2] at h; cases h.2.2), if_neg (fun h => by rw [h2] at h; cases h.2.2)]
  · have : (d == c) = false := by simp [hd]
    simp only [sk1, this]; simp
theorem part_le {B C : Ct} {cond : UInt8 → Bool} {left : Lit → Bool} (d : UInt8) : part_ B C cond left d ≤ B d + C d := by
  unfold part_
  split <;> omega
end Go.Proofs.YtpklhagedifglaaW.PrintMore
namespace Go.Proofs.YtpklhagedifglaaW.PrintMore
set_option linter.unusedVariables false
set_option linter.unusedSimpArgs false
open Go.Proofs Go.Deep Go.Maps Go.Sort
open Go.RowKit Go.Proofs.YtpklhagedifglaaW.PrintWords Go.Proofs.YtpklhagedifglaaW.PrintLast Go.Proofs.YtpklhagedifglaaW.PrintMore
set_option maxHeartbeats 4000000 in
set_option maxRecDepth 100000 in
theorem free_leaf (w : World) (p : Nat) (c : UInt8) (h0 : w.cell? ⟨p, 0, none⟩ = some (.string (ch c))) (h2 : w.cell? ⟨p, 2, none⟩ = some (.slice none 0 0)) :
    Calls Try.prog 29 #[.pointer (some ⟨p, 0, none⟩)] w fun e w' => ∃ b, e = .returned (.map (some b)) ∧ w.heap.size ≤ b ∧ FrAt w' b 1 (Tm.leaf c).fc ∧ Below w.heap.size w w' := by
  have hB0 : Below w.heap.size w (w.alloc (.map #[] 0)) := (Below.refl _ w).alloc (Nat.le_refl _) _
  have g0 := cell_keep hB0 _ _ h0
  have g2 := cell_keep hB0 _ _ h2
  cases hd : isDig c with
  | true =>
    have HE := Aside0.mk (show FrAt (w.alloc (.map #[] 0)) w.heap.size 1 (Tm.leaf c).fc from (by
      have e : (Tm.leaf c).fc = fun _ => 0 := by funext d; show (if _ then _ else _) = _; rw [hd, if_neg (fun h => by cases h.1)]
      rw [e]; obtain ⟨D, ho, hD⟩ := fr_empty w
      obtain ⟨es, clock, hh, F, hs, hDD⟩ := ho
      exact ⟨D, ⟨es, clock, hh, F, by omega, hDD⟩, hD⟩))
    have HB := Aside0.mk hB0
    have HD := Aside0.mk hd
    clear hd hB0
    have mk0 : ∀ W, (Instr.makeMap 41 none).run Try.prog W = .ok (.map (some W.heap.size)) (W.alloc (.map #[] 0)) := fun _ => rfl
    go_enter Try.func29, Try.ntmps29
    go_wp2_with (first | (go_at_call 44; refine (digit_walk _ _ _ g0).mono ?_; rintro e wz ⟨rfl, hw⟩; rw [hw, HD.out]; clear hw wz))
    go_loopg [32] 0 (fun kq v32 w' => v32 = .int .i64 0 ∧ Aside0 (w' = w.alloc (.map #[] 0)))
    case atStart => exact ⟨rfl, ⟨rfl⟩⟩
    case round =>
      obtain ⟨rfl, HW⟩ := hrel
      have hw := HW.out
      subst hw
      go_wp2
      go_ret
      exact ⟨_, rfl, Nat.le_refl _, HE.out, HB.out⟩
  | false =>
    obtain ⟨w1, hr1, he1, hg1⟩ := fr_store (fr_empty w) (by omega) c 1 (Nat.le_refl _) (by omega)
    have lk := fr_look (fr_empty w) c
    have hr1 : (Instr.mapUpdate 41 (.map (some w.heap.size)) (.string (ch c)) (.int .i64 1)).run Try.prog (w.alloc (.map #[] 0)) = .ok () w1 := by simpa using hr1
    have lk : (Instr.lookup 41 (.map (some w.heap.size)) (.string (ch c)) false).run Try.prog (w.alloc (.map #[] 0)) = .ok (.int .i64 0) (w.alloc (.map #[] 0)) := by simpa using lk
    have hB1 := below_grown hB0 hg1 (Nat.le_refl _) hB0.size
    have g2' := cell_keep hB1 _ _ h2
    have HE := Aside0.mk (show FrAt w1 w.heap.size 1 (Tm.leaf c).fc from (by
      have e : (Tm.leaf c).fc = addC (fun _ => 0) c 1 := by
        funext d; show (if _ then _ else _) = addC _ _ _ _
        unfold addC
        by_cases h : d = c
        · rw [if_pos ⟨hd, h⟩, if_pos h]
        · rw [if_neg (fun e => h e.2), if_neg h]
      rw [e]; exact he1))
    have HB := Aside0.mk hB1
    have HD := Aside0.mk hd
    clear hd hB0 hB1 he1 hg1
    have mk0 : ∀ W, (Instr.makeMap 41 none).run Try.prog W = .ok (.map (some W.heap.size)) (W.alloc (.map #[] 0)) := fun _ => rfl
    go_enter Try.func29, Try.ntmps29
    go_wp2_with (first | (go_at_call 44; refine (digit_walk _ _ _ g0).mono ?_; rintro e wz ⟨rfl, hw⟩; rw [hw, HD.out]; clear hw wz))
    go_loopg [32] 0 (fun kq v32 w' => v32 = .int .i64 0 ∧ Aside0 (w' = w1))
    case atStart => exact ⟨rfl, ⟨rfl⟩⟩
    case round =>
      obtain ⟨rfl, HW⟩ := hrel
      have hw := HW.out
      subst hw
      go_wp2
      go_ret
      exact ⟨_, rfl, Nat.le_refl _, HE.out, HB.out⟩
def encB (x : List UInt8) : Value := .string ⟨x.toArray⟩
theorem encB_of (key : Value) (kl : Lit) (hk : keyOf Try.prog 9 key = some kl) : ∃ x, key = encB x := by
  obtain ⟨x, hx, _⟩ := Maps.keyOf_str Try.underlying9 hk
  exact ⟨x, hx⟩
theorem encI_of (v : Value) (y : DataW Unit × List MemPlace) (hv : plainElem Try.prog 3 v = some y) : ∃ x, v = Value.int .i64 x := by
  obtain ⟨x, hx, _⟩ := plainElem_int_inv (P := Try.prog) Try.underlying3 hv
  exact ⟨x, hx⟩
set_option maxHeartbeats 16000000 in
set_option maxRecDepth 100000 in
theorem free_node (w : World) (p a n k : Nat) (vs : ByteArray) (S c : Nat → Ct) (M nn : Nat → Nat) (cond : Nat → UInt8 → Bool) (hn : 1 ≤ n ∧ n ≤ 2) (h1 : w.cell? ⟨p, 1, none⟩ = some (.string vs)) (h2 : w.cell? ⟨p, 2, none⟩ = some (.slice (some ⟨a, 0, none⟩) n k))
    (hk : ∀ j, j < n → ∃ q, w.cell? ⟨a, j, none⟩ = some (.pointer (some ⟨q, 0, none⟩)) ∧ ∀ W, Below w.heap.size w W → Calls Try.prog 29 #[.pointer (some ⟨q, 0, none⟩)] W fun e w' => ∃ b, e = .returned (.map (some b)) ∧ W.heap.size ≤ b ∧ FrAt w' b (nn j) (c j) ∧ Below W.heap.size W w')
    (hS0 : S 0 = fun _ => 0) (hS : ∀ j, S (j + 1) = both (S j) (c j) (cond j)) (hM0 : M 0 = 0) (hM : ∀ j, M (j + 1) = M j + nn j) (hMn : ∀ j, j ≤ n → M j < 10000)
    (hSb : ∀ j d, j ≤ n → S j d < 1000000) (hcb : ∀ j d, j < n → c j d < 1000000)
    (hc0 : ∀ d, cond 0 d = true) (hc1 : ∀ d, cond 1 d = !([d] == vs.toList)) :
    Calls Try.prog 29 #[.pointer (some ⟨p, 0, none⟩)] w fun e w' => ∃ b, e = .returned (.map (some b)) ∧ w.heap.size ≤ b ∧ FrAt w' b (M n) (S n) ∧ Below w.heap.size w w' := by
  have HK := Aside0.mk hk
  have HS := Aside0.mk hS
  have HM := Aside0.mk hM
  have HMN := Aside0.mk hMn
  have HSB := Aside0.mk hSb
  have HCB := Aside0.mk hcb
  have HC0 := Aside0.mk hc0
  have HC1 := Aside0.mk hc1
  have HN := Aside0.mk hn
  have H1 := Aside0.mk h1
  have HB0 := Aside0.mk (show Below w.heap.size w (w.alloc (.map #[] 0)) from (Below.refl _ w).alloc (Nat.le_refl _) _)
  have HE0 := Aside0.mk (show FrAt (w.alloc (.map #[] 0)) w.heap.size (M 0) (S 0) from by rw [hS0, hM0]; exact fr_empty w)
  have k2 := cell_keep HB0.out _ _ h2
  have n0 : ((n : Int) == 0) = false := by simp; omega
  clear hk hS hM hMn hSb hcb hc0 hc1 hS0 hM0
  have mk0 : ∀ W, (Instr.makeMap 41 none).run Try.prog W = .ok (.map (some W.heap.size)) (W.alloc (.map #[] 0)) := fun _ => rfl
  go_enter Try.func29, Try.ntmps29
  go_wp2
  obtain ⟨b, hb⟩ : ∃ b, b = w.heap.size := ⟨_, rfl⟩
  have HBB := Aside0.mk hb
  rw [← hb]
  rw [← hb] at HE0
  clear hb n0 k2 h2 h1 hn
  go_loopg [32] n (fun kq v32 w' => ∃ i : Nat, v32 = .int .i64 (i : Int) ∧ Aside0 (kq + i = n) ∧ Aside0 (FrAt w' b (M i) (S i)) ∧ Aside0 (Below w.heap.size w w'))
  case atStart => exact ⟨0, rfl, ⟨by omega⟩, HE0, HB0⟩
  case round =>
    obtain ⟨i, rfl, HI, HF, HB⟩ := hrel
    by_cases hi : i < n
    · have hlt : (i : Int) < (n : Int) := by omega
      have h0 : (0 : Int) ≤ (i : Int) := by omega
      obtain ⟨q, hc, hcall⟩ := HK.out i hi
      have hc' : wr.cell? ⟨a, i, none⟩ = some (.pointer (some ⟨q, 0, none⟩)) := cell_keep HB.out _ _ hc
      have HC := Aside0.mk hcall
      have HH := Aside0.mk hi
      clear hcall hc hi
      go_wp2_with fail
      refine (HC.out wr HB.out).mono ?_
      rintro e w2 ⟨bm, rfl, hbm, ⟨D, ho, hD⟩, hb2⟩
      have HD := Aside0.mk hD
      have HSZ := Aside0.mk (World.ownsMap.size_le ho)
      have HF2 := Aside0.mk (fr_below HF.out hb2)
      have HB2 := Aside0.mk (HB.out.trans (hb2.mono HB.out.size))
      have HNE := Aside0.mk (show bm ≠ b from by have := fr_lt HF.out; omega)
      have HBL := Aside0.mk (show b < w2.heap.size from fr_lt HF2.out)
      clear hD hb2 hbm hc'
      go_wp2_with (first | (at_range; refine wpList_range_own _ rfl _ 41 rfl 9 3 env_keyed Try.underlying41 _ bm _ _ rfl ho ?_; intro w3 hrg0 hg0 hs0) | go_in)
      go_frame
      have HF3 := Aside0.mk (fr_kept HF2.out hg0 (by simp))
      have HB3 := Aside0.mk (show Below w.heap.size w w3 from HB2.out.trans ⟨hg0.os, hg0.tape, hg0.output, hg0.size, fun k hk => hg0.block k (Nat.lt_of_lt_of_le hk HB2.out.size) (by simp)⟩)
      have HRG0 := Aside0.mk hrg0
      obtain ⟨r, hr⟩ : ∃ r, r = w2.heap.size := ⟨_, rfl⟩
      rw [← hr] at HRG0
      rw [← hr]
      have HRB := Aside0.mk (show r ≠ b from by have := HBL.out; omega)
      have HRW := Aside0.mk (show w.heap.size ≤ r from by rw [hr]; exact HB2.out.size)
      clear hg0 hrg0 hs0 ho hr
      obtain ⟨gko, hgk⟩ : ∃ g, g = gk := ⟨gk, rfl⟩
      rw [← hgk] at HI
      obtain ⟨wo, hwo⟩ : ∃ g, g = wr := ⟨wr, rfl⟩
      clear hwo
      go_loopg [] (Maps.size D) (fun kq w' => ∃ (left : Lit → Bool) (m : Nat), w'.ranges Try.prog 9 (plainElem Try.prog 3) bm r (nn i) D left kq ∧ Aside0 (FrAt w' b m (part_ (S i) (c i) (cond i) left)) ∧ Aside0 (m + kq ≤ M i + Maps.size D) ∧ Aside0 (Below w.heap.size w w'))
      case atStart => exact ⟨_, _, HRG0.out, ⟨by rw [part_start HD.out]; exact HF3.out⟩, ⟨Nat.le_refl _⟩, HB3⟩
      case round =>
        obtain ⟨left, m, hrg, HFP, HMK, HBW⟩ := hrel
        go_wp2_with (first | (at_next; refine wpList_next_ranges _ rfl _ rfl 9 env_keyed (plainElem Try.prog 3) encB (Value.int .i64) encB_of encI_of bm r _ _ _ _ rfl hrg ?_ ?_) | go_in)
        · intro hc0 hl0
          have HFE := Aside0.mk (show FrAt wr b m (S (i + 1)) from by rw [HS.out i, ← part_end hl0]; exact HFP.out)
          have HME := Aside0.mk (show m ≤ M (i + 1) from by have := HMK.out; have := HSZ.out; have := HM.out i; omega)
          clear hrg hc0 hl0
          go_wp2
          go_roundg (gko - 1)
          case measure => have := HI.out; have := HH.out; omega
          case rel =>
            refine ⟨i + 1, ?_, ⟨by have := HI.out; have := HH.out; omega⟩, ⟨?_⟩, HBW⟩
            · have := HN.out; have := HH.out
              have e1 : IntKind.i64.wrap ((i : Int) + 1) = ((i + 1 : Nat) : Int) := by rw [IntKind.wrap_i64]; omega
              have e2 : wrap64 ((i : Int) + 1) = ((i + 1 : Nat) : Int) := by rw [wrap64]; omega
              first | (rw [← e1]; done) | (rw [← e2]; done) | (simp [e1]; done) | (simp [e2]; done) | (show Value.int .i64 _ = _; rw [e1]; done) | (show Value.int .i64 _ = _; rw [e2])
            · obtain ⟨D', ⟨es, clock, hh, F, hs, hDD⟩, hD'⟩ := HFE.out
              exact ⟨D', ⟨es, clock, hh, F, Nat.le_trans hs HME.out, hDD⟩, hD'⟩
        · intro x v kl y yp w4 cnt4 hkey hlk hv hat hrg4 hlt4 hg4 hs4 hen
          obtain ⟨x', ex, rfl, _⟩ := Maps.keyOf_str Try.underlying9 hkey
          obtain ⟨v', ev', hy, _⟩ := plainElem_int_inv (P := Try.prog) Try.underlying3 hv
          obtain ⟨d, rfl, hcd, hyd⟩ := fr_key HD.out hat
          have hvi : v = (c i d : Int) := by simp only [Prod.mk.injEq] at hy; rw [hy.1] at hyd; simp only [Value.int.injEq, true_and] at ev'; rw [ev']; first | exact hyd | (simp at hyd; exact hyd) | simpa using hyd
          have hxd : (⟨x.toArray⟩ : ByteArray) = ch d := by have := encStr_inj (x := x) (y := [d]) ex; rw [this]
          subst hvi
          unfold encB at hen
          unfold encB
          rw [hxd] at hen ⊢
          have HCD := Aside0.mk hcd
          have HLK := Aside0.mk hlk
          have HB4 := Aside0.mk (below_grown HBW.out hg4 HRW.out HBW.out.size)
          have HF4 := Aside0.mk (fr_kept HFP.out hg4 (fun e => HRB.out (by cases e; rfl)))
          have HRG4 := Aside0.mk hrg4
          have HLT := Aside0.mk hlt4
          have g1 := cell_keep HB4.out _ _ H1.out
          have hbA : part_ (S i) (c i) (cond i) left d < 1000000 + 1000000 := by
            have h1 := part_le (B := S i) (C := c i) (cond := cond i) (left := left) d
            have h2 := HSB.out i d (Nat.le_of_lt HH.out)
            have h3 := HCB.out i d HH.out
            omega
          have hbC := HCB.out i d HH.out
          have hm9 : m < 100000 := by
            have h1 := HMK.out; have h2 := HSZ.out; have h3 := HM.out i; have h4 := HMN.out (i + 1) (by have := HH.out; omega); omega
          obtain ⟨w5, hr5, hf5, hg5⟩ := fr_store HF4.out hm9 d (c i d) (by omega) (by omega)
          have HF5 := Aside0.mk hf5
          have HB5 := Aside0.mk (below_grown HB4.out hg5 (by rw [HBB.out]; exact Nat.le_refl _) HB4.out.size)
          have HRG5 := Aside0.mk (World.ranges.kept hrg4 hg5 (fun e => HNE.out (by cases e; rfl)) (fun e => HRB.out (by cases e; rfl)))
          have lk4 := fr_look HF4.out d
          obtain ⟨X, hX⟩ : ∃ X : Int, X = (part_ (S i) (c i) (cond i) left d : Int) := ⟨_, rfl⟩
          obtain ⟨Y, hY⟩ : ∃ Y : Int, Y = (c i d : Int) := ⟨_, rfl⟩
          have e1 : IntKind.i64.wrap (X + Y) = X + Y := by rw [hX, hY, IntKind.wrap_i64]; omega
          rw [← hX] at lk4
          rw [← hX, ← hY] at hr5
          rw [← hY] at hen ⊢
          clear hX hY hbA hbC hm9 hf5 hg5 hrg4 hlt4 hg4 hs4 hcd hlk hyd hy hat hv hkey hxd hrg ex ev'
          by_cases i0 : i = 0
          · have q1 : ((i : Int) == 0) = true := by simp [i0]
            have HI0 := Aside0.mk i0
            clear i0
            go_wp2
            go_roundg cnt4
            case measure => exact HLT.out
            case rel =>
              refine ⟨_, m + 1, HRG5.out, ⟨?_⟩, ⟨?_⟩, HB5⟩
              · rw [part_yes d HCD.out HLK.out (by rw [HI0.out]; exact HC0.out d)]; exact HF5.out
              · have := HMK.out; have := HLT.out; omega
          · have q1 : ((i : Int) == 0) = false := by simp; omega
            have HI1 := Aside0.mk (show i = 1 from by have := HN.out; have := HH.out; omega)
            clear i0
            cases hq : ([d] == vs.toList) with
            | true =>
              have q2 : (!([d] == vs.toList)) = false := by rw [hq]; rfl
              have HQ := Aside0.mk hq
              clear hq
              go_wp2
              go_roundg cnt4
              case measure => exact HLT.out
              case rel =>
                refine ⟨_, m, HRG4.out, ⟨?_⟩, ⟨?_⟩, HB4⟩
                · rw [part_no d (by rw [HI1.out, HC1.out, HQ.out]; rfl)]; exact HF4.out
                · have := HMK.out; have := HLT.out; omega
            | false =>
              have q2 : (!([d] == vs.toList)) = true := by rw [hq]; rfl
              have HQ := Aside0.mk hq
              clear hq
              go_wp2
              go_roundg cnt4
              case measure => exact HLT.out
              case rel =>
                refine ⟨_, m + 1, HRG5.out, ⟨?_⟩, ⟨?_⟩, HB5⟩
                · rw [part_yes d HCD.out HLK.out (by rw [HI1.out, HC1.out, HQ.out]; rfl)]; exact HF5.out
                · have := HMK.out; have := HLT.out; omega
    · have h1 : (n : Int) ≤ (i : Int) := by omega
      have HE := Aside0.mk (show i = n from by have := HI.out; omega)
      clear hi
      have HFE := Aside0.mk (HE.out ▸ HF.out)
      go_wp2
      go_ret
      exact ⟨_, rfl, by rw [HBB.out]; exact Nat.le_refl _, HFE.out, HB.out⟩
theorem toList_nil : (⟨#[]⟩ : ByteArray).toList = [] := by rw [Lib.toList_data]
theorem toList_ch (c : UInt8) : (ch c).toList = [c] := by rw [Lib.toList_data]
def itC (c : Nat → Ct) (cond : Nat → UInt8 → Bool) : Nat → Ct
  | 0 => fun _ => 0
  | j + 1 => both (itC c cond j) (c j) (cond j)
def itM (nn : Nat → Nat) : Nat → Nat
  | 0 => 0
  | j + 1 => itM nn j + nn j
/-- How many leaves. -/
def Tm.lf : Tm → Nat
  | .leaf _ => 1
  | .un _ x => x.lf
  | .bin _ x y => x.lf + y.lf
  | .loop _ _ x y => x.lf + y.lf
theorem lf_le : ∀ (t : Tm), t.lf ≤ t.tx.size := by
  intro t
  induction t with
  | leaf c => exact Nat.le_refl _
  | un c x ih => simp only [Tm.lf, Tm.tx, ByteArray.size_append]; omega
  | bin c x y ih1 ih2 => simp only [Tm.lf, Tm.tx, ByteArray.size_append]; omega
  | loop c u x y ih1 ih2 => simp only [Tm.lf, Tm.tx, ByteArray.size_append]; omega
set_option maxHeartbeats 2000000 in
theorem free_walk : ∀ (t : Tm) (v : Value) (w : World), t.tx.size ≤ 5000 → TmAt w v t → Calls Try.prog 29 #[v] w fun e w' => ∃ b, e = .returned (.map (some b)) ∧ w.heap.size ≤ b ∧ FrAt w' b t.lf t.fc ∧ Below w.heap.size w w' := by
  intro t
  induction t with
  | leaf c =>
    rintro v w hz ⟨p, rfl, h0, h1, h2⟩
    exact free_leaf w p c h0 h2
  | un c x ih =>
    rintro v w hz ⟨p, a, xv, k, rfl, h0, h1, h2, h3, h4, h5⟩
    obtain ⟨r, rfl⟩ := tm_ptr0 h5
    have l1 := lf_le x
    have f1 := fc_le x
    simp only [Tm.tx, ByteArray.size_append] at hz
    have := free_node w p a 1 k ⟨#[]⟩ (itC (fun _ => x.fc) (fun j d => if j = 0 then true else !([d] == (⟨#[]⟩ : ByteArray).toList))) (fun _ => x.fc) (itM fun _ => x.lf) (fun _ => x.lf) (fun j d => if j = 0 then true else !([d] == (⟨#[]⟩ : ByteArray).toList)) (by omega) h1 h2 (fun j h => by
      have : j = 0 := by omega
      subst this
      exact ⟨r, h4, fun W hb => ih _ W (by omega) (tm_below hb h5)⟩) rfl (fun j => rfl) rfl (fun j => rfl) (fun j hj => by
      have : j = 0 ∨ j = 1 := by omega
      rcases this with rfl | rfl <;> simp [itM] <;> omega) (fun j d hj => by
      have := f1 d
      have : j = 0 ∨ j = 1 := by omega
      rcases this with rfl | rfl <;> simp [itC, both] <;> omega) (fun j d hj => by have := f1 d; omega) (fun d => rfl) (fun d => rfl)
    have e1 : itC (fun _ => x.fc) (fun j d => if j = 0 then true else !([d] == (⟨#[]⟩ : ByteArray).toList)) 1 = (Tm.un c x).fc := by
      funext d; simp [itC, both, Tm.fc]
    have e2 : itM (fun _ => x.lf) 1 = (Tm.un c x).lf := by simp [itM, Tm.lf]
    rw [e1, e2] at this
    exact this
  | bin c x y ih1 ih2 =>
    rintro v w hz ⟨p, a, xv, yv, k, rfl, h0, h1, h2, h3, h4, h5, h6, h7⟩
    obtain ⟨r, rfl⟩ := tm_ptr0 h6
    obtain ⟨r2, rfl⟩ := tm_ptr0 h7
    have l1 := lf_le x
    have f1 := fc_le x
    have l2 := lf_le y
    have f2 := fc_le y
    simp only [Tm.tx, ByteArray.size_append] at hz
    have := free_node w p a 2 k ⟨#[]⟩ (itC (fun j => if j = 0 then x.fc else y.fc) (fun j d => if j = 0 then true else !([d] == (⟨#[]⟩ : ByteArray).toList))) (fun j => if j = 0 then x.fc else y.fc) (itM fun j => if j = 0 then x.lf else y.lf) (fun j => if j = 0 then x.lf else y.lf) (fun j d => if j = 0 then true else !([d] == (⟨#[]⟩ : ByteArray).toList)) (by omega) h1 h2 (fun j h => by
      have : j = 0 ∨ j = 1 := by omega
      rcases this with rfl | rfl
      · exact ⟨r, h4, fun W hb => ih1 _ W (by omega) (tm_below hb h6)⟩
      · exact ⟨r2, h5, fun W hb => ih2 _ W (by omega) (tm_below hb h7)⟩) rfl (fun j => rfl) rfl (fun j => rfl) (fun j hj => by
      have : j = 0 ∨ j = 1 ∨ j = 2 := by omega
      rcases this with rfl | rfl | rfl <;> simp [itM] <;> omega) (fun j d hj => by
      have := f1 d
      have := f2 d
      have : j = 0 ∨ j = 1 ∨ j = 2 := by omega
      rcases this with rfl | rfl | rfl <;> simp [itC, both, toList_nil] <;> omega) (fun j d hj => by
      have := f1 d
      have := f2 d
      have : j = 0 ∨ j = 1 := by omega
      rcases this with rfl | rfl <;> simp <;> omega) (fun d => rfl) (fun d => rfl)
    have e1 : itC (fun j => if j = 0 then x.fc else y.fc) (fun j d => if j = 0 then true else !([d] == (⟨#[]⟩ : ByteArray).toList)) 2 = (Tm.bin c x y).fc := by
      funext d; simp [itC, both, Tm.fc, toList_nil]
    have e2 : itM (fun j => if j = 0 then x.lf else y.lf) 2 = (Tm.bin c x y).lf := by simp [itM, Tm.lf]
    rw [e1, e2] at this
    exact this
  | loop c u x y ih1 ih2 =>
    rintro v w hz ⟨p, a, xv, yv, k, rfl, h0, h1, h2, h3, h4, h5, h6, h7⟩
    obtain ⟨r, rfl⟩ := tm_ptr0 h6
    obtain ⟨r2, rfl⟩ := tm_ptr0 h7
    have l1 := lf_le x
    have f1 := fc_le x
    have l2 := lf_le y
    have f2 := fc_le y
    simp only [Tm.tx, ByteArray.size_append] at hz
    have := free_node w p a 2 k (ch u) (itC (fun j => if j = 0 then x.fc else y.fc) (fun j d => if j = 0 then true else !([d] == (ch u).toList))) (fun j => if j = 0 then x.fc else y.fc) (itM fun j => if j = 0 then x.lf else y.lf) (fun j => if j = 0 then x.lf else y.lf) (fun j d => if j = 0 then true else !([d] == (ch u).toList)) (by omega) h1 h2 (fun j h => by
      have : j = 0 ∨ j = 1 := by omega
      rcases this with rfl | rfl
      · exact ⟨r, h4, fun W hb => ih1 _ W (by omega) (tm_below hb h6)⟩
      · exact ⟨r2, h5, fun W hb => ih2 _ W (by omega) (tm_below hb h7)⟩) rfl (fun j => rfl) rfl (fun j => rfl) (fun j hj => by
      have : j = 0 ∨ j = 1 ∨ j = 2 := by omega
      rcases this with rfl | rfl | rfl <;> simp [itM] <;> omega) (fun j d hj => by
      have := f1 d
      have := f2 d
      have : j = 0 ∨ j = 1 ∨ j = 2 := by omega
      rcases this with rfl | rfl | rfl <;> simp [itC, both, toList_ch] <;> (try split) <;> omega) (fun j d hj => by
      have := f1 d
      have := f2 d
      have : j = 0 ∨ j = 1 := by omega
      rcases this with rfl | rfl <;> simp <;> omega) (fun d => rfl) (fun d => rfl)
    have e1 : itC (fun j => if j = 0 then x.fc else y.fc) (fun j d => if j = 0 then true else !([d] == (ch u).toList)) 2 = (Tm.loop c u x y).fc := by
      funext d
      simp only [itC, both, Tm.fc, toList_ch]
      by_cases hdu : d = u <;> simp [hdu]
    have e2 : itM (fun j => if j = 0 then x.lf else y.lf) 2 = (Tm.loop c u x y).lf := by simp [itM, Tm.lf]
    rw [e1, e2] at this
    exact this
end Go.Proofs.YtpklhagedifglaaW.PrintMore
namespace Go.Proofs.YtpklhagedifglaaW.PrintMore
set_option linter.unusedVariables false
set_option linter.unusedSimpArgs false
open Go.Proofs Go.Deep Go.Maps Go.Sort Go.Shelf
open Go.RowKit Go.Proofs.YtpklhagedifglaaW.PrintWords Go.Proofs.YtpklhagedifglaaW.PrintLast Go.Proofs.YtpklhagedifglaaW.PrintMore
def tm_keysA_ren : Go.Shelf.Ren := ⟨fun | 7 => 28 | 10 => 54 | n => n, fun | 23 => 41 | 26 => 9 | 3 => 3 | 28 => 54 | 0 => 0 | 27 => 53 | 33 => 25 | 4 => 4 | n => n, fun | n => n⟩
theorem tm_keysA : Go.Proofs.SlLaysZ.n7 Try.prog tm_keysA_ren := {
  mixed := by kernel_rfl
  f7 := ⟨Try.f28.name, by decide, Try.func28.trans (congrArg some (by kernel_rfl))⟩
  f10 := ⟨Try.f54.name, by decide, Try.func54.trans (congrArg some (by kernel_rfl))⟩
  t0 := Try.underlying0
  a0 := Try.isAgg0
  z0 := Try.sizeOf0
  v0 := Try.zeroValue0
  t4 := Try.underlying4
  a4 := Try.isAgg4
  z4 := Try.sizeOf4
  v4 := Try.zeroValue4
  t23 := Try.underlying41
  a23 := Try.isAgg41
  z23 := Try.sizeOf41
  v23 := Try.zeroValue41
  t26 := Try.underlying9
  a26 := Try.isAgg9
  z26 := Try.sizeOf9
  v26 := Try.zeroValue9
  t27 := Try.underlying53
  a27 := Try.isAgg53
  z27 := Try.sizeOf53
  v27 := Try.zeroValue53
  t28 := Try.underlying54
  a28 := Try.isAgg54
  z28 := Try.sizeOf54
  v28 := Try.zeroValue54
  t33 := Try.underlying25
  a33 := Try.isAgg25
  z33 := Try.sizeOf25
  v33 := Try.zeroValue25 }
def tm_sortedA_ren : Go.Shelf.Ren := ⟨fun | 6 => 27 | 8 => 52 | 9 => 53 | 11 => 69 | 13 => 71 | 12 => 70 | 23 => 86 | 24 => 87 | 14 => 77 | 15 => 78 | 16 => 79 | 17 => 80 | 18 => 81 | 19 => 82 | 20 => 83 | 21 => 84 | 22 => 85 | 25 => 89 | 26 => 90 | 27 => 91 | 28 => 92 | 29 => 93 | 30 => 94 | 31 => 99 | n => n, fun | 26 => 9 | 28 => 54 | 24 => 27 | 0 => 0 | 3 => 3 | 37 => 105 | 48 => 119 | 50 => 121 | 4 => 4 | 40 => 113 | 39 => 112 | 45 => 74 | 5 => 5 | 9 => 9 | 51 => 122 | 55 => 126 | 57 => 128 | 58 => 129 | 33 => 25 | n => n, fun | n => n⟩
theorem tm_sortedA : Go.Proofs.SlLaysZ.n6 Try.prog tm_sortedA_ren := {
  mixed := by kernel_rfl
  f6 := ⟨Try.f27.name, by decide, Try.func27.trans (congrArg some (by kernel_rfl))⟩
  f8 := ⟨Try.f52.name, by decide, Try.func52.trans (congrArg some (by kernel_rfl))⟩
  f11 := ⟨Try.f69.name, by decide, Try.func69.trans (congrArg some (by kernel_rfl))⟩
  t0 := Try.underlying0
  a0 := Try.isAgg0
  z0 := Try.sizeOf0
  v0 := Try.zeroValue0
  t24 := Try.underlying27
  a24 := Try.isAgg27
  z24 := Try.sizeOf27
  v24 := Try.zeroValue27
  t26 := Try.underlying9
  a26 := Try.isAgg9
  z26 := Try.sizeOf9
  v26 := Try.zeroValue9
  t28 := Try.underlying54
  a28 := Try.isAgg54
  z28 := Try.sizeOf54
  v28 := Try.zeroValue54
  i26 := by kernel_rfl }
def tm_sortA_ren : Go.Shelf.Ren := ⟨fun | 6 => 53 | 8 => 71 | 9 => 70 | 19 => 86 | 20 => 87 | 21 => 77 | 22 => 78 | 23 => 79 | 24 => 80 | 25 => 81 | 26 => 82 | 27 => 83 | 28 => 84 | 29 => 85 | 36 => 89 | 31 => 90 | 32 => 91 | 37 => 92 | 38 => 93 | 39 => 94 | 41 => 99 | n => n, fun | 27 => 27 | 29 => 9 | 3 => 3 | 32 => 105 | 26 => 27 | 0 => 0 | 44 => 119 | 46 => 121 | 4 => 4 | 36 => 113 | 35 => 112 | 41 => 74 | 5 => 5 | 9 => 9 | 53 => 122 | 57 => 126 | 63 => 128 | 64 => 129 | n => n, fun | n => n⟩
theorem tm_sortA : Go.Proofs.SlLaysM.n6 Try.prog tm_sortA_ren := {
  mixed := by kernel_rfl
  f6 := ⟨Try.f53.name, by decide, Try.func53.trans (congrArg some (by kernel_rfl))⟩
  f8 := Try.func71.trans (congrArg some (by kernel_rfl))
  f9 := ⟨Try.f70.name, by decide, Try.func70.trans (congrArg some (by kernel_rfl))⟩
  f19 := Try.func86.trans (congrArg some (by kernel_rfl))
  f20 := Try.func87.trans (congrArg some (by kernel_rfl))
  f21 := ⟨Try.f77.name, by decide, Try.func77.trans (congrArg some (by kernel_rfl))⟩
  f22 := ⟨Try.f78.name, by decide, Try.func78.trans (congrArg some (by kernel_rfl))⟩
  f23 := ⟨Try.f79.name, by decide, Try.func79.trans (congrArg some (by kernel_rfl))⟩
  f24 := ⟨Try.f80.name, by decide, Try.func80.trans (congrArg some (by kernel_rfl))⟩
  f25 := ⟨Try.f81.name, by decide, Try.func81.trans (congrArg some (by kernel_rfl))⟩
  f26 := ⟨Try.f82.name, by decide, Try.func82.trans (congrArg some (by kernel_rfl))⟩
  f27 := ⟨Try.f83.name, by decide, Try.func83.trans (congrArg some (by kernel_rfl))⟩
  f28 := ⟨Try.f84.name, by decide, Try.func84.trans (congrArg some (by kernel_rfl))⟩
  f29 := ⟨Try.f85.name, by decide, Try.func85.trans (congrArg some (by kernel_rfl))⟩
  f31 := Try.func90.trans (congrArg some (by kernel_rfl))
  f32 := Try.func91.trans (congrArg some (by kernel_rfl))
  f36 := ⟨Try.f89.name, by decide, Try.func89.trans (congrArg some (by kernel_rfl))⟩
  f37 := ⟨Try.f92.name, by decide, Try.func92.trans (congrArg some (by kernel_rfl))⟩
  f38 := ⟨Try.f93.name, by decide, Try.func93.trans (congrArg some (by kernel_rfl))⟩
  f39 := ⟨Try.f94.name, by decide, Try.func94.trans (congrArg some (by kernel_rfl))⟩
  f41 := ⟨Try.f99.name, by decide, Try.func99.trans (congrArg some (by kernel_rfl))⟩
  t0 := Try.underlying0
  a0 := Try.isAgg0
  z0 := Try.sizeOf0
  v0 := Try.zeroValue0
  t3 := Try.underlying3
  a3 := Try.isAgg3
  z3 := Try.sizeOf3
  v3 := Try.zeroValue3
  t4 := Try.underlying4
  a4 := Try.isAgg4
  z4 := Try.sizeOf4
  v4 := Try.zeroValue4
  t5 := Try.underlying5
  a5 := Try.isAgg5
  z5 := Try.sizeOf5
  v5 := Try.zeroValue5
  t9 := Try.underlying9
  a9 := Try.isAgg9
  z9 := Try.sizeOf9
  v9 := Try.zeroValue9
  t26 := Try.underlying27
  a26 := Try.isAgg27
  z26 := Try.sizeOf27
  v26 := Try.zeroValue27
  t27 := Try.underlying27
  a27 := Try.isAgg27
  z27 := Try.sizeOf27
  v27 := Try.zeroValue27
  t29 := Try.underlying9
  a29 := Try.isAgg9
  z29 := Try.sizeOf9
  v29 := Try.zeroValue9
  t32 := Try.underlying105
  a32 := Try.isAgg105
  z32 := Try.sizeOf105
  v32 := Try.zeroValue105
  t35 := Try.underlying112
  a35 := Try.isAgg112
  z35 := Try.sizeOf112
  v35 := Try.zeroValue112
  t36 := Try.underlying113
  a36 := Try.isAgg113
  z36 := Try.sizeOf113
  v36 := Try.zeroValue113
  t41 := Try.underlying74
  a41 := Try.isAgg74
  z41 := Try.sizeOf74
  v41 := Try.zeroValue74
  t44 := Try.underlying119
  a44 := Try.isAgg119
  z44 := Try.sizeOf119
  v44 := Try.zeroValue119
  t46 := Try.underlying121
  a46 := Try.isAgg121
  z46 := Try.sizeOf121
  v46 := Try.zeroValue121
  t53 := Try.underlying122
  a53 := Try.isAgg122
  z53 := Try.sizeOf122
  v53 := Try.zeroValue122
  t57 := Try.underlying126
  a57 := Try.isAgg126
  z57 := Try.sizeOf126
  v57 := Try.zeroValue126
  t63 := Try.underlying128
  a63 := Try.isAgg128
  z63 := Try.sizeOf128
  v63 := Try.zeroValue128
  t64 := Try.underlying129
  a64 := Try.isAgg129
  z64 := Try.sizeOf129
  v64 := Try.zeroValue129 }
theorem tm_sortsA (m : Nat) : AnyZ.SortsIn Try.prog tm_sortedA_ren Fence.wide m :=
  ⟨fun blk off cap ss W hH hblk hsz => callsIn_wide.2 (AnyM.slices_Sort_string tm_sortA blk off cap ss W hH hblk hsz),
   fun p cap W => callsIn_wide.2 (AnyM.slices_Sort_string_none tm_sortA p cap W)⟩
theorem tm_keys_walk (mb : Option Nat) (W : World) : Calls Try.prog 28 #[.map mb] W fun e w' => e = .returned (.func (.func 54) #[] #[.pointer (some ⟨W.heap.size, 0, none⟩)]) ∧ w' = W.alloc (.cells #[.map mb] 41) :=
  callsIn_wide.1 (AnyZ.keys_in tm_keysA Fence.wide 5 trivial rfl mb W)
theorem tm_sorted_walk (b nn : Nat) (D0 : DataW Unit) (w : World) (hown : w.ownsMap Try.prog 9 (plainElem Try.prog 3) b nn D0) (hmax : Maps.size D0 ≤ 1000) :
    Calls Try.prog 27 #[.func (.func 54) #[] #[.pointer (some ⟨w.heap.size, 0, none⟩)]] (w.alloc (.cells #[.map (some b)] 41)) fun e w' => ∃ (v : Value) (ss : List (List UInt8)), e = .returned v ∧ ss.Perm (strKeys D0) ∧
      w'.ownsRow w.heap.size 9 1 v ss.length ((ss.mergeSort (fun x y => decide (x ≤ y))).map encStr) ∧ (v = .slice none 0 0 ↔ ss = []) ∧ Below w.heap.size w w' := by
  have hbl := hown.lt
  have hseq : SeqGives Fence.wide 2 Try.prog 54 #[.pointer (some ⟨w.heap.size, 0, none⟩)] encStr (fun ss => ss.Perm (strKeys D0)) (Maps.size D0) (w.alloc (.cells #[.map (some b)] 41)) :=
    AnyZ.keys_gives (ρ := tm_keysA_ren) { tm_keysA with } Fence.wide _ trivial rfl (by omega) w.heap.size b nn D0 _ (by simp) (by simp) (by
      obtain ⟨es, clock, hb, Ft, hs, hD⟩ := hown
      exact ⟨es, clock, (Below.heap_alloc _ _ b hbl).trans hb, Ft, hs, hD⟩)
  have cS := AnyZ.sorted_in tm_sortedA Fence.wide 5 trivial trivial trivial trivial rfl (by omega) (tm_sortsA _) (enters_of Try.func53 (by kernel_rfl) rfl) 54 #[.pointer (some ⟨w.heap.size, 0, none⟩)] trivial (enters_of Try.func54 (by kernel_rfl) rfl) _ _ (by unfold maxLen; omega) (by omega) _ hseq
  refine (callsIn_wide.1 cS).mono ?_
  rintro e w' ⟨v, ss, rfl, hS, hrow, hnil, hb⟩
  exact ⟨v, ss, rfl, hS, ownsRow_base_a hrow (by simp), hnil, ((Below.refl _ w).alloc (Nat.le_refl _) _).trans (hb.mono (by simp))⟩
/-- The free variables, in their order. -/
def Tm.fv (t : Tm) : List UInt8 := [97, 98, 118, 119, 120, 121, 122].filter fun c => decide (0 < t.fc c)
end Go.Proofs.YtpklhagedifglaaW.PrintMore
namespace Go.Proofs.YtpklhagedifglaaW.PrintMore
set_option linter.unusedVariables false
set_option linter.unusedSimpArgs false
open Go.Proofs Go.Deep
open Go.RowKit Go.Proofs.YtpklhagedifglaaW.PrintWords
def anyF (n : Nat) (cc : Nat → Bool) (d : Bool) : Bool := (List.range n).any fun j => cc j && (j == 0 || d)
theorem anyF_yes {n : Nat} {cc : Nat → Bool} {d : Bool} (i : Nat) (hi : i < n) (h : (cc i && (i == 0 || d)) = true) : anyF n cc d = true := List.any_eq_true.2 ⟨i, List.mem_range.2 hi, h⟩
theorem anyF_no {n : Nat} {cc : Nat → Bool} {d : Bool} (h : ∀ i, i < n → (cc i && (i == 0 || d)) = false) : anyF n cc d = false := by
  unfold anyF
  rw [List.any_eq_false]
  intro i hi
  rw [h i (List.mem_range.1 hi)]; decide
set_option maxHeartbeats 8000000 in
set_option maxRecDepth 100000 in
theorem l5free_node (w : World) (a c : Int) (A : Option Addr) (n k : Nat) (v : UInt8) (cc : Nat → Bool) (ha : ¬ a = 97) (hn : n ≤ 2)
    (hk : ∀ j, j < n → ∃ (q : Nat) (a' c' : Int) (A' : Option Addr) (m' k' : Nat), A = some ⟨q, 0, none⟩ ∧ w.cell? ⟨q, j * 3, none⟩ = some (.int .u8 a') ∧ w.cell? ⟨q, j * 3 + 1, none⟩ = some (.int .u8 c') ∧ w.cell? ⟨q, j * 3 + 2, none⟩ = some (.slice A' m' k') ∧
      ∀ W, Below w.heap.size w W → Calls Try.prog 38 #[ndV a' c' A' m' k', .int .u8 (v.toNat : Int)] W fun e w' => e = .returned (.bool (cc j)) ∧ Below W.heap.size W w') :
    Calls Try.prog 38 #[ndV a c A n k, .int .u8 (v.toNat : Int)] w fun e w' => e = .returned (.bool (anyF n cc (decide (¬ c = (v.toNat : Int))))) ∧ Below w.heap.size w w' := by
  have HK := Aside0.mk hk
  have HN := Aside0.mk hn
  have a0 : (a == 97) = false := by simp [ha]
  obtain ⟨x, hx⟩ : ∃ x : Int, x = (v.toNat : Int) := ⟨_, rfl⟩
  rw [← hx] at HK ⊢
  clear hk hn ha hx
  unfold ndV
  go_enter Try.func38, Try.ntmps38
  go_wp2
  clear a0
  go_loopg [17] n (fun kq v9 w' => ∃ i : Nat, v9 = .int .i64 (i : Int) ∧ Aside0 (kq + i = n) ∧ Aside0 (∀ j, j < i → (cc j && (j == 0 || decide (¬ c = x))) = false) ∧ Aside0 (Below w.heap.size w w') ∧ Aside0 (w'.cell? ⟨w.heap.size, 1, none⟩ = some (.int .u8 c)))
  case atStart => exact ⟨0, rfl, ⟨by omega⟩, ⟨fun j hj => by omega⟩, ⟨(Below.refl _ _).alloc (Nat.le_refl _) _⟩, ⟨World.cell?_alloc_new _ _ _ _⟩⟩
  case round =>
    obtain ⟨i, rfl, HI, HF, HB, HQ⟩ := hrel
    by_cases hi : i < n
    · have h1 : (i : Int) < (n : Int) := by omega
      have h0 : (0 : Int) ≤ (i : Int) := by omega
      obtain ⟨q, a', c', A', m', k', rfl, hc0, hc1, hc2, hcall⟩ := HK.out i hi
      have hd0 : wr.cell? ⟨q, i * 3, none⟩ = some _ := cell_keep HB.out _ _ hc0
      have hd1 : wr.cell? ⟨q, i * 3 + 1, none⟩ = some _ := cell_keep HB.out _ _ hc1
      have hd2 : wr.cell? ⟨q, i * 3 + 2, none⟩ = some _ := cell_keep HB.out _ _ hc2
      have HC := Aside0.mk hcall
      have HH := Aside0.mk hi
      clear hcall hc0 hc1 hc2 hi
      go_wp2_with fail
      refine (HC.out _ (HB.out.alloc HB.out.size _)).mono ?_
      rintro e w2 ⟨rfl, hb2⟩
      have HB2 := Aside0.mk (show Below w.heap.size w w2 from (HB.out.alloc HB.out.size _).trans (hb2.mono (Nat.le_trans HB.out.size (by simp))))
      have hq2 : w2.cell? ⟨w.heap.size, 1, none⟩ = some (.int .u8 c) := cell_keep hb2 _ _ (cell_alloc_keep _ _ _ _ HQ.out)
      have HQ2 := Aside0.mk hq2
      have HW := Aside0.mk (show wrap64 ((i : Int) + 1) = ((i + 1 : Nat) : Int) from by have := HN.out; have := HH.out; rw [wrap64]; omega)
      clear hb2 hd0 hd1 hd2
      cases hcc : cc i with
      | false =>
        have HCC := Aside0.mk hcc
        go_wp2
        go_roundg (gk - 1)
        case measure => have := HI.out; have := HH.out; omega
        case rel =>
          refine ⟨i + 1, ?_, ⟨by have := HI.out; have := HH.out; omega⟩, ⟨fun j hj => ?_⟩, HB2, HQ2⟩
          · have := HN.out; have := HH.out
            have e1 : IntKind.i64.wrap ((i : Int) + 1) = ((i + 1 : Nat) : Int) := by rw [IntKind.wrap_i64]; omega
            have e2 : wrap64 ((i : Int) + 1) = ((i + 1 : Nat) : Int) := by rw [wrap64]; omega
            first | (rw [← e1]; done) | (rw [← e2]; done) | (simp [e1]; done) | (simp [e2]; done) | (show Value.int .i64 _ = _; rw [e1]; done) | (show Value.int .i64 _ = _; rw [e2])
          · by_cases hj2 : j < i
            · exact HF.out j hj2
            · have : j = i := by omega
              subst this; rw [HCC.out]; rfl
      | true =>
        have HCC := Aside0.mk hcc
        by_cases i0 : i = 0
        · have q1 : ((i : Int) == 0) = true := by simp [i0]
          have HI0 := Aside0.mk i0
          clear i0
          go_wp2
          go_ret
          exact ⟨by rw [anyF_yes i HH.out (by rw [HCC.out, HI0.out]; rfl)]; rfl, HB2.out⟩
        · have q1 : ((i : Int) == 0) = false := by simp; omega
          have HI1 := Aside0.mk i0
          clear i0
          by_cases hcv : c = x
          · have q2 : (c != x) = false := by simp [hcv]
            have HCV := Aside0.mk hcv
            clear hcv
            go_wp2
            go_roundg (gk - 1)
            case measure => have := HI.out; have := HH.out; omega
            case rel =>
              refine ⟨i + 1, ?_, ⟨by have := HI.out; have := HH.out; omega⟩, ⟨fun j hj => ?_⟩, HB2, HQ2⟩
              · have := HN.out; have := HH.out
                have e1 : IntKind.i64.wrap ((i : Int) + 1) = ((i + 1 : Nat) : Int) := by rw [IntKind.wrap_i64]; omega
                have e2 : wrap64 ((i : Int) + 1) = ((i + 1 : Nat) : Int) := by rw [wrap64]; omega
                first | (rw [← e1]; done) | (rw [← e2]; done) | (simp [e1]; done) | (simp [e2]; done) | (show Value.int .i64 _ = _; rw [e1]; done) | (show Value.int .i64 _ = _; rw [e2])
              · by_cases hj2 : j < i
                · exact HF.out j hj2
                · have : j = i := by omega
                  subst this
                  have h1 := HCV.out
                  have h2 := HI1.out
                  simp [h1, h2]
          · have q2 : (c != x) = true := by simp [hcv]
            have HCV := Aside0.mk hcv
            clear hcv
            go_wp2
            go_ret
            exact ⟨by rw [anyF_yes i HH.out (by have h1 := HCV.out; rw [HCC.out]; simp [h1])]; rfl, HB2.out⟩
    · have h1 : (n : Int) ≤ (i : Int) := by omega
      have HE := Aside0.mk (show i = n from by have := HI.out; omega)
      clear hi
      go_wp2
      go_ret
      exact ⟨by rw [anyF_no (fun j hj => HF.out j (by rw [HE.out]; exact hj))]; rfl, HB.out⟩
set_option maxHeartbeats 1000000 in
theorem l5free_var (w : World) (c : UInt8) (A : Option Addr) (k : Nat) (v : UInt8) :
    Calls Try.prog 38 #[ndV 97 (c.toNat : Int) A 0 k, .int .u8 (v.toNat : Int)] w fun e w' => e = .returned (.bool (decide (v = c))) ∧ Below w.heap.size w w' := by
  unfold ndV
  go_enter Try.func38, Try.ntmps38
  go_wp2
  go_ret
  refine ⟨?_, (Below.refl _ _).alloc (Nat.le_refl _) _⟩
  show Ending.returned (Value.bool ((c.toNat : Int) == (v.toNat : Int))) = _
  congr 2
  by_cases h : v = c
  · subst h; simp
  · have : ¬ (c.toNat : Int) = (v.toNat : Int) := fun e => h (UInt8.toNat_inj.1 (by omega))
    simp [h, this]
theorem any2 (a b : Nat) (d : Bool) : anyF 2 (fun j => if j = 0 then decide (0 < a) else decide (0 < b)) d = decide (0 < a + if d = true then b else 0) := by
  simp only [anyF, List.range_succ, List.range_zero, List.nil_append, List.cons_append, List.any_cons, List.any_nil, Bool.or_false]
  cases a <;> cases b <;> cases d <;> simp <;> omega
def Tm.fb (t : Tm) (v : UInt8) : Bool := decide (0 < t.fc v)
theorem un_97 {c : UInt8} (h : isUn c = true) : ¬ (c.toNat : Int) = 97 := by
  rcases isUn_cases h with rfl | rfl | rfl | rfl | rfl | rfl | rfl <;> decide
theorem bin_97 {c : UInt8} (h : isBin c = true) : ¬ (c.toNat : Int) = 97 := by
  rcases isBin_cases h with rfl | rfl | rfl | rfl | rfl | rfl | rfl <;> decide
theorem loop_97 {c : UInt8} (h : c = 91 ∨ c = 123) : ¬ (c.toNat : Int) = 97 := by rcases h with rfl | rfl <;> decide
theorem l5Free_walk (lo : Nat) (v : UInt8) (hv : ¬ (v.toNat : Int) = 0) : ∀ (t : Tm) (x : Value) (w : World), t.ok → NdAt w lo x t → Calls Try.prog 38 #[x, .int .u8 (v.toNat : Int)] w fun e w' => e = .returned (.bool (t.fb v)) ∧ Below w.heap.size w w' := by
  intro t
  induction t with
  | leaf c =>
    rintro x w hw ⟨A, k, rfl⟩
    cases hd : isDig c with
    | true =>
      rw [if_pos rfl]
      have := l5free_node w 48 (c.toNat : Int) A 0 k v (fun _ => false) (by decide) (by omega) (fun j hj => by omega)
      have e : (Tm.leaf c).fb v = anyF 0 (fun _ => false) (decide (¬ (c.toNat : Int) = (v.toNat : Int))) := by
        simp only [Tm.fb, Tm.fc, hd]; simp [anyF]
      rw [e]; exact this
    | false =>
      rw [if_neg (by decide)]
      have e : (Tm.leaf c).fb v = decide (v = c) := by
        simp only [Tm.fb, Tm.fc, hd]
        by_cases h : v = c <;> simp [h]
      rw [e]; exact l5free_var w c A k v
  | un c x ih =>
    rintro z w hw h
    rcases nd_parts h with ⟨_, _, _, h, _⟩ | ⟨c', x', q, k, a0, c0, A0, m0, k0, e, rfl, h0, h1, h2, hx⟩ | ⟨_, _, _, _, _, _, _, _, _, _, _, _, _, _, _, _, (h | ⟨_, h, _⟩), _⟩
    · cases h
    · cases e
      have := l5free_node w (c.toNat : Int) 0 (some ⟨q, 0, none⟩) 1 k v (fun _ => x.fb v) (un_97 hw.1) (by omega) (fun j hj => by
        have : j = 0 := by omega
        subst this
        exact ⟨q, a0, c0, A0, m0, k0, rfl, h0, h1, h2, fun W hb => ih _ W hw.2 (nd_below hb hx)⟩)
      have e : (Tm.un c x).fb v = anyF 1 (fun _ => x.fb v) (decide (¬ (0 : Int) = (v.toNat : Int))) := by
        show x.fb v = _
        simp [anyF, List.range_succ]
      rw [e]; exact this
    · cases h.1
    · cases h
  | bin c x y ih1 ih2 =>
    rintro z w hw h
    rcases nd_parts h with ⟨_, _, _, h, _⟩ | ⟨_, _, _, _, _, _, _, _, _, h, _⟩ | ⟨c', u, x', y', q, k, a0, c0, A0, m0, k0, a1, c1, A1, m1, k1, (⟨e, rfl⟩ | ⟨_, hz, _⟩), rfl, h0, h1, h2, h3, h4, h5, hx, hy⟩
    · cases h
    · cases h
    · cases e
      have := l5free_node w (c.toNat : Int) 0 (some ⟨q, 0, none⟩) 2 k v (fun j => if j = 0 then x.fb v else y.fb v) (bin_97 hw.1) (by omega) (fun j hj => by
        have : j = 0 ∨ j = 1 := by omega
        rcases this with rfl | rfl
        · exact ⟨q, a0, c0, A0, m0, k0, rfl, h0, h1, h2, fun W hb => ih1 _ W hw.2.1 (nd_below hb hx)⟩
        · exact ⟨q, a1, c1, A1, m1, k1, rfl, h3, h4, h5, fun W hb => ih2 _ W hw.2.2 (nd_below hb hy)⟩)
      have e : (Tm.bin c x y).fb v = anyF 2 (fun j => if j = 0 then x.fb v else y.fb v) (decide (¬ (0 : Int) = (v.toNat : Int))) := by
        have hd : decide (¬ (0 : Int) = (v.toNat : Int)) = true := decide_eq_true (fun e => hv e.symm)
        rw [hd]
        exact (any2 (x.fc v) (y.fc v) true).symm
      rw [e]; exact this
    · cases hz
  | loop c u x y ih1 ih2 =>
    rintro z w hw h
    rcases nd_parts h with ⟨_, _, _, h, _⟩ | ⟨_, _, _, _, _, _, _, _, _, h, _⟩ | ⟨c', u', x', y', q, k, a0, c0, A0, m0, k0, a1, c1, A1, m1, k1, (⟨hz, _⟩ | ⟨z, e, rfl⟩), rfl, h0, h1, h2, h3, h4, h5, hx, hy⟩
    · cases h
    · cases h
    · cases hz
    · cases e
      have := l5free_node w (c.toNat : Int) (u.toNat : Int) (some ⟨q, 0, none⟩) 2 k v (fun j => if j = 0 then x.fb v else y.fb v) (loop_97 hw.1) (by omega) (fun j hj => by
        have : j = 0 ∨ j = 1 := by omega
        rcases this with rfl | rfl
        · exact ⟨q, a0, c0, A0, m0, k0, rfl, h0, h1, h2, fun W hb => ih1 _ W hw.2.2.1 (nd_below hb hx)⟩
        · exact ⟨q, a1, c1, A1, m1, k1, rfl, h3, h4, h5, fun W hb => ih2 _ W hw.2.2.2 (nd_below hb hy)⟩)
      have e : (Tm.loop c u x y).fb v = anyF 2 (fun j => if j = 0 then x.fb v else y.fb v) (decide (¬ (u.toNat : Int) = (v.toNat : Int))) := by
        have hd : decide (¬ (u.toNat : Int) = (v.toNat : Int)) = decide (¬ v = u) := by
          rw [decide_eq_decide]
          exact ⟨fun h e => h (by rw [e]), fun h e => h (UInt8.toNat_inj.1 (by omega))⟩
        rw [hd]
        refine Eq.trans ?_ (any2 (x.fc v) (y.fc v) (decide (¬ v = u))).symm
        simp only [Tm.fb, Tm.fc]
        by_cases hvu : v = u <;> simp [hvu]
      rw [e]; exact this
end Go.Proofs.YtpklhagedifglaaW.PrintMore
namespace Go.Proofs.YtpklhagedifglaaW.PrintMore
set_option linter.unusedVariables false
set_option linter.unusedSimpArgs false
open Go.Proofs Go.Deep Go.Maps Go.Sort Go.Shelf
open Go.RowKit Go.Proofs.YtpklhagedifglaaW.PrintWords Go.Proofs.YtpklhagedifglaaW.PrintLast Go.Proofs.YtpklhagedifglaaW.PrintMore
def ltB (x y : List UInt8) : Prop := x ≤ y ∧ x ≠ y
theorem asc_eq : ∀ (l m : List (List UInt8)), l.Pairwise ltB → m.Pairwise ltB → (∀ x, x ∈ l ↔ x ∈ m) → l = m := by
  intro l
  induction l with
  | nil =>
    intro m _ _ h
    cases m with
    | nil => rfl
    | cons b m => exact absurd ((h b).2 List.mem_cons_self) (by simp)
  | cons a l ih =>
    intro m hl hm h
    cases m with
    | nil => exact absurd ((h a).1 List.mem_cons_self) (by simp)
    | cons b m =>
      obtain ⟨l1, l2⟩ := List.pairwise_cons.1 hl
      obtain ⟨m1, m2⟩ := List.pairwise_cons.1 hm
      have hab : a = b := by
        rcases List.mem_cons.1 ((h a).1 List.mem_cons_self) with e | e1
        · exact e
        rcases List.mem_cons.1 ((h b).2 List.mem_cons_self) with e | e2
        · exact e.symm
        exact List.le_antisymm (l1 b e2).1 (m1 a e1).1
      subst hab
      rw [ih m l2 m2 fun x => ⟨fun hx => ?_, fun hx => ?_⟩]
      · rcases List.mem_cons.1 ((h x).1 (List.mem_cons_of_mem _ hx)) with e | e
        · exact absurd e.symm (l1 x hx).2
        · exact e
      · rcases List.mem_cons.1 ((h x).2 (List.mem_cons_of_mem _ hx)) with e | e
        · exact absurd e.symm (m1 x hx).2
        · exact e
theorem strKeys_of {W : World} {b n : Nat} {D : DataW Unit} {C : Ct} (h : W.ownsMap Try.prog 9 (plainElem Try.prog 3) b n D) (hD : FrD D C) : (strKeys D).Nodup ∧ ∀ s, s ∈ strKeys D ↔ ∃ c, s = [c] ∧ C c ≠ 0 := by
  obtain ⟨es, he, hp, hk⟩ := h.entries env_keyed
  have hs : ∀ p ∈ es, ∃ s, p.1 = .string s := by
    obtain ⟨ms, clock, hb, F, hsz, hDD⟩ := h
    rw [hDD] at he
    cases he
    intro p hp
    obtain ⟨x, hx, rfl⟩ := List.mem_map.1 (mem_sorted.1 hp)
    obtain ⟨y, hy⟩ := F.reads x hx
    rw [Go.WideElems.rg_of hy]
    obtain ⟨s, _, e, _⟩ := Maps.keyOf_str Try.underlying9 (Go.WideElems.rd_key hy)
    exact ⟨s, e⟩
  have hhas : ∀ p ∈ es, Maps.has D p.1 = true := fun p hp => by
    rw [he, has_eq]
    exact List.any_eq_true.2 ⟨p, hp, WideAt.sameKey_self (hk p hp)⟩
  have hone : ∀ p ∈ es, ∃ c, p.1 = .string [c] ∧ C c ≠ 0 := fun p hp => by
    obtain ⟨s, e⟩ := hs p hp
    have h1 := hhas p hp
    rw [e] at h1
    by_cases hc : cntS C s = 0
    · rw [has_false_of_atKey (fun z => by rw [hD s z, if_pos hc])] at h1
      cases h1
    · match s, e, hc with
      | [c], e, hc => exact ⟨c, e, hc⟩
      | [], _, hc => exact absurd rfl hc
      | _ :: _ :: _, _, hc => exact absurd rfl hc
  rw [he]
  constructor
  · show (es.map fun p => strOf p.1).Nodup
    rw [List.Nodup, List.pairwise_map]
    refine hp.imp_of_mem ?_
    intro p q hpm hqm hne e
    obtain ⟨c, e1, _⟩ := hone p hpm
    obtain ⟨d, e2, _⟩ := hone q hqm
    rw [e1, e2] at e
    exact hne (by rw [e1, e2]; exact congrArg Lit.string e)
  · intro s
    show s ∈ (es.map fun p => strOf p.1) ↔ _
    rw [List.mem_map]
    constructor
    · rintro ⟨p, hpm, rfl⟩
      obtain ⟨c, e1, h1⟩ := hone p hpm
      exact ⟨c, by rw [e1]; rfl, h1⟩
    · rintro ⟨c, rfl, hc⟩
      have h1 := fr_has hD c hc
      rw [he, has_eq] at h1
      obtain ⟨p, hpm, hpk⟩ := List.any_eq_true.1 h1
      refine ⟨p, hpm, ?_⟩
      rw [WideAt.sameKey_eq hpk]; rfl
theorem sorted_keys {ss : List (List UInt8)} {D : DataW Unit} {W : World} {b n : Nat} {t : Tm} (ht : t.ok) (h : W.ownsMap Try.prog 9 (plainElem Try.prog 3) b n D) (hD : FrD D t.fc) (hp : ss.Perm (strKeys D)) :
    ss.mergeSort (fun x y => decide (x ≤ y)) = t.fv.map fun c => [c] := by
  obtain ⟨h1, h2⟩ := strKeys_of h hD
  have hperm := List.mergeSort_perm ss (fun x y => decide (x ≤ y))
  refine asc_eq _ _ ?_ ?_ ?_
  · have hs := List.pairwise_mergeSort (le := fun x y : List UInt8 => decide (x ≤ y)) (fun a b c h1 h2 => decide_eq_true (List.le_trans (of_decide_eq_true h1) (of_decide_eq_true h2))) (fun a b => by
      rcases List.le_total a b with h | h <;> simp [h]) ss
    have hn : (ss.mergeSort fun x y => decide (x ≤ y)).Nodup := (hperm.trans hp).nodup_iff.2 h1
    exact (List.Pairwise.and hs hn).imp fun {x y} h => ⟨of_decide_eq_true h.1, h.2⟩
  · rw [List.pairwise_map]
    have : (([97, 98, 118, 119, 120, 121, 122] : List UInt8).Pairwise fun a b => ltB [a] [b]) := by
      unfold ltB
      decide
    exact this.sublist List.filter_sublist
  · intro s
    rw [(hperm.trans hp).mem_iff, h2 s, List.mem_map]
    constructor
    · rintro ⟨c, rfl, hc⟩
      refine ⟨c, List.mem_filter.2 ⟨?_, decide_eq_true (by omega)⟩, rfl⟩
      have := fc_var t c ht (by omega)
      simpa [isVar] using this
    · rintro ⟨c, hc, rfl⟩
      refine ⟨c, rfl, ?_⟩
      have := of_decide_eq_true (List.mem_filter.1 hc).2
      omega
set_option maxHeartbeats 2000000 in
theorem tm_Join0 (v : Value) (hv : v = .slice none 0 0) (sep : ByteArray) (w : World) : Calls Try.prog 26 #[v, .string sep] w fun e w' => e = .returned (.string ⟨#[]⟩) ∧ w' = w := by
  subst hv
  go_enter Try.func26, Try.ntmps26
  go_wp2
  go_ret
  exact ⟨rfl, rfl⟩
theorem join_ones : ∀ (l : List UInt8), Lib.join (l.map fun c => [c]) [] = l := by
  intro l
  cases l with
  | nil => rfl
  | cons a l =>
    rw [List.map_cons, Lib.join_cons]
    have : ∀ l : List UInt8, Lib.joinTail [] (l.map fun c => [c]) = l := by
      intro l
      induction l with
      | nil => rfl
      | cons a l ih => simp only [Lib.joinTail, List.map_cons, List.flatten_cons, List.nil_append, List.cons_append] at ih ⊢; rw [ih]
    rw [this]; rfl
theorem fv_len (t : Tm) : t.fv.length ≤ 7 := List.length_filter_le _ _
set_option maxHeartbeats 8000000 in
set_option maxRecDepth 100000 in
theorem impl_FreeVars_walk (s : ByteArray) (w : World) : Calls Try.prog 10 #[.string s] w fun e w' => e = .returned (.string ((tmOf s.data.toList).elim ⟨#[]⟩ fun t => ⟨t.fv.toArray⟩)) ∧ Below w.heap.size w w' := by
  go_enter Try.func10, Try.ntmps10
  go_wp2_with fail
  refine (termOf_walk s _).mono ?_
  rintro e w1 ⟨v, rfl, hb, hres⟩
  have HB := Aside0.mk hb
  clear hb
  rcases hres with ⟨t, hp, hat⟩ | ⟨hp, rfl⟩
  · obtain ⟨p, rfl⟩ := tm_ptr0 hat
    have HP := Aside0.mk hp
    have HA := Aside0.mk hat
    have HZ := Aside0.mk (show t.tx.size ≤ 80 from (tmOf_tx hp).2)
    clear hp hat
    go_wp2_with fail
    refine (free_walk t _ _ (by have := HZ.out; omega) HA.out).mono ?_
    rintro e w2 ⟨b, rfl, hbw, ⟨D, ho, hD⟩, hb2⟩
    have HO := Aside0.mk ho
    have HD := Aside0.mk hD
    have HB2 := Aside0.mk (HB.out.trans (hb2.mono HB.out.size))
    clear ho hD hb2 hbw
    go_wp2_with fail
    refine (tm_keys_walk _ _).mono ?_
    rintro e w3 ⟨rfl, rfl⟩
    go_wp2_with fail
    refine (tm_sorted_walk b _ D w2 HO.out (by have := HO.out.size_le; have := lf_le t; have := HZ.out; omega)).mono ?_
    rintro e w4 ⟨vr, ss, rfl, hss, hrow, hnil, hb4⟩
    have HB4 := Aside0.mk (HB2.out.trans (hb4.mono HB2.out.size))
    have hsort := sorted_keys (tmOf_ok HP.out) HO.out HD.out hss
    rw [hsort] at hrow
    have hlen : ss.length = t.fv.length := by
      have := congrArg List.length hsort
      rw [List.length_mergeSort, List.length_map] at this
      exact this
    rw [hlen] at hrow
    by_cases h0 : ss = []
    · have hfv : t.fv = [] := List.eq_nil_of_length_eq_zero (by rw [← hlen, h0]; rfl)
      have hv := hnil.2 h0
      have HFV := Aside0.mk hfv
      clear hrow hnil hss hb4 hsort hlen h0 hfv
      subst hv
      go_wp2_with fail
      refine (tm_Join0 _ rfl ⟨#[]⟩ w4).mono ?_
      rintro e w5 ⟨rfl, hw5⟩
      rw [hw5]
      clear hw5
      go_wp2
      go_ret
      refine ⟨?_, HB4.out⟩
      rw [HP.out]
      show Ending.returned _ = Ending.returned (.string ⟨t.fv.toArray⟩)
      rw [HFV.out]; rfl
    · have hpos : 0 < t.fv.length := by
        rw [← hlen]
        exact List.length_pos_iff.2 h0
      have hR : Kd.R Kd.string 9 w4 w2.heap.size (fun _ => True) vr (t.fv.map fun c => ch c) := by
        refine Kd.R_of_own (enc := Value.string) (h1 := fun _ => rfl) ?_ (fun _ _ => trivial)
        have e1 : encs Value.string (t.fv.map fun c => ch c) = (t.fv.map fun c => [c]).map encStr := by
          simp [encs, encStr, Function.comp_def]
        rw [e1, List.length_map]
        exact hrow
      have HR := Aside0.mk hR
      have HPO := Aside0.mk hpos
      clear hrow hnil hss hb4 hsort hlen h0 hR hpos
      have hjn : Lib.join ((t.fv.map fun c => ch c).map (·.data.toList)) (⟨#[]⟩ : ByteArray).data.toList = t.fv := by
        have := join_ones t.fv
        simpa [Function.comp_def] using this
      have HJ := Aside0.mk hjn
      clear hjn
      go_wp2_with fail
      refine (tm_Join vr _ (t.fv.map fun c => ch c) ⟨#[]⟩ _ HR.out (by rw [List.length_map]; exact HPO.out) (by rw [List.length_map]; have := fv_len t; omega) (by rw [HJ.out]; have := fv_len t; omega)).mono ?_
      rintro e w5 ⟨rfl, hb5⟩
      have HB5 := Aside0.mk (HB4.out.trans (hb5.mono HB4.out.size))
      clear hb5
      go_wp2
      go_ret
      refine ⟨?_, HB5.out⟩
      rw [HP.out]
      show Ending.returned (.string (joinB _ _)) = Ending.returned (.string ⟨t.fv.toArray⟩)
      unfold joinB
      rw [HJ.out]
  · have HP := Aside0.mk hp
    clear hp
    go_wp2
    go_ret
    exact ⟨by rw [HP.out]; rfl, HB.out⟩
end Go.Proofs.YtpklhagedifglaaW.PrintMore
namespace Go.Proofs.YtpklhagedifglaaW.PrintMore
set_option linter.unusedVariables false
set_option linter.unusedSimpArgs false
open Go.Proofs Go.Deep
open Go.RowKit Go.Proofs.YtpklhagedifglaaW.PrintWords
def letters : List UInt8 := [97, 98, 118, 119, 120, 121, 122]
theorem fv_step (F : UInt8 → Bool) (i : Nat) (hi : i < 7) : (letters.take (i + 1)).filter F = (letters.take i).filter F ++ (if F (letters.getD i 0) = true then [letters.getD i 0] else []) := by
  have e : letters.take (i + 1) = letters.take i ++ [letters.getD i 0] := by
    rw [List.take_add_one, List.getD_eq_getElem?_getD, List.getElem?_eq_getElem (by exact hi)]; rfl
  rw [e, List.filter_append]
  congr 1
  cases h : F (letters.getD i 0) <;> (rw [List.filter_cons, h]; rfl)
def fsphi_true (s : ByteArray) (h : Nat) (O : ByteArray) (d : UInt8) (f : Bool) (a c : Int) (A : Option Addr) (m k : Nat) : Nat → Value → World → Prop
  | 0, v, _ => v = .bool true
  | 1, v, _ => v = .bool true
  | 2, v, _ => v = .agg #[.int .u8 a, .int .u8 c, .slice A m k]
  | 3, v, _ => v = .string (ch d)
  | 4, v, _ => v = .int .u8 (d.toNat : Int)
  | 5, v, _ => v = .bool f
  | 6, v, _ => v = .bool f
  | _, _, _ => True
def fsphi_false (s : ByteArray) (h : Nat) (O : ByteArray) (d : UInt8) (f : Bool) (a c : Int) (A : Option Addr) (m k : Nat) : Nat → Value → World → Prop
  | 0, v, _ => v = .bool false
  | 1, v, _ => v = .bool false
  | 2, _, _ => True
  | 3, _, _ => True
  | 4, _, _ => True
  | 5, _, _ => True
  | 6, v, _ => v = .bool false
  | _, _, _ => True
theorem letter_nz (i : Nat) (hi : i < 7) : ¬ ((letters.getD i 0).toNat : Int) = 0 := by
  have : ∀ i, i < 7 → ¬ ((letters.getD i 0).toNat : Int) = 0 := by decide
  exact this i hi
set_option maxHeartbeats 16000000 in
set_option maxRecDepth 100000 in
theorem spec_FreeVars_walk (s : ByteArray) (w : World) (hs : s.size ≤ 1048576) : Calls Try.prog 17 #[.string s] w fun e w' => e = .returned (.string ((tmOf s.data.toList).elim ⟨#[]⟩ fun t => ⟨t.fv.toArray⟩)) ∧ Below w.heap.size w w' := by
  have HS := Aside0.mk hs
  clear hs
  go_enter Try.func17, Try.ntmps17
  go_wp2_with fail
  refine (l5Read_walk s _ HS.out).mono ?_
  rintro e w1 ⟨a, c, A, m, k, rfl, hb, hs1, hs2⟩
  have HB := Aside0.mk hb
  clear hb
  unfold ndV at *
  cases ht : tmOf s.data.toList with
  | none =>
    have HT := Aside0.mk ht
    clear hs1 hs2 ht
    have e0 : (none : Option Tm).isSome = false := rfl
    rw [e0]
    go_wp2
    obtain ⟨h, hh⟩ : ∃ h, h = w1.heap.size := ⟨_, rfl⟩
    obtain ⟨W0, hW0⟩ : ∃ W0, W0 = w1.alloc (.cells #[.int .u8 a, .int .u8 c, .slice A m k] 45) := ⟨_, rfl⟩
    have hB0 : Below w1.heap.size w1 W0 := by rw [hW0]; exact (Below.refl _ _).alloc (Nat.le_refl _) _
    have m0 : W0.cell? ⟨h, 0, none⟩ = some (.int .u8 a) := by rw [hW0, hh]; exact World.cell?_alloc_new _ _ _ _
    have m1 : W0.cell? ⟨h, 1, none⟩ = some (.int .u8 c) := by rw [hW0, hh]; exact World.cell?_alloc_new _ _ _ _
    have m2 : W0.cell? ⟨h, 2, none⟩ = some (.slice A m k) := by rw [hW0, hh]; exact World.cell?_alloc_new _ _ _ _
    have hz0 : W0.heap.size = w1.heap.size + 1 := by rw [hW0]; simp
    obtain ⟨U, hU⟩ : ∃ U, U = W0.alloc (.cells #[.string (ch 97), .string (ch 98), .string (ch 118), .string (ch 119), .string (ch 120), .string (ch 121), .string (ch 122)] 9) := ⟨_, rfl⟩
    obtain ⟨B, hB_⟩ : ∃ B, B = W0.heap.size := ⟨_, rfl⟩
    have HBU := Aside0.mk (show Below w1.heap.size w1 U from by rw [hU]; exact hB0.alloc hB0.size _)
    have N0 := Aside0.mk (show U.cell? ⟨h, 0, none⟩ = some (.int .u8 a) from by rw [hU]; exact cell_alloc_keep _ _ _ _ m0)
    have N1 := Aside0.mk (show U.cell? ⟨h, 1, none⟩ = some (.int .u8 c) from by rw [hU]; exact cell_alloc_keep _ _ _ _ m1)
    have N2 := Aside0.mk (show U.cell? ⟨h, 2, none⟩ = some (.slice A m k) from by rw [hU]; exact cell_alloc_keep _ _ _ _ m2)
    have HC := Aside0.mk (show ∀ j, j < 7 → U.cell? ⟨B, j, none⟩ = some (.string (ch (letters.getD j 0))) from fun j hj => by
      rw [hU, hB_]
      refine (World.cell?_alloc_new _ _ _ _).trans ?_
      have : ∀ j, j < 7 → (#[.string (ch 97), .string (ch 98), .string (ch 118), .string (ch 119), .string (ch 120), .string (ch 121), .string (ch 122)] : Array Value)[j]? = some (.string (ch (letters.getD j 0))) := by
        intro j hj
        match j, hj with
        | 0, _ => rfl
        | 1, _ => rfl
        | 2, _ => rfl
        | 3, _ => rfl
        | 4, _ => rfl
        | 5, _ => rfl
        | 6, _ => rfl
      exact this j hj)
    rw [← hW0, ← hU]
    rw [show w1.heap.size + 1 = B from by rw [hB_, hz0], ← hh]
    clear m0 m1 m2 hz0 hB0 hW0 hU hB_ hh e0
    go_loopg [3, 15] 7 (fun kq v3 v15 w' => ∃ i : Nat, v3 = .string ⟨#[]⟩ ∧ v15 = .int .i64 (i : Int) ∧ Aside0 (kq + i = 7) ∧ Aside0 (Below U.heap.size U w'))
    case atStart => exact ⟨0, rfl, rfl, ⟨rfl⟩, ⟨Below.refl _ _⟩⟩
    case round =>
      obtain ⟨i, hO, rfl, HI, HBW⟩ := hrel
      obtain ⟨O, hO2⟩ : ∃ O, O = (⟨#[]⟩ : ByteArray) := ⟨_, rfl⟩
      rw [← hO2] at hO
      subst hO
      have HO := Aside0.mk hO2
      have HOZ := Aside0.mk (show O.size ≤ 7 from by rw [hO2]; first | exact Nat.zero_le _ | (rw [← ByteArray.size_data]; show (List.filter _ _).toArray.size ≤ 7; rw [List.size_toArray]; exact Nat.le_trans (List.length_filter_le _ _) (by rw [List.length_take]; exact Nat.min_le_right _ _)))
      clear hO2
      by_cases hi : i < 7
      · have hlt : (i : Int) < 7 := by omega
        have h0 : (0 : Int) ≤ (i : Int) := by omega
        obtain ⟨d, hd⟩ : ∃ d, d = letters.getD i 0 := ⟨_, rfl⟩
        have x0_ : wr.cell? ⟨B, i, none⟩ = some (.string (ch d)) := by rw [hd]; exact cell_keep HBW.out _ _ (HC.out i hi)
        have HD := Aside0.mk hd
        have HH := Aside0.mk hi
        have HW := Aside0.mk (show wrap64 ((i : Int) + 1) = ((i + 1 : Nat) : Int) from by rw [wrap64]; omega)
        clear hd hi
        go_wp2
        refine region_phi4 (fun _ => false) (fsphi_false s h O d false a c A m k) [3, 4, 5, 7, 0, 1, 2, 6, 8, 9, 10, 11, 12, 13, 14, 15, 30] [1] (by kernel_rfl) (by kernel_rfl) (by kernel_rfl) ?_ ?_ ⟨?_, ?_, ?_, ?_, ?_, ?_, ?_, trivial⟩ ?_
        · intro g hg v V h
          simp only [List.mem_cons, List.not_mem_nil, or_false] at hg
          subst hg
          exact h
        · intro i v V V' hV
          unfold fsphi_false
          split <;> first | exact id | (skip)
        · intro b_ V hdf hb hB ha
          refine ⟨fun hg K hK => ?_, fun hg => absurd hg (by decide)⟩
          have b5 : b_.eval (.tmp 5) = .bool false := (hb 5 (by decide)).trans rfl
          clear ha hb hdf
          simp only [Act.eval, Array.getD_eq_getD_getElem?] at b5
          go_simp
          exact hK _ _ (Below.refl _ V) rfl
        · intro b_ V hdf hb hB ha
          refine ⟨fun hg K hK => ?_, fun hg => absurd hg (by decide)⟩
          have e0 : b_.eval (.tmp 19) = .bool false := ha 0 19 rfl rfl
          clear ha hb hdf
          simp only [Act.eval, Array.getD_eq_getD_getElem?] at e0
          go_simp
          exact hK _ _ (Below.refl _ V) rfl
        · intro b_ V hdf hb hB ha
          exact ⟨fun hg => absurd hg (by decide), fun _ => trivial⟩
        · intro b_ V hdf hb hB ha
          exact ⟨fun hg => absurd hg (by decide), fun _ => trivial⟩
        · intro b_ V hdf hb hB ha
          exact ⟨fun hg => absurd hg (by decide), fun _ => trivial⟩
        · intro b_ V hdf hb hB ha
          exact ⟨fun hg => absurd hg (by decide), fun _ => trivial⟩
        · intro b_ V hdf hb hB ha
          refine ⟨fun hg K hK => ?_, fun hg => absurd hg (by decide)⟩
          have e1 : b_.eval (.tmp 20) = .bool false := ha 1 20 rfl rfl
          clear ha hb hdf
          simp only [Act.eval, Array.getD_eq_getD_getElem?] at e1
          go_simp
          exact hK _ _ (Below.refl _ V) rfl
        · intro b_ V hdf hsz hb hB ha
          have HBV := Aside0.mk (HBW.out.trans (hB.mono HBW.out.size))
          have hsz' : b_.tmps.size = 31 := hsz.trans rfl
          have hdf' : b_.defers = [] := hdf.trans rfl
          obtain ⟨f_, hf_, hlit_⟩ := act_lit b_ 31 hsz' hdf'
          have ef25 : f_ 25 = .bool false := (hf_ 25).trans (ha 6 25 rfl)
          have ef3 : f_ 3 = .string O := (hf_ 3).trans ((hb 3 (by decide)).trans rfl)
          have ef4 : f_ 4 = .pointer (some ⟨h, 0, none⟩) := (hf_ 4).trans ((hb 4 (by decide)).trans rfl)
          have ef5 : f_ 5 = .bool false := (hf_ 5).trans ((hb 5 (by decide)).trans rfl)
          have ef7 : f_ 7 = .string (ch d) := (hf_ 7).trans ((hb 7 (by decide)).trans rfl)
          have ef0 : f_ 0 = .string s := (hf_ 0).trans ((hb 0 (by decide)).trans rfl)
          have ef1 : f_ 1 = undef := (hf_ 1).trans ((hb 1 (by decide)).trans rfl)
          have ef2 : f_ 2 = .string ⟨#[]⟩ := (hf_ 2).trans ((hb 2 (by decide)).trans rfl)
          have ef6 : f_ 6 = undef := (hf_ 6).trans ((hb 6 (by decide)).trans rfl)
          have ef8 : f_ 8 = .tuple #[.agg #[.int .u8 a, .int .u8 c, .slice A m k], .bool false] := (hf_ 8).trans ((hb 8 (by decide)).trans rfl)
          have ef9 : f_ 9 = .string s := (hf_ 9).trans ((hb 9 (by decide)).trans rfl)
          have ef10 : f_ 10 = .tuple #[.agg #[.int .u8 a, .int .u8 c, .slice A m k], .bool false] := (hf_ 10).trans ((hb 10 (by decide)).trans rfl)
          have ef11 : f_ 11 = .agg #[.int .u8 a, .int .u8 c, .slice A m k] := (hf_ 11).trans ((hb 11 (by decide)).trans rfl)
          have ef12 : f_ 12 = .bool false := (hf_ 12).trans ((hb 12 (by decide)).trans rfl)
          have ef13 : f_ 13 = .slice (some ⟨B, 0, none⟩) 7 7 := (hf_ 13).trans ((hb 13 (by decide)).trans rfl)
          have ef14 : f_ 14 = .int .i64 7 := (hf_ 14).trans ((hb 14 (by decide)).trans rfl)
          have ef15 : f_ 15 = .int .i64 (i : Int) := (hf_ 15).trans ((hb 15 (by decide)).trans rfl)
          have ef30 : f_ 30 = undef := (hf_ 30).trans ((hb 30 (by decide)).trans rfl)
          simp only [show List.range 31 = [0, 1, 2, 3, 4, 5, 6, 7, 8, 9, 10, 11, 12, 13, 14, 15, 16, 17, 18, 19, 20, 21, 22, 23, 24, 25, 26, 27, 28, 29, 30] from rfl, List.map_cons, List.map_nil, ef25, ef3, ef4, ef5, ef7, ef0, ef1, ef2, ef6, ef8, ef9, ef10, ef11, ef12, ef13, ef14, ef15, ef30] at hlit_
          clear ha hb hf_ hsz hdf hsz' hdf' ef25 ef3 ef4 ef5 ef7 ef0 ef1 ef2 ef6 ef8 ef9 ef10 ef11 ef12 ef13 ef14 ef15 ef30
          subst hlit_
          clear hB x0_
          go_wp2
          go_roundg (gk - 1)
          case measure => have := HI.out; have := HH.out; omega
          case rel =>
            refine ⟨i + 1, ?_, ?_, ⟨by have := HI.out; have := HH.out; omega⟩, HBV⟩
            · rw [HO.out]
            · first | (rw [HW.out]; done) | rfl | (show Value.int .i64 _ = _; congr 1)
      · have h1 : (7 : Int) ≤ (i : Int) := by omega
        have HE := Aside0.mk (show i = 7 from by have := HI.out; omega)
        clear hi
        go_wp2
        go_ret
        refine ⟨?_, HB.out.trans ((HBU.out.trans (HBW.out.mono HBU.out.size)).mono HB.out.size)⟩
        rw [HT.out, HO.out]
        first | rfl | (rw [HE.out]; rfl)
  | some t =>
    have HT := Aside0.mk ht
    have HN := Aside0.mk (hs1 t ht)
    clear hs1 hs2 ht
    have e0 : (some t : Option Tm).isSome = true := rfl
    rw [e0]
    go_wp2
    obtain ⟨h, hh⟩ : ∃ h, h = w1.heap.size := ⟨_, rfl⟩
    obtain ⟨W0, hW0⟩ : ∃ W0, W0 = w1.alloc (.cells #[.int .u8 a, .int .u8 c, .slice A m k] 45) := ⟨_, rfl⟩
    have hB0 : Below w1.heap.size w1 W0 := by rw [hW0]; exact (Below.refl _ _).alloc (Nat.le_refl _) _
    have m0 : W0.cell? ⟨h, 0, none⟩ = some (.int .u8 a) := by rw [hW0, hh]; exact World.cell?_alloc_new _ _ _ _
    have m1 : W0.cell? ⟨h, 1, none⟩ = some (.int .u8 c) := by rw [hW0, hh]; exact World.cell?_alloc_new _ _ _ _
    have m2 : W0.cell? ⟨h, 2, none⟩ = some (.slice A m k) := by rw [hW0, hh]; exact World.cell?_alloc_new _ _ _ _
    have hz0 : W0.heap.size = w1.heap.size + 1 := by rw [hW0]; simp
    obtain ⟨U, hU⟩ : ∃ U, U = W0.alloc (.cells #[.string (ch 97), .string (ch 98), .string (ch 118), .string (ch 119), .string (ch 120), .string (ch 121), .string (ch 122)] 9) := ⟨_, rfl⟩
    obtain ⟨B, hB_⟩ : ∃ B, B = W0.heap.size := ⟨_, rfl⟩
    have HBU := Aside0.mk (show Below w1.heap.size w1 U from by rw [hU]; exact hB0.alloc hB0.size _)
    have N0 := Aside0.mk (show U.cell? ⟨h, 0, none⟩ = some (.int .u8 a) from by rw [hU]; exact cell_alloc_keep _ _ _ _ m0)
    have N1 := Aside0.mk (show U.cell? ⟨h, 1, none⟩ = some (.int .u8 c) from by rw [hU]; exact cell_alloc_keep _ _ _ _ m1)
    have N2 := Aside0.mk (show U.cell? ⟨h, 2, none⟩ = some (.slice A m k) from by rw [hU]; exact cell_alloc_keep _ _ _ _ m2)
    have HC := Aside0.mk (show ∀ j, j < 7 → U.cell? ⟨B, j, none⟩ = some (.string (ch (letters.getD j 0))) from fun j hj => by
      rw [hU, hB_]
      refine (World.cell?_alloc_new _ _ _ _).trans ?_
      have : ∀ j, j < 7 → (#[.string (ch 97), .string (ch 98), .string (ch 118), .string (ch 119), .string (ch 120), .string (ch 121), .string (ch 122)] : Array Value)[j]? = some (.string (ch (letters.getD j 0))) := by
        intro j hj
        match j, hj with
        | 0, _ => rfl
        | 1, _ => rfl
        | 2, _ => rfl
        | 3, _ => rfl
        | 4, _ => rfl
        | 5, _ => rfl
        | 6, _ => rfl
      exact this j hj)
    rw [← hW0, ← hU]
    rw [show w1.heap.size + 1 = B from by rw [hB_, hz0], ← hh]
    clear m0 m1 m2 hz0 hB0 hW0 hU hB_ hh e0
    go_loopg [3, 15] 7 (fun kq v3 v15 w' => ∃ i : Nat, v3 = .string ⟨((letters.take i).filter t.fb).toArray⟩ ∧ v15 = .int .i64 (i : Int) ∧ Aside0 (kq + i = 7) ∧ Aside0 (Below U.heap.size U w'))
    case atStart => exact ⟨0, rfl, rfl, ⟨rfl⟩, ⟨Below.refl _ _⟩⟩
    case round =>
      obtain ⟨i, hO, rfl, HI, HBW⟩ := hrel
      obtain ⟨O, hO2⟩ : ∃ O, O = (⟨((letters.take i).filter t.fb).toArray⟩ : ByteArray) := ⟨_, rfl⟩
      rw [← hO2] at hO
      subst hO
      have HO := Aside0.mk hO2
      have HOZ := Aside0.mk (show O.size ≤ 7 from by rw [hO2]; first | exact Nat.zero_le _ | (rw [← ByteArray.size_data]; show (List.filter _ _).toArray.size ≤ 7; rw [List.size_toArray]; exact Nat.le_trans (List.length_filter_le _ _) (by rw [List.length_take]; exact Nat.min_le_right _ _)))
      clear hO2
      have n0 := cell_keep HBW.out _ _ N0.out
      have n1 := cell_keep HBW.out _ _ N1.out
      have n2 := cell_keep HBW.out _ _ N2.out
      by_cases hi : i < 7
      · have hlt : (i : Int) < 7 := by omega
        have h0 : (0 : Int) ≤ (i : Int) := by omega
        obtain ⟨d, hd⟩ : ∃ d, d = letters.getD i 0 := ⟨_, rfl⟩
        have x0_ : wr.cell? ⟨B, i, none⟩ = some (.string (ch d)) := by rw [hd]; exact cell_keep HBW.out _ _ (HC.out i hi)
        have HD := Aside0.mk hd
        have HH := Aside0.mk hi
        have HW := Aside0.mk (show wrap64 ((i : Int) + 1) = ((i + 1 : Nat) : Int) from by rw [wrap64]; omega)
        obtain ⟨f, hf⟩ : ∃ f, f = t.fb d := ⟨_, rfl⟩
        have HF := Aside0.mk hf
        have IH := Aside0.mk (show ∀ V, Below U.heap.size U V → Calls Try.prog 38 #[ndV a c A m k, .int .u8 (d.toNat : Int)] V fun e w' => e = .returned (.bool f) ∧ Below V.heap.size V w' from fun V hV => by rw [hf]; exact l5Free_walk w.heap.size d (by rw [hd]; exact letter_nz i hi) t _ V (tmOf_ok HT.out) (nd_below (HBU.out.trans (hV.mono HBU.out.size)) HN.out))
        clear hf
        clear hd hi
        go_wp2
        refine region_phi4 (fun _ => true) (fsphi_true s h O d f a c A m k) [3, 4, 5, 7, 0, 1, 2, 6, 8, 9, 10, 11, 12, 13, 14, 15, 30] [1] (by kernel_rfl) (by kernel_rfl) (by kernel_rfl) ?_ ?_ ⟨?_, ?_, ?_, ?_, ?_, ?_, ?_, trivial⟩ ?_
        · intro g hg v V h
          simp only [List.mem_cons, List.not_mem_nil, or_false] at hg
          subst hg
          exact h
        · intro i v V V' hV
          unfold fsphi_true
          split <;> first | exact id | (skip)
        · intro b_ V hdf hb hB ha
          refine ⟨fun hg K hK => ?_, fun hg => absurd hg (by decide)⟩
          have b5 : b_.eval (.tmp 5) = .bool true := (hb 5 (by decide)).trans rfl
          clear ha hb hdf
          simp only [Act.eval, Array.getD_eq_getD_getElem?] at b5
          go_simp
          exact hK _ _ (Below.refl _ V) rfl
        · intro b_ V hdf hb hB ha
          refine ⟨fun hg K hK => ?_, fun hg => absurd hg (by decide)⟩
          have e0 : b_.eval (.tmp 19) = .bool true := ha 0 19 rfl rfl
          clear ha hb hdf
          simp only [Act.eval, Array.getD_eq_getD_getElem?] at e0
          go_simp
          exact hK _ _ (Below.refl _ V) rfl
        · intro b_ V hdf hb hB ha
          refine ⟨fun hg K hK => ?_, fun hg => absurd hg (by decide)⟩
          have b4 : b_.eval (.tmp 4) = .pointer (some ⟨h, 0, none⟩) := (hb 4 (by decide)).trans rfl
          have xn0 := cell_keep hB _ _ n0
          have xn1 := cell_keep hB _ _ n1
          have xn2 := cell_keep hB _ _ n2
          clear ha hb hdf
          simp only [Act.eval, Array.getD_eq_getD_getElem?] at b4
          go_simp
          exact hK _ _ (Below.refl _ V) rfl
        · intro b_ V hdf hb hB ha
          refine ⟨fun hg K hK => ?_, fun hg => absurd hg (by decide)⟩
          have b7 : b_.eval (.tmp 7) = .string (ch d) := (hb 7 (by decide)).trans rfl
          clear ha hb hdf
          simp only [Act.eval, Array.getD_eq_getD_getElem?] at b7
          go_simp
          exact hK _ _ (Below.refl _ V) rfl
        · intro b_ V hdf hb hB ha
          refine ⟨fun hg K hK => ?_, fun hg => absurd hg (by decide)⟩
          have e3 : b_.eval (.tmp 22) = .string (ch d) := ha 3 22 rfl rfl
          clear ha hb hdf
          simp only [Act.eval, Array.getD_eq_getD_getElem?] at e3
          go_simp
          exact hK _ _ (Below.refl _ V) rfl
        · intro b_ V hdf hb hB ha
          refine ⟨fun hg K hK => ?_, fun hg => absurd hg (by decide)⟩
          have e2 : b_.eval (.tmp 21) = .agg #[.int .u8 a, .int .u8 c, .slice A m k] := ha 2 21 rfl rfl
          have e4 : b_.eval (.tmp 23) = .int .u8 (d.toNat : Int) := ha 4 23 rfl rfl
          clear ha hb hdf
          simp only [Act.eval, Array.getD_eq_getD_getElem?] at e2 e4
          go_simp
          have hc := IH.out V (HBW.out.trans (hB.mono HBW.out.size))
          unfold ndV at hc
          refine hc.mono ?_
          intro e W2 hr
          obtain ⟨he, hb2⟩ := hr
          subst he
          exact hK (.bool f) W2 hb2 rfl
        · intro b_ V hdf hb hB ha
          refine ⟨fun hg K hK => ?_, fun hg => absurd hg (by decide)⟩
          have e1 : b_.eval (.tmp 20) = .bool true := ha 1 20 rfl rfl
          have e5 : b_.eval (.tmp 24) = .bool f := ha 5 24 rfl rfl
          clear ha hb hdf
          simp only [Act.eval, Array.getD_eq_getD_getElem?] at e1 e5
          go_simp
          refine hK _ _ (Below.refl _ V) ?_
          show Value.bool _ = Value.bool f
          first | rfl | simp
        · intro b_ V hdf hsz hb hB ha
          have HBV := Aside0.mk (HBW.out.trans (hB.mono HBW.out.size))
          have hsz' : b_.tmps.size = 31 := hsz.trans rfl
          have hdf' : b_.defers = [] := hdf.trans rfl
          obtain ⟨f_, hf_, hlit_⟩ := act_lit b_ 31 hsz' hdf'
          have ef25 : f_ 25 = .bool f := (hf_ 25).trans (ha 6 25 rfl)
          have ef3 : f_ 3 = .string O := (hf_ 3).trans ((hb 3 (by decide)).trans rfl)
          have ef4 : f_ 4 = .pointer (some ⟨h, 0, none⟩) := (hf_ 4).trans ((hb 4 (by decide)).trans rfl)
          have ef5 : f_ 5 = .bool true := (hf_ 5).trans ((hb 5 (by decide)).trans rfl)
          have ef7 : f_ 7 = .string (ch d) := (hf_ 7).trans ((hb 7 (by decide)).trans rfl)
          have ef0 : f_ 0 = .string s := (hf_ 0).trans ((hb 0 (by decide)).trans rfl)
          have ef1 : f_ 1 = undef := (hf_ 1).trans ((hb 1 (by decide)).trans rfl)
          have ef2 : f_ 2 = .string ⟨#[]⟩ := (hf_ 2).trans ((hb 2 (by decide)).trans rfl)
          have ef6 : f_ 6 = undef := (hf_ 6).trans ((hb 6 (by decide)).trans rfl)
          have ef8 : f_ 8 = .tuple #[.agg #[.int .u8 a, .int .u8 c, .slice A m k], .bool true] := (hf_ 8).trans ((hb 8 (by decide)).trans rfl)
          have ef9 : f_ 9 = .string s := (hf_ 9).trans ((hb 9 (by decide)).trans rfl)
          have ef10 : f_ 10 = .tuple #[.agg #[.int .u8 a, .int .u8 c, .slice A m k], .bool true] := (hf_ 10).trans ((hb 10 (by decide)).trans rfl)
          have ef11 : f_ 11 = .agg #[.int .u8 a, .int .u8 c, .slice A m k] := (hf_ 11).trans ((hb 11 (by decide)).trans rfl)
          have ef12 : f_ 12 = .bool true := (hf_ 12).trans ((hb 12 (by decide)).trans rfl)
          have ef13 : f_ 13 = .slice (some ⟨B, 0, none⟩) 7 7 := (hf_ 13).trans ((hb 13 (by decide)).trans rfl)
          have ef14 : f_ 14 = .int .i64 7 := (hf_ 14).trans ((hb 14 (by decide)).trans rfl)
          have ef15 : f_ 15 = .int .i64 (i : Int) := (hf_ 15).trans ((hb 15 (by decide)).trans rfl)
          have ef30 : f_ 30 = undef := (hf_ 30).trans ((hb 30 (by decide)).trans rfl)
          simp only [show List.range 31 = [0, 1, 2, 3, 4, 5, 6, 7, 8, 9, 10, 11, 12, 13, 14, 15, 16, 17, 18, 19, 20, 21, 22, 23, 24, 25, 26, 27, 28, 29, 30] from rfl, List.map_cons, List.map_nil, ef25, ef3, ef4, ef5, ef7, ef0, ef1, ef2, ef6, ef8, ef9, ef10, ef11, ef12, ef13, ef14, ef15, ef30] at hlit_
          clear ha hb hf_ hsz hdf hsz' hdf' ef25 ef3 ef4 ef5 ef7 ef0 ef1 ef2 ef6 ef8 ef9 ef10 ef11 ef12 ef13 ef14 ef15 ef30
          subst hlit_
          clear hB x0_
          cases hf : f with
          | false =>
            have HFF := Aside0.mk hf
            go_wp2
            go_roundg (gk - 1)
            case measure => have := HI.out; have := HH.out; omega
            case rel =>
              refine ⟨i + 1, ?_, ?_, ⟨by have := HI.out; have := HH.out; omega⟩, HBV⟩
              · rw [fv_step _ i HH.out, ← HD.out, ← HF.out, HFF.out, HO.out]; simp
              · first | (rw [HW.out]; done) | rfl | (show Value.int .i64 _ = _; congr 1)
          | true =>
            have HFF := Aside0.mk hf
            have hsz : (9223372036854775807 < O.size + 1) = False := eq_false (by have := HOZ.out; omega)
            have hsz2 : (9223372036854775807 < O.size + (ch d).size) = False := eq_false (by have := HOZ.out; show ¬ 9223372036854775807 < O.size + 1; omega)
            go_wp2
            go_roundg (gk - 1)
            case measure => have := HI.out; have := HH.out; omega
            case rel =>
              refine ⟨i + 1, ?_, ?_, ⟨by have := HI.out; have := HH.out; omega⟩, HBV⟩
              · rw [fv_step _ i HH.out, ← HD.out, ← HF.out, HFF.out, HO.out]; first | rfl | (simp; done) | (congr 1; apply ByteArray.ext; simp)
              · first | (rw [HW.out]; done) | rfl | (show Value.int .i64 _ = _; congr 1)
      · have h1 : (7 : Int) ≤ (i : Int) := by omega
        have HE := Aside0.mk (show i = 7 from by have := HI.out; omega)
        clear hi
        go_wp2
        go_ret
        refine ⟨?_, HB.out.trans ((HBU.out.trans (HBW.out.mono HBU.out.size)).mono HB.out.size)⟩
        rw [HT.out, HO.out]
        first | rfl | (rw [HE.out]; rfl)
end Go.Proofs.YtpklhagedifglaaW.PrintMore
