/-
  Cut to what this claim uses.
-/
import Derived.BigRegion
import Derived.Deep.RegionHeld3
import Derived.Maps.Own
import Derived.Maps.Views
import Derived.Shelf.SlMaps.Clone
import Derived.Test.YtpklhagedifglaaQInv
import Derived.Test.YtpklhagedifglaaQTermQ
import Derived.Test.YtpklhagedifglaaQTermT
namespace Go.Proofs.YtpklhagedifglaaW.PrintMore
set_option linter.unusedVariables false
set_option linter.unusedSimpArgs false
open Go.Proofs Go.Deep
open Go.RowKit Go.Proofs.YtpklhagedifglaaW.PrintWords
theorem region_phi2 {P : Program} {Q : Exit → Act → World → Prop} {ops : Array Oper} {id : Nat} {a : Act} {w : World} (φ : Nat → Value → World → Prop) (base : List Nat)
    (hm : P.follows .mixedOrders = true) (hf : fwd ops = true) (hd : dstOk ops base a.tmps.size = true)
    (hst : ∀ i v V V', Below V.heap.size V V' → φ i v V → φ i v V')
    (hs : PhiSteps P Q ops φ base a w 0 ops.toList)
    (he : ∀ (b : Act) (V : World), b.defers = a.defers → b.tmps.size = a.tmps.size → (∀ t, t ∈ base → b.eval (.tmp t) = a.eval (.tmp t)) → Below w.heap.size w V →
      (∀ j d, ops[j]?.bind (fun o : Oper => o.dst) = some d → φ j (b.eval (.tmp d)) V) → Q .normal b V) : (Code.region id ops true).wp P Q a w := by
  unfold dstOk at hd
  simp only [Bool.and_eq_true, List.all_eq_true, decide_eq_true_eq] at hd
  obtain ⟨⟨hd1, hd2⟩, hd3⟩ := hd
  have hdst : ∀ (i : Nat) (o : Oper), ops[i]? = some o → ∃ d, o.dst = some d ∧ d < a.tmps.size ∧ d ∉ base := by
    intro i o ho
    have hm := hd1 o.dst (List.mem_map.2 ⟨o, by
      rw [Array.mem_toList_iff]
      exact Array.mem_of_getElem? ho, rfl⟩)
    cases h : o.dst with
    | none => rw [h] at hm; cases hm
    | some d =>
      rw [h] at hm
      simp at hm
      exact ⟨d, rfl, hm.1, hm.2⟩
  have hne : ∀ (i : Nat) (o : Oper) (d : Nat), ops[i]? = some o → o.dst = some d → ∀ (j : Nat) (o' : Oper) (d' : Nat), ops[j]? = some o' → o'.dst = some d' → j ≠ i → d' ≠ d := by
    intro i o d ho hod j o' d' ho' hod' hji e
    apply hji
    have hi : (ops.toList.map (fun o : Oper => o.dst))[i]? = some (some d) := by simp [ho, hod]
    have hj : (ops.toList.map (fun o : Oper => o.dst))[j]? = some (some d) := by simp [ho', hod', e]
    exact (List.getElem?_inj (by
      have := (List.getElem?_eq_some_iff.1 hj).1
      exact this) hd2).1 (hj.trans hi.symm)
  refine region_inv hm hf (fun L b V => b.defers = a.defers ∧ b.tmps.size = a.tmps.size ∧ (∀ t, t ∈ base → b.eval (.tmp t) = a.eval (.tmp t)) ∧ Below w.heap.size w V ∧
    ∀ j d, L j = true → ops[j]?.bind (fun o : Oper => o.dst) = some d → φ j (b.eval (.tmp d)) V) ?_ ?_ ?_
  · exact ⟨rfl, rfl, fun _ _ => rfl, below_drew1 (Below.refl _ w), fun _ _ h => by cases h⟩
  · intro i o ho L L' b V haf hLi hL' ⟨h1, h2, h3, h4, h5⟩ K hK
    have hg : o.guard = none := by
      have := hd3 o (by rw [Array.mem_toList_iff]; exact Array.mem_of_getElem? ho)
      simpa using this
    rw [if_pos (by simp [Region.wanted, hg])]
    have hst0 : PhiStep P Q ops φ base a w i o := by
      have := phiSteps_get ops.toList 0 hs i o (by simpa using ho)
      simpa using this
    obtain ⟨d, hod, hdl, hdb⟩ := hdst i o ho
    refine hst0 b V h1 h3 h4 ?_ K ?_
    · intro j dj hw hj
      refine h5 j dj ?_ hj
      unfold waits at hw
      rw [List.any_eq_true] at hw
      obtain ⟨e, he, hb⟩ := hw
      simp only [Bool.and_eq_true, beq_iff_eq] at hb
      rw [← hb.1]
      exact haf e (by simpa using he) hb.2
    · intro v V' hV hv
      refine hK _ _ ⟨by rw [put_defers]; exact h1, by rw [put_size]; exact h2, ?_, h4.trans (hV.mono h4.size), ?_⟩
      · intro t ht
        rw [hod]
        show ev _ t = _
        rw [ev_put _ _ _ _ (h2 ▸ hdl), if_neg (by rintro rfl; exact hdb ht)]
        exact h3 t ht
      · intro j dj hLj hj
        rw [hod]
        show φ j (ev _ dj) V'
        rw [ev_put _ _ _ _ (h2 ▸ hdl)]
        rw [hL' j] at hLj
        by_cases hji : j = i
        · subst hji
          rw [ho] at hj
          simp only [Option.bind_some, hod, Option.some.injEq] at hj
          rw [if_pos hj.symm]
          exact hv
        · rw [if_neg hji] at hLj
          have hj2 := hj
          cases hoj : ops[j]? with
          | none => rw [hoj] at hj2; cases hj2
          | some oj =>
            rw [hoj] at hj2
            rw [if_neg (hne i o d ho hod j oj dj hoj hj2 hji)]
            exact hst j _ V V' hV (h5 j dj hLj hj)
  · intro L b V hall ⟨h1, h2, h3, h4, h5⟩
    refine he b V h1 h2 h3 h4 fun j d hj => h5 j d (hall j ?_) hj
    cases hoj : ops[j]? with
    | none => rw [hoj] at hj; cases hj
    | some oj => exact (Array.getElem?_eq_some_iff.1 hoj).1
theorem act_lit (b : Act) (n : Nat) (h : b.tmps.size = n) (hd : b.defers = []) : ∃ f : Nat → Value, (∀ t, f t = b.eval (.tmp t)) ∧ b = { tmps := ((List.range n).map f).toArray, defers := [] } := by
  refine ⟨fun t => b.eval (.tmp t), fun _ => rfl, ?_⟩
  obtain ⟨tm, df⟩ := b
  simp only at h hd
  subst hd
  congr 1
  apply Array.ext_getElem?
  intro i
  simp only [List.getElem?_toArray, List.getElem?_map]
  by_cases hi : i < n
  · rw [List.getElem?_range hi]
    simp only [Option.map_some, Act.eval, Array.getD_eq_getD_getElem?]
    rw [Array.getElem?_eq_getElem (by omega)]
    rfl
  · rw [Array.getElem?_eq_none (by omega), List.getElem?_eq_none (by rw [List.length_range]; omega)]
    rfl
end Go.Proofs.YtpklhagedifglaaW.PrintMore
namespace Go.Proofs.YtpklhagedifglaaW.PrintMore
set_option linter.unusedVariables false
set_option linter.unusedSimpArgs false
open Go.Proofs Go.Deep
open Go.RowKit Go.Proofs.YtpklhagedifglaaW.PrintWords
end Go.Proofs.YtpklhagedifglaaW.PrintMore
namespace Go.Proofs.YtpklhagedifglaaW.PrintMore
set_option linter.unusedVariables false
set_option linter.unusedSimpArgs false
open Go.Proofs Go.Deep
open Go.RowKit Go.Proofs.YtpklhagedifglaaW.PrintWords
/-- A term with the signs that the readers take. -/
def Tm.ok : Tm → Prop
  | .leaf c => (isVar c || isDig c) = true
  | .un c x => isUn c = true ∧ x.ok
  | .bin c x y => isBin c = true ∧ x.ok ∧ y.ok
  | .loop c u x y => (c = 91 ∨ c = 123) ∧ isBound u = true ∧ x.ok ∧ y.ok
theorem parse_ok : ∀ (n : Nat) (l : List UInt8) (t : Tm) (r : List UInt8), parse n l = some (t, r) → t.ok := by
  intro n
  induction n with
  | zero => intro l t r h; cases h
  | succ n ih =>
    intro l t r h
    cases l with
    | nil => cases h
    | cons c l =>
      unfold parse at h
      split at h
      · rename_i hc; cases h; exact hc
      split at h
      · rename_i hc
        obtain ⟨⟨x, r1⟩, h1, h2⟩ := Option.bind_eq_some_iff.1 h
        cases h2; exact ⟨hc, ih _ _ _ h1⟩
      split at h
      · obtain ⟨⟨x, r1⟩, h1, h2⟩ := Option.bind_eq_some_iff.1 h
        cases r1 with
        | nil => cases h2
        | cons g r1 =>
          simp only at h2
          split at h2
          · rename_i hg
            obtain ⟨⟨y, r2⟩, h3, h4⟩ := Option.bind_eq_some_iff.1 h2
            cases r2 with
            | nil => cases h4
            | cons d r2 =>
              simp only at h4
              split at h4
              · cases h4; exact ⟨hg, ih _ _ _ h1, ih _ _ _ h3⟩
              · cases h4
          · cases h2
      split at h
      · rename_i hc
        split at h
        · split at h
          · rename_i hb
            obtain ⟨⟨x, r1⟩, h1, h2⟩ := Option.bind_eq_some_iff.1 h
            cases r1 with
            | nil => cases h2
            | cons g r1 =>
              simp only at h2
              split at h2
              · obtain ⟨⟨y, r2⟩, h3, h4⟩ := Option.bind_eq_some_iff.1 h2
                cases r2 with
                | nil => cases h4
                | cons d r2 =>
                  simp only at h4
                  split at h4
                  · cases h4
                    exact ⟨hc, hb.1, ih _ _ _ h1, ih _ _ _ h3⟩
                  · cases h4
              · cases h2
          · cases h
        · cases h
      · cases h
theorem tmOf_ok {l : List UInt8} {t : Tm} (h : tmOf l = some t) : t.ok := by
  unfold tmOf at h
  split at h
  · split at h
    · rename_i h2; cases h; exact parse_ok _ _ _ _ h2
    · cases h
  · cases h
theorem bound_nz {u : UInt8} (h : isBound u = true) : ¬ (u.toNat : Int) = 0 := by
  simp only [isBound, Bool.and_eq_true, decide_eq_true_eq, UInt8.le_iff_toNat_le] at h
  have := h.1; simp at this; omega
theorem Tm.ok.wf : ∀ {t : Tm}, t.ok → t.wf
  | .leaf _, _ => trivial
  | .un _ x, h => (h.2.wf : x.wf)
  | .bin _ x y, h => (⟨h.2.1.wf, h.2.2.wf⟩ : x.wf ∧ y.wf)
  | .loop c u x y, h => ⟨h.1, bound_nz h.2.1, h.2.2.1.wf, h.2.2.2.wf⟩
theorem isUn_cases {c : UInt8} (h : isUn c = true) : c = 83 ∨ c = 77 ∨ c = 73 ∨ c = 78 ∨ c = 82 ∨ c = 67 ∨ c = 80 := by
  simpa [isUn, mem1] using h
theorem isBin_cases {c : UInt8} (h : isBin c = true) : c = 43 ∨ c = 42 ∨ c = 94 ∨ c = 45 ∨ c = 61 ∨ c = 60 ∨ c = 64 := by
  simpa [isBin, mem1] using h
/-- The depth of what a sign gives of one depth. -/
def sd1 (c : UInt8) (x : Int) : Int :=
  if c = 83 ∨ c = 77 then (if x = 1 then 0 else -1)
  else if c = 73 then (if x = 0 then 1 else -1)
  else if c = 78 then (if 1 ≤ x then 0 else -1)
  else if c = 82 then (if 1 ≤ x then x else -1)
  else if c = 67 then (if 2 ≤ x then wrap64 (x - 1) else -1)
  else if c = 80 then (if x = 1 then 1 else -1) else -1
/-- The depth of what a sign gives of two depths. -/
def sd2 (c : UInt8) (x y : Int) : Int :=
  if c = 64 then (if x = 1 ∧ y = 0 then 0 else -1) else (if x = 0 ∧ y = 0 then 0 else -1)
/-- The depth of what a loop gives. -/
def sdl (c : UInt8) (s t : Int) : Int := if s < 1 then -1 else if c = 91 ∧ 0 ≤ t ∧ t ≤ 2 then wrap64 (t + 1) else if c = 123 ∧ t = 0 then s else -1
abbrev Dp := UInt8 → Int
def updD (F : Dp) (u : UInt8) (x : Int) : Dp := fun c => if c = u then x else F c
/-- The depth of what a term gives, if variables have some depths. -/
def Tm.dp : Tm → Dp → Int
  | .leaf c, F => if isDig c = true then 0 else F c
  | .un c x, F => sd1 c (x.dp F)
  | .bin c x y, F => sd2 c (x.dp F) (y.dp F)
  | .loop c u x y, F => sdl c (x.dp F) (y.dp (updD F u (wrap64 (x.dp F - 1))))
/-- How often a variable stands in a term where it is not bound. -/
def Tm.fc : Tm → UInt8 → Nat
  | .leaf c, d => if isDig c = false ∧ d = c then 1 else 0
  | .un _ x, d => x.fc d
  | .bin _ x y, d => x.fc d + y.fc d
  | .loop _ u x y, d => x.fc d + if d = u then 0 else y.fc d
theorem fc_le : ∀ (t : Tm) (d : UInt8), t.fc d ≤ t.tx.size := by
  intro t
  induction t with
  | leaf c => intro d; show (if _ then 1 else 0) ≤ (1 : Nat); split <;> omega
  | un c x ih => intro d; have := ih d; simp only [Tm.fc, Tm.tx, ByteArray.size_append]; omega
  | bin c x y ih1 ih2 => intro d; have := ih1 d; have := ih2 d; simp only [Tm.fc, Tm.tx, ByteArray.size_append]; omega
  | loop c u x y ih1 ih2 =>
    intro d; have := ih1 d; have := ih2 d
    simp only [Tm.fc, Tm.tx, ByteArray.size_append]
    split <;> omega
/-- Only variables are free. -/
theorem fc_var : ∀ (t : Tm) (d : UInt8), t.ok → 0 < t.fc d → isVar d = true := by
  intro t
  induction t with
  | leaf c =>
    intro d h h0
    simp only [Tm.fc] at h0
    split at h0
    · rename_i hd
      obtain ⟨h1, rfl⟩ := hd
      have h2 : (isVar d || isDig d) = true := h
      rw [h1, Bool.or_false] at h2
      exact h2
    · omega
  | un c x ih => intro d h h0; exact ih d h.2 h0
  | bin c x y ih1 ih2 =>
    intro d h h0
    simp only [Tm.fc] at h0
    by_cases hx : 0 < x.fc d
    · exact ih1 d h.2.1 hx
    · exact ih2 d h.2.2 (by omega)
  | loop c u x y ih1 ih2 =>
    intro d h h0
    simp only [Tm.fc] at h0
    by_cases hx : 0 < x.fc d
    · exact ih1 d h.2.2.1 hx
    · split at h0
      · omega
      · exact ih2 d h.2.2.2 (by omega)
end Go.Proofs.YtpklhagedifglaaW.PrintMore
namespace Go.Proofs.YtpklhagedifglaaW.PrintMore
set_option linter.unusedVariables false
set_option linter.unusedSimpArgs false
open Go.Proofs Go.Deep Go.Maps
open Go.RowKit Go.Proofs.YtpklhagedifglaaW.PrintWords Go.Proofs.YtpklhagedifglaaW.PrintLast Go.Proofs.YtpklhagedifglaaW.PrintMore
/-- What variables stand for. -/
abbrev Env := UInt8 → Option Int
def upd (E : Env) (u : UInt8) (x : Int) : Env := fun c => if c = u then some x else E c
def EnvAt (W : World) (b n : Nat) (E : Env) : Prop := ∃ D : DataW Unit, W.ownsMap Try.prog 9 (plainElem Try.prog 3) b n D ∧ ∀ (c : UInt8) (zd : DataW Unit), D.atKey (.string [c]) zd = match E c with | none => zd | some x => .lit (.int .i64 x)
theorem env_keyed : Keyed Try.prog 9 := string_keyed Try.underlying9
theorem env_key (c : UInt8) : keyOf Try.prog 9 (.string (ch c)) = some (.string [c]) := by
  have := WideMaps.keyOf_string_mk (P := Try.prog) Try.underlying9 (s := ch c) (by show (1 : Nat) ≤ _; unfold maxLen; omega)
  exact this
theorem env_zero (W : World) : (zeroValue 3).run Try.prog W = .ok (.int .i64 0) W := Try.zeroValue3 W
theorem env_kept {W W' : World} {b n : Nat} {E : Env} (h : EnvAt W b n E) (hb : Below W.heap.size W W') : EnvAt W' b n E := by
  obtain ⟨D, ho, hD⟩ := h
  have hlt := ho.lt
  obtain ⟨es, clock, hh, F, hs, hDD⟩ := ho
  exact ⟨D, ⟨es, clock, (hb.block b hlt).trans hh, F, hs, hDD⟩, hD⟩
theorem env_look {W : World} {b n : Nat} {E : Env} (h : EnvAt W b n E) (c : UInt8) :
    (Instr.lookup 41 (.map (some b)) (.string (ch c)) true).run Try.prog W = .ok (match E c with | none => .tuple #[.int .i64 0, .bool false] | some x => .tuple #[.int .i64 x, .bool true]) W := by
  obtain ⟨D, ho, hD⟩ := h
  obtain ⟨es, clock, hh, F, hs, rfl⟩ := ho
  have hc := hD c
  rcases Maps.fit_look true env_keyed Try.underlying41 (env_zero W) hh F (env_key c) with ⟨hrun, _, hat⟩ | ⟨e0, y, _, _, hrun, hRv, hat, _⟩
  · cases hE : E c with
    | none => simpa using hrun
    | some x =>
      have h1 := hc (.map [])
      rw [hat, hE] at h1
      cases h1
  · obtain ⟨a, h1, h2, _⟩ := plainElem_int_inv (P := Try.prog) Try.underlying3 hRv
    cases hE : E c with
    | none =>
      have h3 := hc (.map [])
      rw [hat, hE, h2] at h3
      cases h3
    | some x =>
      have h3 := hc (.map [])
      rw [hat, hE, h2] at h3
      simp only [DataW.lit.injEq, Lit.int.injEq, true_and] at h3
      subst h3
      rw [h1] at hrun
      simpa using hrun
theorem lit_wrap (x : Int) : (Lit.int .i64 (wrap64 x)).wf = true := by
  have h1 : IntKind.i64.min = -9223372036854775808 := by decide
  have h2 : IntKind.i64.max = 9223372036854775807 := by decide
  simp only [Lit.wf, h1, h2, Bool.and_eq_true, decide_eq_true_eq]
  unfold wrap64
  omega
theorem env_store {W : World} {b n : Nat} {E : Env} (h : EnvAt W b n E) (hn : n < 100000) (u : UInt8) (x : Int) (hx : (Lit.int .i64 x).wf = true) :
    ∃ W', (Instr.mapUpdate 41 (.map (some b)) (.string (ch u)) (.int .i64 x)).run Try.prog W = .ok () W' ∧ EnvAt W' b (n + 1) (upd E u x) ∧ W.grownBy W' (some b) := by
  obtain ⟨D, ho, hD⟩ := h
  obtain ⟨W', hrun, ho', hg⟩ := ho.update env_keyed Try.underlying41 (by unfold maxLen; omega) (env_key u) (plainElem_int (P := Try.prog) Try.underlying3 hx)
  have hm : IsMap D := by obtain ⟨es, clock, hh, F, hs, rfl⟩ := ho; exact ⟨_, rfl⟩
  refine ⟨W', hrun, ⟨_, ho', fun c zd => ?_⟩, hg⟩
  unfold upd
  by_cases hc : c = u
  · subst hc
    rw [if_pos rfl, atKey_put_same hm (env_keyed.key (env_key c))]
  · rw [if_neg hc, atKey_put_other (fun e => hc (by simpa using e)), hD c zd]
def tm_clone_ren : Go.Shelf.Ren := ⟨fun | 5 => 61 | 7 => 74 | n => n, fun | 23 => 41 | 25 => 9 | 3 => 3 | 4 => 4 | 20 => 20 | n => n, fun | n => n⟩
theorem tm_clone : Go.Proofs.SlLaysW.n5 Try.prog tm_clone_ren := {
  mixed := by kernel_rfl
  f5 := ⟨Try.f61.name, by decide, Try.func61.trans (congrArg some (by kernel_rfl))⟩
  f7 := Try.func74.trans (congrArg some (by kernel_rfl))
  t4 := Try.underlying4
  a4 := Try.isAgg4
  z4 := Try.sizeOf4
  v4 := Try.zeroValue4
  t20 := Try.underlying20
  a20 := Try.isAgg20
  z20 := Try.sizeOf20
  v20 := Try.zeroValue20
  t23 := Try.underlying41
  a23 := Try.isAgg41
  z23 := Try.sizeOf41
  v23 := Try.zeroValue41 }
theorem clone_env {W : World} {b n : Nat} {E : Env} (h : EnvAt W b n E) : Calls Try.prog 61 #[.map (some b)] W fun e w' => e = .returned (.map (some W.heap.size)) ∧ EnvAt w' W.heap.size n E ∧ Below W.heap.size W w' := by
  obtain ⟨D, ho, hD⟩ := h
  exact (AnyW.maps_Clone_owns tm_clone 9 _ b n D W ho).mono fun e w' ⟨h1, h2, _, h4⟩ => ⟨h1, ⟨D, h2, hD⟩, h4⟩
theorem below_grown {base b : Nat} {w W W' : World} (h : Below base w W) (hg : W.grownBy W' (some b)) (hb : base ≤ b) (hz : base ≤ W.heap.size) : Below base w W' :=
  h.trans ⟨hg.os, hg.tape, hg.output, hg.size, fun k hk => hg.block k (by omega) (by simp; omega)⟩
set_option maxHeartbeats 1000000 in
set_option maxRecDepth 100000 in
theorem with_walk {W : World} {b n : Nat} {E : Env} (h : EnvAt W b n E) (hn : n < 100000) (u : UInt8) (x : Int) (hx : (Lit.int .i64 x).wf = true) :
    Calls Try.prog 43 #[.map (some b), .string (ch u), .int .i64 x] W fun e w' => ∃ b', e = .returned (.map (some b')) ∧ EnvAt w' b' (n + 1) (upd E u x) ∧ Below W.heap.size W w' := by
  go_enter Try.func43, Try.ntmps43
  go_wp2_with fail
  refine (clone_env h).mono ?_
  rintro e w1 ⟨rfl, he, hb⟩
  obtain ⟨w2, hrun, he2, hg⟩ := env_store he hn u x hx
  have HB := Aside0.mk (below_grown hb hg (Nat.le_refl _) hb.size)
  have HE := Aside0.mk he2
  clear he hb he2 hg h
  go_wp2
  go_ret
  exact ⟨_, rfl, HE.out, HB.out⟩
theorem env_empty (W : World) : EnvAt (W.alloc (.map #[] 0)) W.heap.size 0 (fun _ => none) :=
  ⟨_, World.ownsMap_made W _ _ _, fun c zd => rfl⟩
set_option maxHeartbeats 1000000 in
set_option maxRecDepth 100000 in
theorem given_walk (W : World) : Calls Try.prog 22 #[] W fun e w' => ∃ b, e = .returned (.map (some b)) ∧ EnvAt w' b 2 (upd (upd (fun _ => none) 97 1) 98 2) ∧ Below W.heap.size W w' := by
  have h0 : (Instr.makeMap 41 none).run Try.prog W = .ok (.map (some W.heap.size)) (W.alloc (.map #[] 0)) := rfl
  obtain ⟨w1, hr1, he1, hg1⟩ := env_store (env_empty W) (by omega) 97 1 (by decide)
  obtain ⟨w2, hr2, he2, hg2⟩ := env_store he1 (by omega) 98 2 (by decide)
  have hB0 : Below W.heap.size W (W.alloc (.map #[] 0)) := (Below.refl _ W).alloc (Nat.le_refl _) _
  have hB1 := below_grown hB0 hg1 (Nat.le_refl _) hB0.size
  have HB := Aside0.mk (below_grown hB1 hg2 (Nat.le_refl _) hB1.size)
  have HE := Aside0.mk he2
  clear he1 hg1 he2 hg2 hB0 hB1
  go_enter Try.func22, Try.ntmps22
  go_wp2
  go_ret
  exact ⟨_, rfl, HE.out, HB.out⟩
set_option maxHeartbeats 1000000 in
theorem digit_walk (w : World) (p : Nat) (c : UInt8) (h0 : w.cell? ⟨p, 0, none⟩ = some (.string (ch c))) : Calls Try.prog 44 #[.pointer (some ⟨p, 0, none⟩)] w fun e w' => e = .returned (.bool (isDig c)) ∧ w' = w := by
  go_enter Try.func44, Try.ntmps44
  go_wp2
  · rename_i h
    go_ret
    refine ⟨?_, rfl⟩
    rw [bl48] at h
    have h := of_decide_eq_true h
    have hd : isDig c = false := by
      unfold isDig
      rw [Bool.and_eq_false_iff]
      exact .inl (decide_eq_false (UInt8.not_le.2 h))
    show Ending.returned (.bool false) = .returned (.bool (isDig c))
    rw [hd]
  · rename_i h
    go_ret
    refine ⟨?_, rfl⟩
    rw [bl48] at h
    have h : ¬ c < 48 := fun hc => h (decide_eq_true hc)
    show Ending.returned (.bool (Op.bytesLess [c] [57] || c == 57)) = .returned (.bool (isDig c))
    rw [bl57]
    unfold isDig
    rw [decide_eq_true (UInt8.not_lt.1 h), Bool.true_and]
theorem int_info : (Try.prog.info? 3).map (fun i => (i.zero, i.size, i.bytes)) = some (some (.int .i64 0), 1, 8) := by kernel_rfl
theorem own_emptyI (w : World) (base : Nat) (h : base ≤ w.heap.size) : Kd.R (Kd.int .i64) 3 (w.alloc (.cells #[] 3)) base (fun _ => True) (.slice (some ⟨w.heap.size, 0, none⟩) 0 0) [] := by
  refine Kd.R_of_own (enc := Value.int .i64) (h1 := fun _ => rfl) ⟨by simp [encs], .inr ⟨w.heap.size, 0, #[], rfl, h, blk_new w _, Nat.le_refl _, by unfold maxLen; omega, rfl, rfl⟩⟩ (fun _ _ => trivial)
set_option maxHeartbeats 1000000 in
theorem signDepth1 (c : UInt8) (x : Int) (hc : isUn c = true) (a k : Nat) (w : World) (h : w.cell? ⟨a, 0, none⟩ = some (.int .i64 x)) : Calls Try.prog 45 #[.string (ch c), .slice (some ⟨a, 0, none⟩) 1 k] w fun e w' => e = .returned (.int .i64 (sd1 c x)) ∧ w' = w := by
  rcases isUn_cases hc with rfl | rfl | rfl | rfl | rfl | rfl | rfl
  all_goals
    clear hc
    go_enter Try.func45, Try.ntmps45
    go_wp2
    all_goals
      go_ret
      refine ⟨?_, rfl⟩
      first | (simp_all [sd1]; done) | (simp_all [sd1]; omega) | skip
set_option maxHeartbeats 1000000 in
theorem signDepth2 (c : UInt8) (x y : Int) (hc : isBin c = true) (a k : Nat) (w : World) (h : w.cell? ⟨a, 0, none⟩ = some (.int .i64 x)) (h' : w.cell? ⟨a, 1, none⟩ = some (.int .i64 y)) : Calls Try.prog 45 #[.string (ch c), .slice (some ⟨a, 0, none⟩) 2 k] w fun e w' => e = .returned (.int .i64 (sd2 c x y)) ∧ w' = w := by
  rcases isBin_cases hc with rfl | rfl | rfl | rfl | rfl | rfl | rfl
  all_goals
    clear hc
    go_enter Try.func45, Try.ntmps45
    go_wp2_with (go_at_call 56; refine (tm_containsM _ _ _).mono ?_; rintro e w' ⟨rfl, rfl⟩)
    all_goals
      go_ret
      refine ⟨?_, rfl⟩
      first | (simp_all [sd2]; done) | (simp_all [sd2]; omega) | skip
set_option maxHeartbeats 4000000 in
set_option maxRecDepth 100000 in
theorem depth_leaf (w : World) (p b n : Nat) (E : Env) (c : UInt8) (h0 : w.cell? ⟨p, 0, none⟩ = some (.string (ch c))) (h1 : w.cell? ⟨p, 1, none⟩ = some (.string ⟨#[]⟩)) (h2 : w.cell? ⟨p, 2, none⟩ = some (.slice none 0 0)) (he : EnvAt w b n E) :
    Calls Try.prog 21 #[.pointer (some ⟨p, 0, none⟩), .map (some b)] w fun e w' => e = .returned (.int .i64 (if isDig c = true then 0 else (E c).getD (-1))) ∧ Below w.heap.size w w' := by
  have HE := Aside0.mk he
  have lk := env_look he c
  clear he
  cases hd : isDig c with
  | true =>
    have HD := Aside0.mk hd
    clear hd
    go_enter Try.func21, Try.ntmps21
    go_wp2_with (first | (go_at_call 42; refine (loop_no _ _ h1).mono ?_; rintro e wz ⟨rfl, hw⟩; rw [hw]; clear hw wz) | (go_at_call 44; refine (digit_walk _ _ _ h0).mono ?_; rintro e wz ⟨rfl, hw⟩; rw [hw, HD.out]; clear hw wz))
    go_ret
    exact ⟨rfl, Below.refl _ _⟩
  | false =>
    have HD := Aside0.mk hd
    clear hd
    cases hE : E c with
    | none =>
      rw [hE] at lk
      simp only at lk
      have HEE := Aside0.mk hE
      clear hE
      go_enter Try.func21, Try.ntmps21
      go_wp2_with (first | (go_at_call 42; refine (loop_no _ _ h1).mono ?_; rintro e wz ⟨rfl, hw⟩; rw [hw]; clear hw wz) | (go_at_call 44; refine (digit_walk _ _ _ h0).mono ?_; rintro e wz ⟨rfl, hw⟩; rw [hw, HD.out]; clear hw wz))
      go_ret
      exact ⟨rfl, Below.refl _ _⟩
    | some x =>
      rw [hE] at lk
      simp only at lk
      have HEE := Aside0.mk hE
      clear hE
      go_enter Try.func21, Try.ntmps21
      go_wp2_with (first | (go_at_call 42; refine (loop_no _ _ h1).mono ?_; rintro e wz ⟨rfl, hw⟩; rw [hw]; clear hw wz) | (go_at_call 44; refine (digit_walk _ _ _ h0).mono ?_; rintro e wz ⟨rfl, hw⟩; rw [hw, HD.out]; clear hw wz))
      go_ret
      exact ⟨rfl, Below.refl _ _⟩
set_option maxHeartbeats 8000000 in
set_option maxRecDepth 100000 in
theorem depth_node (w : World) (p a k b m : Nat) (c : UInt8) (xs : List Int) (R : Int) (hm : 1 ≤ xs.length ∧ xs.length ≤ 2) (h0 : w.cell? ⟨p, 0, none⟩ = some (.string (ch c))) (h1 : w.cell? ⟨p, 1, none⟩ = some (.string ⟨#[]⟩)) (h2 : w.cell? ⟨p, 2, none⟩ = some (.slice (some ⟨a, 0, none⟩) xs.length k))
    (hk : ∀ j, j < xs.length → ∃ q, w.cell? ⟨a, j, none⟩ = some (.pointer (some ⟨q, 0, none⟩)) ∧ ∀ W, Below w.heap.size w W → Calls Try.prog 21 #[.pointer (some ⟨q, 0, none⟩), .map (some b)] W fun e w' => e = .returned (.int .i64 (xs.getD j 0)) ∧ Below W.heap.size W w')
    (hsd : ∀ (W : World) (g k' : Nat), (∀ j, j < xs.length → W.cell? ⟨g, j, none⟩ = some (.int .i64 (xs.getD j 0))) → Calls Try.prog 45 #[.string (ch c), .slice (some ⟨g, 0, none⟩) xs.length k'] W fun e w' => e = .returned (.int .i64 R) ∧ w' = W) :
    Calls Try.prog 21 #[.pointer (some ⟨p, 0, none⟩), .map (some b)] w fun e w' => e = .returned (.int .i64 R) ∧ Below w.heap.size w w' := by
  obtain ⟨n, hn⟩ : ∃ n, n = xs.length := ⟨_, rfl⟩
  rw [← hn] at hm h2 hk
  have HK := Aside0.mk hk
  have HS := Aside0.mk hsd
  have HM := Aside0.mk hm
  have HN := Aside0.mk hn
  have H0 := Aside0.mk h0
  have HO0 := Aside0.mk (own_emptyI w w.heap.size (Nat.le_refl _))
  have HB0 := Aside0.mk (show Below w.heap.size w (w.alloc (.cells #[] 3)) from (Below.refl _ w).alloc (Nat.le_refl _) _)
  have k2 := cell_keep HB0.out _ _ h2
  have n0 : ((n : Int) == 0) = false := by simp; omega
  clear hk hsd hm hn
  go_enter Try.func21, Try.ntmps21
  go_wp2_with (first | (go_at_call 42; refine (loop_no _ _ h1).mono ?_; rintro e wz ⟨rfl, hw⟩; rw [hw]; clear hw wz))
  clear n0 h2 h1 h0
  go_loopg [9, 92] n (fun kq v9 v92 w' => ∃ i : Nat, v92 = .int .i64 (i : Int) ∧ Aside0 (kq + i = n) ∧ Aside0 (Kd.R (Kd.int .i64) 3 w' w.heap.size (fun _ => True) v9 (xs.take i)) ∧ Aside0 (Below w.heap.size w w'))
  case atStart => exact ⟨0, rfl, ⟨by omega⟩, HO0, HB0⟩
  case round =>
    obtain ⟨i, rfl, HI, HO, HB⟩ := hrel
    by_cases hi : i < n
    · have hlt : (i : Int) < (n : Int) := by omega
      have h0 : (0 : Int) ≤ (i : Int) := by omega
      obtain ⟨q, hc, hcall⟩ := HK.out i hi
      have hc' : wr.cell? ⟨a, i, none⟩ = some (.pointer (some ⟨q, 0, none⟩)) := cell_keep HB.out _ _ hc
      have HC := Aside0.mk hcall
      have HH := Aside0.mk hi
      clear hcall hc hi
      go_wp2_with fail
      refine (HC.out wr HB.out).mono ?_
      rintro e w2 ⟨rfl, hb2⟩
      obtain ⟨P, hP⟩ : ∃ P, P = xs.getD i 0 := ⟨_, rfl⟩
      rw [← hP]
      have HPT := Aside0.mk hP
      have HO2 := Aside0.mk (Kd.R_below HO.out hb2)
      have HB2 := Aside0.mk (HB.out.trans (hb2.mono HB.out.size))
      have HLX := Aside0.mk (show (xs.take i).length ≤ 2 from by have := HM.out; have := HN.out; simp; omega)
      clear hc' hP hb2
      go_wp2_with (first | ((with_reducible refine gate_builtin (b := .append) (xs := #[.tmp 96, .tmp 100]) rfl ?_); at_builtin; refine Kd.R_append (Kd.int .i64) (w0 := w) w.heap.size rfl (.tmp 96) (.tmp 100) 75 3 (.int .i64 0) 8 rfl Try.underlying75 int_info rfl (by decide) (by omega) _ (xs.take i) P [.int .i64 P] (fun _ => True) (fun _ => False) rfl rfl ?aP (fun _ hk => hk.elim) ?aF ?aO ?aB ?aS ?aL ?_; (case aP => exact rfl); (case aF => exact fun _ _ => trivial); (case aO => exact HO2.out); (case aB => exact HB2.out); (case aS => exact HB2.out.size); (case aL => have := HLX.out; omega); intro v4 w21 ho hb4 hg4 hat4; have HO3 := Aside0.mk ho; have HB3 := Aside0.mk hb4; clear ho hb4 hg4 hat4))
      have HW := Aside0.mk (show wrap64 ((i : Int) + 1) = ((i + 1 : Nat) : Int) from by have := HM.out; have := HH.out; rw [wrap64]; omega)
      go_roundg (gk - 1)
      case measure => have := HI.out; have := HH.out; omega
      case rel =>
        refine ⟨i + 1, by rw [HW.out], ⟨by have := HI.out; have := HH.out; omega⟩, ⟨?_⟩, HB3⟩
        have hl : i < xs.length := by have := HH.out; have := HN.out; omega
        have e1 : xs.take (i + 1) = xs.take i ++ [P] := by
          rw [List.take_add_one, HPT.out, List.getD_eq_getElem?_getD, List.getElem?_eq_getElem hl]; rfl
        rw [e1]; exact HO3.out
    · have h1 : (n : Int) ≤ (i : Int) := by omega
      have HE := Aside0.mk (show i = n from by have := HI.out; omega)
      clear hi
      have hO := HO.out
      rw [HE.out, HN.out, List.take_of_length_le (Nat.le_refl _)] at hO
      have g0 := cell_keep HB.out _ _ H0.out
      rcases (Kd.own_of_R hO).2 with ⟨rfl, hz⟩ | ⟨g, cap, cur, rfl, hg, hh, hle, hrest⟩
      · exfalso
        have := HM.out; have := HN.out; omega
      have cells : ∀ j, j < xs.length → wr.cell? ⟨g, j, none⟩ = some (.int .i64 (xs.getD j 0)) := fun j hj => by
        have := (Kd.R_celln (0 : Int) hO (j : Int) (by omega) (by omega)).1
        rw [show ((j : Nat) : Int).toNat = j from by omega] at this
        rw [this]
        unfold rdOf
        rw [show ((j : Nat) : Int).toNat = j from by omega]
      have HCL := Aside0.mk cells
      clear cells hh hle hrest hg hO
      go_wp2_with (go_at_call 45; refine (HS.out _ _ _ HCL.out).mono ?_; rintro e wz ⟨rfl, hw⟩; rw [hw]; clear hw wz)
      go_ret
      exact ⟨rfl, HB.out⟩
def wphi (p a k r b n : Nat) (E : Env) (u : UInt8) (d t : Int) : Nat → Value → World → Prop
  | 0, v, _ => v = .pointer (some ⟨p, 0, none⟩)
  | 1, v, _ => v = .pointer (some ⟨p, 0, none⟩)
  | 2, v, _ => v = .pointer (some ⟨p, 2, none⟩)
  | 3, v, _ => v = .slice (some ⟨a, 0, none⟩) 2 k
  | 4, v, _ => v = .pointer (some ⟨a, 1, none⟩)
  | 5, v, _ => v = .pointer (some ⟨r, 0, none⟩)
  | 6, v, _ => v = .map (some b)
  | 7, v, _ => v = .pointer (some ⟨p, 0, none⟩)
  | 8, v, _ => v = .pointer (some ⟨p, 0, none⟩)
  | 9, v, _ => v = .pointer (some ⟨p, 1, none⟩)
  | 10, v, _ => v = .string (ch u)
  | 11, v, _ => v = .int .i64 d
  | 12, v, _ => v = .int .i64 (wrap64 (d - 1))
  | 13, v, V => ∃ B : Nat, v = .map (some B) ∧ EnvAt V B (n + 1) (upd E u (wrap64 (d - 1)))
  | 14, v, _ => v = .int .i64 t
  | 15, v, _ => v = .int .i64 t
  | _, _, _ => True
set_option maxHeartbeats 16000000 in
set_option maxRecDepth 100000 in
theorem depth_loop (w : World) (p a k q r b n : Nat) (E : Env) (c u : UInt8) (d t : Int) (hc : c = 91 ∨ c = 123) (hn : n < 100000)
    (h0 : w.cell? ⟨p, 0, none⟩ = some (.string (ch c))) (h1 : w.cell? ⟨p, 1, none⟩ = some (.string (ch u))) (h2 : w.cell? ⟨p, 2, none⟩ = some (.slice (some ⟨a, 0, none⟩) 2 k)) (h3 : w.cell? ⟨a, 0, none⟩ = some (.pointer (some ⟨q, 0, none⟩))) (h4 : w.cell? ⟨a, 1, none⟩ = some (.pointer (some ⟨r, 0, none⟩)))
    (he : EnvAt w b n E)
    (ihx : ∀ V, Below w.heap.size w V → Calls Try.prog 21 #[.pointer (some ⟨q, 0, none⟩), .map (some b)] V fun e w' => e = .returned (.int .i64 d) ∧ Below V.heap.size V w')
    (ihy : 1 ≤ d → ∀ V b', Below w.heap.size w V → EnvAt V b' (n + 1) (upd E u (wrap64 (d - 1))) → Calls Try.prog 21 #[.pointer (some ⟨r, 0, none⟩), .map (some b')] V fun e w' => e = .returned (.int .i64 t) ∧ Below V.heap.size V w') :
    Calls Try.prog 21 #[.pointer (some ⟨p, 0, none⟩), .map (some b)] w fun e w' => e = .returned (.int .i64 (sdl c d t)) ∧ Below w.heap.size w w' := by
  have HCC := Aside0.mk hc
  clear hc
  have HE := Aside0.mk he
  have IHX := Aside0.mk ihx
  have IHY := Aside0.mk ihy
  have HN := Aside0.mk hn
  have K0 := Aside0.mk h0
  have K1 := Aside0.mk h1
  have K2 := Aside0.mk h2
  have K3 := Aside0.mk h3
  have K4 := Aside0.mk h4
  clear he ihx ihy hn
  go_enter Try.func21, Try.ntmps21
  go_wp2_with (go_at_call 42; refine (loop_yes _ _ _ K1.out).mono ?_; rintro e wz ⟨rfl, hw⟩; rw [hw]; clear hw wz)
  refine (IHX.out _ (Below.refl _ _)).mono ?_
  rintro e w2 ⟨rfl, hb2⟩
  have HB2 := Aside0.mk hb2
  clear hb2
  clear h0 h1 h2 h3 h4
  by_cases hd : d < 1
  · have HD := Aside0.mk hd
    go_wp2
    go_ret
    exact ⟨by rw [sdl, if_pos HD.out]; rfl, HB2.out⟩
  have HD := Aside0.mk hd
  have h0 := cell_keep HB2.out _ _ K0.out
  have h1 := cell_keep HB2.out _ _ K1.out
  have h2 := cell_keep HB2.out _ _ K2.out
  have h3 := cell_keep HB2.out _ _ K3.out
  have h4 := cell_keep HB2.out _ _ K4.out
  go_wp2
  clear hd
  have hB := HB2.out
  have hlit := lit_wrap (d - 1)
  refine region_phi2 (wphi p a k r b n E u d t) [0, 1, 5] (by kernel_rfl) (by kernel_rfl) (by kernel_rfl) ?_ ⟨?_, ?_, ?_, ?_, ?_, ?_, ?_, ?_, ?_, ?_, ?_, ?_, ?_, ?_, ?_, ?_, trivial⟩ ?_
  · intro i v V V' hV
    unfold wphi
    split <;> first | exact id | (rintro ⟨B, e, hc⟩; exact ⟨B, e, env_kept hc hV⟩)
  · intro b_ V hdf hb hB ha K hK
    have b0 : b_.eval (.tmp 0) = .pointer (some ⟨p, 0, none⟩) := (hb 0 (by decide)).trans rfl
    clear ha hb hdf
    simp only [Act.eval, Array.getD_eq_getD_getElem?] at b0
    go_simp
    exact hK _ _ (Below.refl _ V) rfl
  · intro b_ V hdf hb hB ha K hK
    have e0 : b_.eval (.tmp 24) = .pointer (some ⟨p, 0, none⟩) := ha 0 24 rfl rfl
    clear ha hb hdf
    simp only [Act.eval, Array.getD_eq_getD_getElem?] at e0
    go_simp
    exact hK _ _ (Below.refl _ V) rfl
  · intro b_ V hdf hb hB ha K hK
    have e1 : b_.eval (.tmp 25) = .pointer (some ⟨p, 0, none⟩) := ha 1 25 rfl rfl
    clear ha hb hdf
    simp only [Act.eval, Array.getD_eq_getD_getElem?] at e1
    go_simp
    exact hK _ _ (Below.refl _ V) rfl
  · intro b_ V hdf hb hB ha K hK
    have e2 : b_.eval (.tmp 26) = .pointer (some ⟨p, 2, none⟩) := ha 2 26 rfl rfl
    have xh2 := cell_keep hB _ _ h2
    clear ha hb hdf
    simp only [Act.eval, Array.getD_eq_getD_getElem?] at e2
    go_simp
    exact hK _ _ (Below.refl _ V) rfl
  · intro b_ V hdf hb hB ha K hK
    have e3 : b_.eval (.tmp 27) = .slice (some ⟨a, 0, none⟩) 2 k := ha 3 27 rfl rfl
    clear ha hb hdf
    simp only [Act.eval, Array.getD_eq_getD_getElem?] at e3
    go_simp
    exact hK _ _ (Below.refl _ V) rfl
  · intro b_ V hdf hb hB ha K hK
    have e4 : b_.eval (.tmp 28) = .pointer (some ⟨a, 1, none⟩) := ha 4 28 rfl rfl
    have xh4 := cell_keep hB _ _ h4
    clear ha hb hdf
    simp only [Act.eval, Array.getD_eq_getD_getElem?] at e4
    go_simp
    exact hK _ _ (Below.refl _ V) rfl
  · intro b_ V hdf hb hB ha K hK
    have b1 : b_.eval (.tmp 1) = .map (some b) := (hb 1 (by decide)).trans rfl
    clear ha hb hdf
    simp only [Act.eval, Array.getD_eq_getD_getElem?] at b1
    go_simp
    exact hK _ _ (Below.refl _ V) rfl
  · intro b_ V hdf hb hB ha K hK
    have b0 : b_.eval (.tmp 0) = .pointer (some ⟨p, 0, none⟩) := (hb 0 (by decide)).trans rfl
    clear ha hb hdf
    simp only [Act.eval, Array.getD_eq_getD_getElem?] at b0
    go_simp
    exact hK _ _ (Below.refl _ V) rfl
  · intro b_ V hdf hb hB ha K hK
    have e7 : b_.eval (.tmp 31) = .pointer (some ⟨p, 0, none⟩) := ha 7 31 rfl rfl
    clear ha hb hdf
    simp only [Act.eval, Array.getD_eq_getD_getElem?] at e7
    go_simp
    exact hK _ _ (Below.refl _ V) rfl
  · intro b_ V hdf hb hB ha K hK
    have e8 : b_.eval (.tmp 32) = .pointer (some ⟨p, 0, none⟩) := ha 8 32 rfl rfl
    clear ha hb hdf
    simp only [Act.eval, Array.getD_eq_getD_getElem?] at e8
    go_simp
    exact hK _ _ (Below.refl _ V) rfl
  · intro b_ V hdf hb hB ha K hK
    have e9 : b_.eval (.tmp 33) = .pointer (some ⟨p, 1, none⟩) := ha 9 33 rfl rfl
    have xh1 := cell_keep hB _ _ h1
    clear ha hb hdf
    simp only [Act.eval, Array.getD_eq_getD_getElem?] at e9
    go_simp
    exact hK _ _ (Below.refl _ V) rfl
  · intro b_ V hdf hb hB ha K hK
    have b5 : b_.eval (.tmp 5) = .int .i64 d := (hb 5 (by decide)).trans rfl
    clear ha hb hdf
    simp only [Act.eval, Array.getD_eq_getD_getElem?] at b5
    go_simp
    exact hK _ _ (Below.refl _ V) rfl
  · intro b_ V hdf hb hB ha K hK
    have e11 : b_.eval (.tmp 35) = .int .i64 d := ha 11 35 rfl rfl
    clear ha hb hdf
    simp only [Act.eval, Array.getD_eq_getD_getElem?] at e11
    go_simp
    refine hK _ _ (Below.refl _ V) ?_
    show Value.int .i64 _ = Value.int .i64 _
    rw [show IntKind.i64.wrap (d - 1) = wrap64 (d - 1) from by rw [IntKind.wrap_i64, wrap64]]
  · intro b_ V hdf hb hB ha K hK
    have e6 : b_.eval (.tmp 30) = .map (some b) := ha 6 30 rfl rfl
    have e10 : b_.eval (.tmp 34) = .string (ch u) := ha 10 34 rfl rfl
    have e12 : b_.eval (.tmp 36) = .int .i64 (wrap64 (d - 1)) := ha 12 36 rfl rfl
    clear ha hb hdf
    simp only [Act.eval, Array.getD_eq_getD_getElem?] at e6 e10 e12
    go_simp
    have hEV := env_kept (env_kept HE.out HB2.out) hB
    refine (with_walk hEV HN.out u _ hlit).mono ?_
    intro e W2 hr
    obtain ⟨b', he, hv, hb2⟩ := hr
    subst he
    exact hK (.map (some b')) W2 hb2 ⟨b', rfl, hv⟩
  · intro b_ V hdf hb hB ha K hK
    have e5 : b_.eval (.tmp 29) = .pointer (some ⟨r, 0, none⟩) := ha 5 29 rfl rfl
    obtain ⟨B, e13, c13⟩ : ∃ B : Nat, b_.eval (.tmp 37) = .map (some B) ∧ EnvAt V B (n + 1) (upd E u (wrap64 (d - 1))) := ha 13 37 rfl rfl
    clear ha hb hdf
    simp only [Act.eval, Array.getD_eq_getD_getElem?] at e5 e13
    go_simp
    have hW : Below w.heap.size w V := HB2.out.trans (hB.mono HB2.out.size)
    refine (IHY.out (by have := HD.out; omega) V B hW c13).mono ?_
    intro e W2 hr
    obtain ⟨he, hb2⟩ := hr
    subst he
    exact hK (.int .i64 t) W2 hb2 rfl
  · intro b_ V hdf hb hB ha K hK
    have e14 : b_.eval (.tmp 38) = .int .i64 t := ha 14 38 rfl rfl
    clear ha hb hdf
    simp only [Act.eval, Array.getD_eq_getD_getElem?] at e14
    go_simp
    exact hK _ _ (Below.refl _ V) rfl
  · intro b_ V hdf hsz hb hB ha
    have hB2 := HB2.out.trans (hB.mono HB2.out.size)
    have x0 := cell_keep hB _ _ h0
    have hsz' : b_.tmps.size = 109 := hsz.trans rfl
    have hdf' : b_.defers = [] := hdf.trans rfl
    obtain ⟨f_, hf_, hlit_⟩ := act_lit b_ 109 hsz' hdf'
    have ef6 : f_ 6 = .int .i64 t := (hf_ 6).trans (ha 15 6 rfl)
    have ef0 : f_ 0 = .pointer (some ⟨p, 0, none⟩) := (hf_ 0).trans ((hb 0 (by decide)).trans rfl)
    have ef1 : f_ 1 = .map (some b) := (hf_ 1).trans ((hb 1 (by decide)).trans rfl)
    have ef5 : f_ 5 = .int .i64 d := (hf_ 5).trans ((hb 5 (by decide)).trans rfl)
    simp only [show List.range 109 = [0, 1, 2, 3, 4, 5, 6, 7, 8, 9, 10, 11, 12, 13, 14, 15, 16, 17, 18, 19, 20, 21, 22, 23, 24, 25, 26, 27, 28, 29, 30, 31, 32, 33, 34, 35, 36, 37, 38, 39, 40, 41, 42, 43, 44, 45, 46, 47, 48, 49, 50, 51, 52, 53, 54, 55, 56, 57, 58, 59, 60, 61, 62, 63, 64, 65, 66, 67, 68, 69, 70, 71, 72, 73, 74, 75, 76, 77, 78, 79, 80, 81, 82, 83, 84, 85, 86, 87, 88, 89, 90, 91, 92, 93, 94, 95, 96, 97, 98, 99, 100, 101, 102, 103, 104, 105, 106, 107, 108] from rfl, List.map_cons, List.map_nil, ef6, ef0, ef1, ef5] at hlit_
    clear ha hb hf_ hsz hdf hsz' hdf' ef6 ef0 ef1 ef5
    subst hlit_
    have HB2V := Aside0.mk hB2
    have X0 := Aside0.mk x0
    clear hB hB2 x0
    have HKC := HCC.out
    rcases HKC with rfl | rfl
    · by_cases t0 : 0 ≤ t
      · by_cases t2 : t ≤ 2
        · have HT := Aside0.mk (And.intro t0 t2)
          have x0 := X0.out
          go_wp2
          refine bodyPost_ret (results_tmp rfl _ _ _) rfl ⟨?_, HB2V.out⟩
          rw [sdl, if_neg (by have := HD.out; omega), if_pos ⟨rfl, HT.out⟩]; rw [show wrap64 (t + 1) = t + 1 from by have := HT.out; rw [wrap64]; omega]; rfl
        · have HT := Aside0.mk t2
          have x0 := X0.out
          go_wp2
          refine bodyPost_ret (results_tmp rfl _ _ _) rfl ⟨?_, HB2V.out⟩
          rw [sdl, if_neg (by have := HD.out; omega), if_neg (by have := HT.out; omega), if_neg (fun h => absurd h.1 (by decide))]; rfl
      · have HT := Aside0.mk t0
        have x0 := X0.out
        go_wp2
        refine bodyPost_ret (results_tmp rfl _ _ _) rfl ⟨?_, HB2V.out⟩
        rw [sdl, if_neg (by have := HD.out; omega), if_neg (by have := HT.out; omega), if_neg (fun h => absurd h.1 (by decide))]; rfl
    · by_cases t0 : t = 0
      · have HT := Aside0.mk t0
        have x0 := X0.out
        go_wp2
        refine bodyPost_ret (results_tmp rfl _ _ _) rfl ⟨?_, HB2V.out⟩
        rw [sdl, if_neg (by have := HD.out; omega), if_neg (fun h => absurd h.1 (by decide)), if_pos ⟨rfl, by first | rfl | exact HT.out⟩]; rfl
      · have HT := Aside0.mk t0
        have x0 := X0.out
        go_wp2
        refine bodyPost_ret (results_tmp rfl _ _ _) rfl ⟨?_, HB2V.out⟩
        rw [sdl, if_neg (by have := HD.out; omega), if_neg (fun h => absurd h.1 (by decide)), if_neg (by have := HT.out; omega)]; rfl
def envF (E : Env) : Dp := fun c => (E c).getD (-1)
theorem envF_upd (E : Env) (u : UInt8) (x : Int) : envF (upd E u x) = updD (envF E) u x := by
  funext c
  unfold envF upd updD
  split <;> rfl
def Tm.hgt : Tm → Nat
  | .leaf _ => 0
  | .un _ x => x.hgt + 1
  | .bin _ x y => x.hgt + y.hgt + 1
  | .loop _ _ x y => x.hgt + y.hgt + 1
theorem hgt_le : ∀ (t : Tm), t.hgt ≤ t.tx.size := by
  intro t
  induction t with
  | leaf c => exact Nat.zero_le _
  | un c x ih => simp only [Tm.hgt, Tm.tx, ByteArray.size_append]; have : (ch c).size = 1 := rfl; omega
  | bin c x y ih1 ih2 => simp only [Tm.hgt, Tm.tx, ByteArray.size_append]; have : (ch c).size = 1 := rfl; omega
  | loop c u x y ih1 ih2 => simp only [Tm.hgt, Tm.tx, ByteArray.size_append]; have : (ch c).size = 1 := rfl; omega
set_option maxHeartbeats 1000000 in
theorem depth_walk : ∀ (t : Tm) (v : Value) (w : World) (b n : Nat) (E : Env), t.ok → n + t.hgt < 100000 → TmAt w v t → EnvAt w b n E → Calls Try.prog 21 #[v, .map (some b)] w fun e w' => e = .returned (.int .i64 (t.dp (envF E))) ∧ Below w.heap.size w w' := by
  intro t
  induction t with
  | leaf c =>
    rintro v w b n E hw hn ⟨p, rfl, h0, h1, h2⟩ he
    exact depth_leaf w p b n E c h0 h1 h2 he
  | un c x ih =>
    rintro v w b n E hw hn ⟨p, a, xv, k, rfl, h0, h1, h2, h3, h4, h5⟩ he
    obtain ⟨q, rfl⟩ := tm_ptr0 h5
    simp only [Tm.hgt] at hn
    refine depth_node w p a k b n c [x.dp (envF E)] _ ⟨Nat.le_refl _, by simp⟩ h0 h1 h2 (fun j hj => ?_) (fun W g k' hW => ?_)
    · have : j = 0 := by simp at hj; omega
      subst this
      exact ⟨q, h4, fun W hb => ih _ W b n E hw.2 (by omega) (tm_below hb h5) (env_kept he hb)⟩
    · exact signDepth1 c _ hw.1 g k' W (hW 0 (by simp))
  | bin c x y ih1 ih2 =>
    rintro v w b n E hw hn ⟨p, a, xv, yv, k, rfl, h0, h1, h2, h3, h4, h5, h6, h7⟩ he
    obtain ⟨q, rfl⟩ := tm_ptr0 h6
    obtain ⟨r, rfl⟩ := tm_ptr0 h7
    simp only [Tm.hgt] at hn
    refine depth_node w p a k b n c [x.dp (envF E), y.dp (envF E)] _ ⟨by simp, Nat.le_refl _⟩ h0 h1 h2 (fun j hj => ?_) (fun W g k' hW => ?_)
    · have : j = 0 ∨ j = 1 := by simp at hj; omega
      rcases this with rfl | rfl
      · exact ⟨q, h4, fun W hb => ih1 _ W b n E hw.2.1 (by omega) (tm_below hb h6) (env_kept he hb)⟩
      · exact ⟨r, h5, fun W hb => ih2 _ W b n E hw.2.2 (by omega) (tm_below hb h7) (env_kept he hb)⟩
    · exact signDepth2 c _ _ hw.1 g k' W (hW 0 (by simp)) (hW 1 (by simp))
  | loop c u x y ih1 ih2 =>
    rintro v w b n E hw hn ⟨p, a, xv, yv, k, rfl, h0, h1, h2, h3, h4, h5, h6, h7⟩ he
    obtain ⟨q, rfl⟩ := tm_ptr0 h6
    obtain ⟨r, rfl⟩ := tm_ptr0 h7
    simp only [Tm.hgt] at hn
    have := depth_loop w p a k q r b n E c u (x.dp (envF E)) (y.dp (updD (envF E) u (wrap64 (x.dp (envF E) - 1)))) hw.1 (by omega) h0 h1 h2 h4 h5 he (fun V hb => ih1 _ V b n E hw.2.2.1 (by omega) (tm_below hb h6) (env_kept he hb))
      (fun _ V b' hb he' => by
        have := ih2 _ V b' (n + 1) _ hw.2.2.2 (by omega) (tm_below hb h7) he'
        rw [envF_upd] at this
        exact this)
    exact this
def F0 : Dp := envF (upd (upd (fun _ => none) 97 1) 98 2)
set_option maxHeartbeats 1000000 in
theorem impl_DepthOfTerm_walk (s : ByteArray) (w : World) : Calls Try.prog 6 #[.string s] w fun e w' => e = .returned (.int .i64 ((tmOf s.data.toList).elim (-1) fun t => t.dp F0)) ∧ Below w.heap.size w w' := by
  go_enter Try.func6, Try.ntmps6
  go_wp2_with fail
  refine (termOf_walk s _).mono ?_
  rintro e w1 ⟨v, rfl, hb, hres⟩
  have HB := Aside0.mk hb
  clear hb
  rcases hres with ⟨t, hp, hat⟩ | ⟨hp, rfl⟩
  · obtain ⟨p, rfl⟩ := tm_ptr0 hat
    have HP := Aside0.mk hp
    have HA := Aside0.mk hat
    have HZ := Aside0.mk (show t.tx.size ≤ 80 from (tmOf_tx hp).2)
    clear hp hat
    go_wp2_with fail
    refine (given_walk _).mono ?_
    rintro e w2 ⟨b, rfl, he, hb2⟩
    have HE := Aside0.mk he
    have HA2 := Aside0.mk (tm_below hb2 HA.out)
    have HB2 := Aside0.mk (HB.out.trans (hb2.mono HB.out.size))
    clear he hb2
    go_wp2_with fail
    refine (depth_walk t _ w2 b 2 _ (tmOf_ok HP.out) (by have := hgt_le t; have := HZ.out; omega) HA2.out HE.out).mono ?_
    rintro e w3 ⟨rfl, hb3⟩
    have HB3 := Aside0.mk (HB2.out.trans (hb3.mono HB2.out.size))
    clear hb3
    go_wp2
    go_ret
    exact ⟨by rw [HP.out]; rfl, HB3.out⟩
  · have HP := Aside0.mk hp
    clear hp
    go_wp2
    go_ret
    exact ⟨by rw [HP.out]; rfl, HB.out⟩
end Go.Proofs.YtpklhagedifglaaW.PrintMore
