/-
  Cut to what this claim uses.
-/
import Derived.Test.YtpklhagedifglaaQMF
namespace Go.Proofs.YtpklhagedifglaaW.PrintMore
set_option linter.unusedVariables false
set_option linter.unusedSimpArgs false
open Go.Proofs Go.Deep
open Go.RowKit Go.Proofs.YtpklhagedifglaaW.PrintWords
open Classical in
/-- A world of which only some blocks are seen. -/
noncomputable def mask (W : World) (ok : Nat → Prop) : World := { W with heap := W.heap.mapIdx fun k o => if ok k then o else .map #[] 0 }
theorem mask_yes {W : World} {ok : Nat → Prop} {p : Addr} (h : ok p.block) : (mask W ok).cell? p = W.cell? p := by
  refine World.cell?_of_block ?_
  show (W.heap.mapIdx _)[p.block]? = _
  rw [Array.getElem?_mapIdx]
  cases W.heap[p.block]? with
  | none => rfl
  | some o => simp [h]
theorem mask_some {W : World} {ok : Nat → Prop} {p : Addr} {u : Value} (h : (mask W ok).cell? p = some u) : ok p.block ∧ W.cell? p = some u := by
  by_cases hk : ok p.block
  · rw [mask_yes hk] at h; exact ⟨hk, h⟩
  · exfalso
    have e : (mask W ok).heap[p.block]? = (W.heap[p.block]?).map fun _ => Obj.map #[] 0 := by
      show (W.heap.mapIdx _)[p.block]? = _
      rw [Array.getElem?_mapIdx]
      cases W.heap[p.block]? with
      | none => rfl
      | some o => simp [hk]
    unfold World.cell? at h
    rw [e] at h
    cases h2 : W.heap[p.block]? with
    | none => rw [h2] at h; cases h
    | some o => rw [h2] at h; cases h
/-- A term in memory, in some blocks alone. -/
def TmIn (W : World) (ok : Nat → Prop) (v : Value) (t : Tm) : Prop := TmAt (mask W ok) v t
theorem TmIn.at {W : World} {ok : Nat → Prop} {v : Value} {t : Tm} (h : TmIn W ok v t) : TmAt W v t := tm_keep (fun p u h => (mask_some h).2) t v h
theorem TmIn.keep {W W' : World} {ok ok' : Nat → Prop} {v : Value} {t : Tm} (h : TmIn W ok v t) (hk : ∀ k, ok k → k < W.heap.size → ok' k ∧ W'.heap[k]? = W.heap[k]?) : TmIn W' ok' v t :=
  tm_keep (fun p u hp => by
    obtain ⟨h1, h2⟩ := mask_some hp
    obtain ⟨h3, h4⟩ := hk p.block h1 (World.block_lt_of_cell? W _ h2)
    rw [mask_yes h3]
    exact (World.cell?_of_block (w := W) h4).trans h2) t v h
theorem TmIn.mono {W : World} {ok ok' : Nat → Prop} {v : Value} {t : Tm} (h : TmIn W ok v t) (hk : ∀ k, ok k → k < W.heap.size → ok' k) : TmIn W ok' v t := h.keep fun k h1 h2 => ⟨hk k h1 h2, rfl⟩
theorem tm_in {W : World} {v : Value} {t : Tm} (h : TmAt W v t) : TmIn W (fun k => k < W.heap.size) v t :=
  tm_keep (fun p u hp => by rw [mask_yes (World.block_lt_of_cell? W _ hp)]; exact hp) t v h
theorem TmIn.below {W W' : World} {ok : Nat → Prop} {v : Value} {t : Tm} (h : TmIn W ok v t) (hb : Below W.heap.size W W') : TmIn W' ok v t := h.keep fun k h1 h2 => ⟨h1, hb.block k h2⟩
/-- What replaces a variable; none if a variable would be bound. -/
def Tm.pt : Tm → UInt8 → Tm → Option Tm
  | .leaf c, z, u => if (Tm.leaf c).fc z = 0 then some (.leaf c) else some u
  | .un c x, z, u => if x.fc z = 0 then some (.un c x) else (x.pt z u).map (.un c)
  | .bin c x y, z, u => if x.fc z + y.fc z = 0 then some (.bin c x y) else (x.pt z u).bind fun x' => (y.pt z u).map (.bin c x')
  | .loop c b x y, z, u => if (Tm.loop c b x y).fc z = 0 then some (.loop c b x y) else (x.pt z u).bind fun x' => if b = z then some (.loop c b x' y) else if 0 < y.fc z ∧ 0 < u.fc b then none else (y.pt z u).map (.loop c b x')
/-- One node with parts. -/
def NodeIn (W : World) (ok : Nat → Prop) (v : Value) (sg vs : ByteArray) (n : Nat) (ts : Nat → Tm) : Prop :=
  ∃ o g k, v = .pointer (some ⟨o, 0, none⟩) ∧ ok o ∧ ok g ∧ W.cell? ⟨o, 0, none⟩ = some (.string sg) ∧ W.cell? ⟨o, 1, none⟩ = some (.string vs) ∧ W.cell? ⟨o, 2, none⟩ = some (.slice (some ⟨g, 0, none⟩) n k) ∧ n ≤ k ∧
    ∀ j, j < n → ∃ yv, W.cell? ⟨g, j, none⟩ = some yv ∧ TmIn W ok yv (ts j)
theorem node_un {W : World} {ok : Nat → Prop} {v : Value} {c : UInt8} {ts : Nat → Tm} (h : NodeIn W ok v (ch c) ⟨#[]⟩ 1 ts) : TmIn W ok v (.un c (ts 0)) := by
  obtain ⟨o, g, k, h0, h1, h2, h3, h4, h5, h6, h7⟩ := h
  obtain ⟨y, hy, ht⟩ := h7 0 (by omega)
  exact ⟨o, g, y, k, h0, by rw [mask_yes h1]; exact h3, by rw [mask_yes h1]; exact h4, by rw [mask_yes h1]; exact h5, h6, by rw [mask_yes h2]; exact hy, ht⟩
theorem node_bin {W : World} {ok : Nat → Prop} {v : Value} {c : UInt8} {ts : Nat → Tm} (h : NodeIn W ok v (ch c) ⟨#[]⟩ 2 ts) : TmIn W ok v (.bin c (ts 0) (ts 1)) := by
  obtain ⟨o, g, k, h0, h1, h2, h3, h4, h5, h6, h7⟩ := h
  obtain ⟨y, hy, ht⟩ := h7 0 (by omega)
  obtain ⟨y', hy', ht'⟩ := h7 1 (by omega)
  exact ⟨o, g, y, y', k, h0, by rw [mask_yes h1]; exact h3, by rw [mask_yes h1]; exact h4, by rw [mask_yes h1]; exact h5, h6, by rw [mask_yes h2]; exact hy, by rw [mask_yes h2]; exact hy', ht, ht'⟩
theorem node_loop {W : World} {ok : Nat → Prop} {v : Value} {c u : UInt8} {ts : Nat → Tm} (h : NodeIn W ok v (ch c) (ch u) 2 ts) : TmIn W ok v (.loop c u (ts 0) (ts 1)) := by
  obtain ⟨o, g, k, h0, h1, h2, h3, h4, h5, h6, h7⟩ := h
  obtain ⟨y, hy, ht⟩ := h7 0 (by omega)
  obtain ⟨y', hy', ht'⟩ := h7 1 (by omega)
  exact ⟨o, g, y, y', k, h0, by rw [mask_yes h1]; exact h3, by rw [mask_yes h1]; exact h4, by rw [mask_yes h1]; exact h5, h6, by rw [mask_yes h2]; exact hy, by rw [mask_yes h2]; exact hy', ht, ht'⟩
end Go.Proofs.YtpklhagedifglaaW.PrintMore
namespace Go.Proofs.YtpklhagedifglaaW.PrintMore
set_option linter.unusedVariables false
set_option linter.unusedSimpArgs false
open Go.Proofs Go.Deep
open Go.RowKit Go.Proofs.YtpklhagedifglaaW.PrintWords Go.Proofs.YtpklhagedifglaaW.PrintLast Go.Proofs.YtpklhagedifglaaW.PrintMore
theorem ptr_info : (Try.prog.info? 38).map (fun i => (i.zero, i.size, i.bytes)) = some (some (.pointer none), 1, 8) := by kernel_rfl
abbrev kPtr : Kd (Option Addr) := Kd.scalar Value.pointer (fun _ => rfl)
/-- A new node under way. -/
def OutAt (W : World) (o : Nat) (sg vs : ByteArray) (ts : Nat → Tm) (ok : Nat → Prop) (slv : Value) (xs : List (Option Addr)) : Prop :=
  W.heap[o]? = some (.cells #[.string sg, .string vs, slv] 58 (0, 0)) ∧ Kd.R kPtr 38 W (o + 1) (fun k => k ≠ o) slv xs ∧
    ∀ j, j < xs.length → TmIn W (fun k => k ≠ o ∧ some k ≠ slv.ownBlock ∧ (ok k ∨ o < k)) (.pointer (xs.getD j none)) (ts j)
theorem own_bound {W : World} {base : Nat} {okk : Nat → Prop} {v : Value} {xs : List (Option Addr)} (h : Kd.R kPtr 38 W base okk v xs) {k : Nat} (hk : v.ownBlock = some k) : base ≤ k ∧ k < W.heap.size := by
  have := (Kd.R_bound h).1 k hk
  exact ⟨this.2.1, this.2.2.1⟩
theorem out_below {W W' : World} {o : Nat} {sg vs : ByteArray} {ts : Nat → Tm} {ok : Nat → Prop} {slv : Value} {xs : List (Option Addr)} (h : OutAt W o sg vs ts ok slv xs) (hb : Below W.heap.size W W') : OutAt W' o sg vs ts ok slv xs :=
  ⟨blk_below h.1 hb, Kd.R_below h.2.1 hb, fun j hj => (h.2.2 j hj).below hb⟩
theorem out_step {W V : World} {o : Nat} {sg vs : ByteArray} {ts : Nat → Tm} {ok : Nat → Prop} {slv v4 : Value} {xs : List (Option Addr)} {P : Option Addr} (h : OutAt W o sg vs ts ok slv xs)
    (hR : Kd.R kPtr 38 V (o + 1) (fun k => k ≠ o) v4 (xs ++ [P])) (hb : Below (o + 1) W V) (hg : W.grownBy V slv.ownBlock) (hat : v4.ownBlock = slv.ownBlock ∨ ∃ b, v4.ownBlock = some b ∧ W.heap.size ≤ b)
    (hq : TmIn W (fun k => k ≠ o ∧ some k ≠ slv.ownBlock ∧ (ok k ∨ o < k)) (.pointer P) (ts xs.length)) : OutAt (V.setCell ⟨o, 2, none⟩ v4) o sg vs ts ok v4 (xs ++ [P]) := by
  have hV : V.heap[o]? = _ := (hb.block o (Nat.lt_succ_self o)).trans h.1
  have hsz : (V.setCell ⟨o, 2, none⟩ v4).heap.size = V.heap.size := by simp [World.setCell]
  have key : ∀ v t, TmIn W (fun k => k ≠ o ∧ some k ≠ slv.ownBlock ∧ (ok k ∨ o < k)) v t → TmIn (V.setCell ⟨o, 2, none⟩ v4) (fun k => k ≠ o ∧ some k ≠ v4.ownBlock ∧ (ok k ∨ o < k)) v t := fun v t ht => ht.keep fun k ⟨h1, h2, h3⟩ hk => by
    refine ⟨⟨h1, ?_, h3⟩, ?_⟩
    · rcases hat with e | ⟨b, e, hb'⟩
      · rw [e]; exact h2
      · rw [e]; intro e'; injection e' with e'; omega
    · rw [Below.heap_setCell V ⟨o, 2, none⟩ v4 k h1]
      exact hg.block k hk h2
  refine ⟨blk_put hV 2 v4 (by rfl), Kd.R_step hR (fun k hk _ => Below.heap_setCell V ⟨o, 2, none⟩ v4 k hk), fun j hj => ?_⟩
  rw [List.length_append, List.length_singleton] at hj
  by_cases hj2 : j < xs.length
  · rw [List.getD_eq_getElem?_getD, List.getElem?_append_left hj2, ← List.getD_eq_getElem?_getD]
    exact key _ _ (h.2.2 j hj2)
  · have : j = xs.length := by omega
    subst this
    rw [List.getD_eq_getElem?_getD, List.getElem?_append_right (Nat.le_refl _), Nat.sub_self]
    exact key _ _ hq
theorem out_node {w W : World} {o : Nat} {sg vs : ByteArray} {ts : Nat → Tm} {ok : Nat → Prop} {slv : Value} {xs : List (Option Addr)} (h : OutAt W o sg vs ts ok slv xs) (ho : w.heap.size ≤ o) (hn : 1 ≤ xs.length) : NodeIn W (fun k => ok k ∨ w.heap.size ≤ k) (.pointer (some ⟨o, 0, none⟩)) sg vs xs.length ts := by
  obtain ⟨h1, h2, h3⟩ := h
  rcases (Kd.own_of_R h2).2 with ⟨rfl, hz⟩ | ⟨g, cap, cur, rfl, hg, hh, hle, hrest⟩
  · omega
  refine ⟨o, g, cap, rfl, .inr ho, .inr (by omega), by rw [blk_cell h1]; rfl, by rw [blk_cell h1]; rfl, by rw [blk_cell h1]; rfl, hle, fun j hj => ?_⟩
  refine ⟨.pointer (xs.getD j none), ?_, (h3 j hj).mono fun k hk _ => by rcases hk.2.2 with h | h; exact .inl h; exact .inr (by omega)⟩
  have := (Kd.R_celln (none : Option Addr) h2 (j : Int) (by omega) (by omega)).1
  rw [show ((j : Nat) : Int).toNat = j from by omega] at this
  rw [this]
  unfold rdOf
  rw [show ((j : Nat) : Int).toNat = j from by omega]
/-- What put answers. -/
def PutPost (w : World) (ok : Nat → Prop) (r : Option Tm) (v : Value) (w' : World) : Prop := (r = none ∧ v = .pointer none) ∨ ∃ t, r = some t ∧ TmIn w' (fun k => ok k ∨ w.heap.size ≤ k) v t
theorem out_low {w W V : World} {o : Nat} {row : Option Nat} (h : Below w.heap.size w W) (ho : w.heap.size ≤ o) (hb : Below (o + 1) W V) (hg : W.grownBy V row) (v : Value) : Below w.heap.size w (V.setCell ⟨o, 2, none⟩ v) :=
  Below.setCell ⟨hg.os.trans h.os, hg.tape.trans h.tape, hg.output.trans h.output, Nat.le_trans h.size hg.size, fun k hk => (hb.block k (by omega)).trans (h.block k hk)⟩ ho _
theorem out_fresh {w V : World} {o : Nat} {ok : Nat → Prop} {slv : Value} {xs : List (Option Addr)} (hR : Kd.R kPtr 38 V (o + 1) (fun k => k ≠ o) slv xs) (hok : ∀ k, ok k → k < w.heap.size) (ho : w.heap.size ≤ o) (hov : o < V.heap.size) {k : Nat} (hk : ok k ∨ V.heap.size ≤ k) : k ≠ o ∧ some k ≠ slv.ownBlock ∧ (ok k ∨ o < k) := by
  rcases hk with hk | hk
  · have := hok k hk
    refine ⟨by omega, fun e => ?_, .inl hk⟩
    have := own_bound hR e.symm
    omega
  · refine ⟨by omega, fun e => ?_, .inr (by omega)⟩
    have := own_bound hR e.symm
    omega
def pphi5 (h p uq : Nat) (z : UInt8) (sg vs : ByteArray) : Nat → Value → World → Prop
  | 0, v, _ => v = .pointer (some ⟨p, 0, none⟩)
  | 1, v, _ => v = .pointer (some ⟨p, 0, none⟩)
  | 2, v, _ => v = .pointer (some ⟨p, 0, none⟩)
  | 3, v, _ => v = .string sg
  | 4, v, _ => v = .pointer (some ⟨p, 0, none⟩)
  | 5, v, _ => v = .pointer (some ⟨p, 0, none⟩)
  | 6, v, _ => v = .pointer (some ⟨p, 1, none⟩)
  | 7, v, _ => v = .string vs
  | 8, v, _ => v = .agg #[.string sg, .string vs, .slice none 0 0]
  | 9, v, V => ∃ o : Nat, v = .pointer (some ⟨o, 0, none⟩) ∧ (h ≤ o ∧ V.heap[o]? = some (.cells #[.string sg, .string vs, .slice none 0 0] 58 (0, 0)))
  | 10, v, V => ∃ o : Nat, v = .pointer (some ⟨o, 0, none⟩) ∧ (h ≤ o ∧ V.heap[o]? = some (.cells #[.string sg, .string vs, .slice none 0 0] 58 (0, 0)))
  | _, _, _ => True
def pphi12t (p q uq n1 nu : Nat) (z u : UInt8) (C1 Cu : Ct) (g2 : Bool) : Nat → Value → World → Prop
  | 0, v, _ => v = .pointer (some ⟨q, 0, none⟩)
  | 1, v, V => ∃ B : Nat, v = .map (some B) ∧ FrAt V B n1 C1
  | 2, v, _ => v = .string (ch z)
  | 3, v, _ => v = .int .i64 (C1 z : Int)
  | 4, v, _ => v = .bool true
  | 5, v, _ => v = .bool true
  | 6, v, _ => v = .pointer (some ⟨uq, 0, none⟩)
  | 7, v, V => ∃ B : Nat, v = .map (some B) ∧ FrAt V B nu Cu
  | 8, v, _ => v = .pointer (some ⟨p, 0, none⟩)
  | 9, v, _ => v = .pointer (some ⟨p, 0, none⟩)
  | 10, v, _ => v = .pointer (some ⟨p, 1, none⟩)
  | 11, v, _ => v = .string (ch u)
  | 12, v, _ => v = .int .i64 (Cu u : Int)
  | 13, v, _ => v = .bool g2
  | 14, v, _ => v = .bool g2
  | _, _, _ => True
def pphi12f (p q uq n1 nu : Nat) (z u : UInt8) (C1 Cu : Ct) (g2 : Bool) : Nat → Value → World → Prop
  | 0, v, _ => v = .pointer (some ⟨q, 0, none⟩)
  | 1, v, V => ∃ B : Nat, v = .map (some B) ∧ FrAt V B n1 C1
  | 2, v, _ => v = .string (ch z)
  | 3, v, _ => v = .int .i64 (C1 z : Int)
  | 4, v, _ => v = .bool false
  | 5, v, _ => v = .bool false
  | 6, _, _ => True
  | 7, _, _ => True
  | 8, _, _ => True
  | 9, _, _ => True
  | 10, _, _ => True
  | 11, _, _ => True
  | 12, _, _ => True
  | 13, _, _ => True
  | 14, v, _ => v = .bool false
  | _, _, _ => True
set_option maxHeartbeats 32000000 in
set_option maxRecDepth 100000 in
theorem put_node (w : World) (p a n k uq n1 nf nu : Nat) (sg vs : ByteArray) (isl : Bool) (z u : UInt8) (C C1 Cu : Ct) (ts xt : Nat → Tm) (rs res : Nat → Option Tm) (ok : Nat → Prop) (hok : ∀ k, ok k → k < w.heap.size) (hn : 1 ≤ n ∧ n ≤ 2)
    (h0 : w.cell? ⟨p, 0, none⟩ = some (.string sg)) (h1 : w.cell? ⟨p, 1, none⟩ = some (.string vs)) (h2 : w.cell? ⟨p, 2, none⟩ = some (.slice (some ⟨a, 0, none⟩) n k)) (hcz : C z ≠ 0)
    (hfn : Calls Try.prog 29 #[.pointer (some ⟨p, 0, none⟩)] w fun e w' => ∃ b, e = .returned (.map (some b)) ∧ w.heap.size ≤ b ∧ FrAt w' b nf C ∧ Below w.heap.size w w')
    (hfu : ∀ V, Below w.heap.size w V → Calls Try.prog 29 #[.pointer (some ⟨uq, 0, none⟩)] V fun e w' => ∃ b, e = .returned (.map (some b)) ∧ V.heap.size ≤ b ∧ FrAt w' b nu Cu ∧ Below V.heap.size V w')
    (hk : ∀ j, j < n → ∃ q, w.cell? ⟨a, j, none⟩ = some (.pointer (some ⟨q, 0, none⟩)) ∧ TmIn w ok (.pointer (some ⟨q, 0, none⟩)) (xt j) ∧
      (∀ V, Below w.heap.size w V → Calls Try.prog 33 #[.pointer (some ⟨q, 0, none⟩), .string (ch z), .pointer (some ⟨uq, 0, none⟩)] V fun e w' => ∃ v', e = .returned v' ∧ PutPost V ok (rs j) v' w' ∧ Below V.heap.size V w') ∧
      (j = 1 → ∀ V, Below w.heap.size w V → Calls Try.prog 29 #[.pointer (some ⟨q, 0, none⟩)] V fun e w' => ∃ b, e = .returned (.map (some b)) ∧ V.heap.size ≤ b ∧ FrAt w' b n1 C1 ∧ Below V.heap.size V w'))
    (hl : ∀ W, W.cell? ⟨p, 1, none⟩ = some (.string vs) → Calls Try.prog 42 #[.pointer (some ⟨p, 0, none⟩)] W fun e w' => e = .returned (.bool isl) ∧ w' = W) (hvs : isl = true → vs = ch u)
    (hres : ∀ j, j < n → (¬ j = 1 ∨ isl = false) → res j = rs j) (hB1 : isl = true → u = z → res 1 = some (xt 1)) (hC1 : isl = true → ¬ u = z → (0 < C1 z ∧ 0 < Cu u) → res 1 = none) (hC2 : isl = true → ¬ u = z → ¬ (0 < C1 z ∧ 0 < Cu u) → res 1 = rs 1)
    (hts : ∀ j t', j < n → res j = some t' → ts j = t') :
    Calls Try.prog 33 #[.pointer (some ⟨p, 0, none⟩), .string (ch z), .pointer (some ⟨uq, 0, none⟩)] w fun e w' => ∃ v', e = .returned v' ∧ ((∃ j, j < n ∧ res j = none ∧ v' = .pointer none) ∨ ((∀ j, j < n → res j = some (ts j)) ∧ NodeIn w' (fun k => ok k ∨ w.heap.size ≤ k) v' sg vs n ts)) ∧ Below w.heap.size w w' := by
  have HOK := Aside0.mk hok
  have HN := Aside0.mk hn
  have H0 := Aside0.mk h0
  have H1 := Aside0.mk h1
  have H2 := Aside0.mk h2
  have HFU := Aside0.mk hfu
  have HK := Aside0.mk hk
  have HL := Aside0.mk hl
  have HVS := Aside0.mk hvs
  have HRES0 := Aside0.mk hres
  have HB1 := Aside0.mk hB1
  have HC1 := Aside0.mk hC1
  have HC2 := Aside0.mk hC2
  have HTS0 := Aside0.mk hts
  have n0 : ((n : Int) == 0) = false := by simp; omega
  have cz : ((C z : Int) == 0) = false := by simp; omega
  clear hok hfu hk hl hvs hres hB1 hC1 hC2 hts hn hcz h0 h1 h2
  go_enter Try.func33, Try.ntmps33
  go_wp2_with fail
  refine hfn.mono ?_
  rintro e w1 ⟨bf, rfl, hbf, hf, hb⟩
  have HB := Aside0.mk hb
  have lk := fr_look hf z
  have g2 := cell_keep hb _ _ H2.out
  have g0 := cell_keep hb _ _ H0.out
  have g1 := cell_keep hb _ _ H1.out
  obtain ⟨h, hh⟩ : ∃ h, h = w1.heap.size := ⟨_, rfl⟩
  have HHH := Aside0.mk hh
  clear hb hf hbf hh
  go_wp2
  clear lk cz n0
  refine region_phi2 (pphi5 h p uq z sg vs) [0, 1, 2, 3, 4, 5, 6] (by kernel_rfl) (by kernel_rfl) (by kernel_rfl) ?_ ⟨?_, ?_, ?_, ?_, ?_, ?_, ?_, ?_, ?_, ?_, ?_, trivial⟩ ?_
  · intro i v V V' hV
    unfold pphi5
    split <;> first | exact id | (rintro ⟨o, e, hc, hd⟩; exact ⟨o, e, hc, blk_below hd hV⟩)
  · intro b_ V hdf hb hB ha K hK
    have b0 : b_.eval (.tmp 0) = .pointer (some ⟨p, 0, none⟩) := (hb 0 (by decide)).trans rfl
    clear ha hb hdf
    simp only [Act.eval, Array.getD_eq_getD_getElem?] at b0
    go_simp
    exact hK _ _ (Below.refl _ V) rfl
  · intro b_ V hdf hb hB ha K hK
    have e0 : b_.eval (.tmp 24) = .pointer (some ⟨p, 0, none⟩) := ha 0 24 rfl rfl
    clear ha hb hdf
    simp only [Act.eval, Array.getD_eq_getD_getElem?] at e0
    go_simp
    exact hK _ _ (Below.refl _ V) rfl
  · intro b_ V hdf hb hB ha K hK
    have e1 : b_.eval (.tmp 25) = .pointer (some ⟨p, 0, none⟩) := ha 1 25 rfl rfl
    clear ha hb hdf
    simp only [Act.eval, Array.getD_eq_getD_getElem?] at e1
    go_simp
    exact hK _ _ (Below.refl _ V) rfl
  · intro b_ V hdf hb hB ha K hK
    have e2 : b_.eval (.tmp 26) = .pointer (some ⟨p, 0, none⟩) := ha 2 26 rfl rfl
    have xg0 := cell_keep hB _ _ g0
    clear ha hb hdf
    simp only [Act.eval, Array.getD_eq_getD_getElem?] at e2
    go_simp
    exact hK _ _ (Below.refl _ V) rfl
  · intro b_ V hdf hb hB ha K hK
    have b0 : b_.eval (.tmp 0) = .pointer (some ⟨p, 0, none⟩) := (hb 0 (by decide)).trans rfl
    clear ha hb hdf
    simp only [Act.eval, Array.getD_eq_getD_getElem?] at b0
    go_simp
    exact hK _ _ (Below.refl _ V) rfl
  · intro b_ V hdf hb hB ha K hK
    have e4 : b_.eval (.tmp 28) = .pointer (some ⟨p, 0, none⟩) := ha 4 28 rfl rfl
    clear ha hb hdf
    simp only [Act.eval, Array.getD_eq_getD_getElem?] at e4
    go_simp
    exact hK _ _ (Below.refl _ V) rfl
  · intro b_ V hdf hb hB ha K hK
    have e5 : b_.eval (.tmp 29) = .pointer (some ⟨p, 0, none⟩) := ha 5 29 rfl rfl
    clear ha hb hdf
    simp only [Act.eval, Array.getD_eq_getD_getElem?] at e5
    go_simp
    exact hK _ _ (Below.refl _ V) rfl
  · intro b_ V hdf hb hB ha K hK
    have e6 : b_.eval (.tmp 30) = .pointer (some ⟨p, 1, none⟩) := ha 6 30 rfl rfl
    have xg1 := cell_keep hB _ _ g1
    clear ha hb hdf
    simp only [Act.eval, Array.getD_eq_getD_getElem?] at e6
    go_simp
    exact hK _ _ (Below.refl _ V) rfl
  · intro b_ V hdf hb hB ha K hK
    have e3 : b_.eval (.tmp 27) = .string sg := ha 3 27 rfl rfl
    have e7 : b_.eval (.tmp 31) = .string vs := ha 7 31 rfl rfl
    clear ha hb hdf
    simp only [Act.eval, Array.getD_eq_getD_getElem?] at e3 e7
    go_simp
    exact hK _ _ (Below.refl _ V) rfl
  · intro b_ V hdf hb hB ha K hK
    have e8 : b_.eval (.tmp 32) = .agg #[.string sg, .string vs, .slice none 0 0] := ha 8 32 rfl rfl
    clear ha hb hdf
    simp only [Act.eval, Array.getD_eq_getD_getElem?] at e8
    go_simp
    refine hK _ _ ((Below.refl _ V).alloc (Nat.le_refl _) _) ⟨_, rfl, by rw [HHH.out]; exact hB.size, blk_new V _⟩
  · intro b_ V hdf hb hB ha K hK
    obtain ⟨o, e9, c9⟩ : ∃ o : Nat, b_.eval (.tmp 33) = .pointer (some ⟨o, 0, none⟩) ∧ (h ≤ o ∧ V.heap[o]? = some (.cells #[.string sg, .string vs, .slice none 0 0] 58 (0, 0))) := ha 9 33 rfl rfl
    clear ha hb hdf
    simp only [Act.eval, Array.getD_eq_getD_getElem?] at e9
    go_simp
    exact hK _ _ (Below.refl _ V) ⟨o, rfl, c9⟩
  · intro b_ V hdf hsz hb hB ha
    have HB5 := Aside0.mk (HB.out.trans (hB.mono HB.out.size))
    obtain ⟨o, eo, hoh, hob⟩ : ∃ o : Nat, b_.eval (.tmp 7) = .pointer (some ⟨o, 0, none⟩) ∧ (h ≤ o ∧ V.heap[o]? = some (.cells #[.string sg, .string vs, .slice none 0 0] 58 (0, 0))) := ha 10 7 rfl
    have hsz' : b_.tmps.size = 99 := hsz.trans rfl
    have hdf' : b_.defers = [] := hdf.trans rfl
    obtain ⟨f_, hf_, hlit_⟩ := act_lit b_ 99 hsz' hdf'
    have ef0 : f_ 0 = .pointer (some ⟨p, 0, none⟩) := (hf_ 0).trans ((hb 0 (by decide)).trans rfl)
    have ef1 : f_ 1 = .string (ch z) := (hf_ 1).trans ((hb 1 (by decide)).trans rfl)
    have ef2 : f_ 2 = .pointer (some ⟨uq, 0, none⟩) := (hf_ 2).trans ((hb 2 (by decide)).trans rfl)
    have ef3 : f_ 3 = undef := (hf_ 3).trans ((hb 3 (by decide)).trans rfl)
    have ef4 : f_ 4 = undef := (hf_ 4).trans ((hb 4 (by decide)).trans rfl)
    have ef5 : f_ 5 = undef := (hf_ 5).trans ((hb 5 (by decide)).trans rfl)
    have ef6 : f_ 6 = .pointer none := (hf_ 6).trans ((hb 6 (by decide)).trans rfl)
    have ef7 : f_ 7 = .pointer (some ⟨o, 0, none⟩) := (hf_ 7).trans eo
    simp only [show List.range 99 = [0, 1, 2, 3, 4, 5, 6, 7, 8, 9, 10, 11, 12, 13, 14, 15, 16, 17, 18, 19, 20, 21, 22, 23, 24, 25, 26, 27, 28, 29, 30, 31, 32, 33, 34, 35, 36, 37, 38, 39, 40, 41, 42, 43, 44, 45, 46, 47, 48, 49, 50, 51, 52, 53, 54, 55, 56, 57, 58, 59, 60, 61, 62, 63, 64, 65, 66, 67, 68, 69, 70, 71, 72, 73, 74, 75, 76, 77, 78, 79, 80, 81, 82, 83, 84, 85, 86, 87, 88, 89, 90, 91, 92, 93, 94, 95, 96, 97, 98] from rfl, List.map_cons, List.map_nil, ef0, ef1, ef2, ef3, ef4, ef5, ef6, ef7] at hlit_
    clear ha hb hf_ hsz hdf hsz' hdf' ef0 ef1 ef2 ef3 ef4 ef5 ef6 ef7
    subst hlit_
    have HOW := Aside0.mk (show w.heap.size ≤ o from Nat.le_trans HB.out.size (by rw [← HHH.out]; exact hoh))
    have g2 := cell_keep hB _ _ g2
    have HO0 := Aside0.mk (show OutAt V o sg vs ts ok (.slice none 0 0) [] from ⟨hob, Kd.R_of_own (enc := Value.pointer) (h1 := fun _ => rfl) ⟨by simp [encs], .inl ⟨rfl, rfl⟩⟩ (fun _ h => by cases h), fun j hj => by cases hj⟩)
    clear hoh hob hB g0 g1
    go_wp2
    clear g2
    go_loopg [39] n (fun kq v39 w' => ∃ (i : Nat) (slv : Value) (xs : List (Option Addr)), v39 = .int .i64 (i : Int) ∧ Aside0 (kq + i = n) ∧ Aside0 (OutAt w' o sg vs ts ok slv xs) ∧ Aside0 (xs.length = i) ∧ Aside0 (Below w.heap.size w w') ∧ Aside0 (∀ j, j < i → res j = some (ts j)))
    case atStart => exact ⟨0, _, _, rfl, ⟨by omega⟩, HO0, ⟨rfl⟩, HB5, ⟨fun j hj => by omega⟩⟩
    case round =>
      clear HO0
      obtain ⟨i, slv, xs, rfl, HI, HO0, HXL, HBW, HTS⟩ := hrel
      by_cases hi : i < n
      · have hlt : (i : Int) < (n : Int) := by omega
        have h0 : (0 : Int) ≤ (i : Int) := by omega
        obtain ⟨q, hc, hin, hcp, hfp⟩ := HK.out i hi
        have hc' : wr.cell? ⟨a, i, none⟩ = some (.pointer (some ⟨q, 0, none⟩)) := cell_keep HBW.out _ _ hc
        have HCP := Aside0.mk hcp
        have HIN := Aside0.mk hin
        have HFP0 := Aside0.mk hfp
        have HH := Aside0.mk hi
        have HTSR := Aside0.mk (fun i t' => fun (h : res i = some t') => HTS0.out i t')
        clear hc hin hcp hfp hi HTSR
        have HTSR := Aside0.mk (show ∀ j t', j = i → res j = some t' → ts j = t' from fun j t' hj h => HTS0.out j t' (by rw [hj]; exact HH.out) h)
        by_cases i1 : i = 1
        · have q1 : ((i : Int) == 1) = true := by simp [i1]
          have HI1 := Aside0.mk i1
          clear i1
          cases isl with
          | false =>
            have HRES := Aside0.mk (HRES0.out i HH.out (.inr rfl))
            go_wp2_with (go_at_call 42; refine (HL.out _ (cell_keep HBW.out _ _ H1.out)).mono ?_; rintro e wz ⟨rfl, hw⟩; rw [hw]; clear hw wz)
            refine (HCP.out wr HBW.out).mono ?_
            rintro e w2 ⟨v', rfl, hpost, hb2⟩
            have hO_ := out_below HO0.out hb2
            have HBS := Aside0.mk (HBW.out.trans (hb2.mono HBW.out.size))
            rcases hpost with ⟨hrn, rfl⟩ | ⟨t', hrs, htin⟩
            · have HRN := Aside0.mk hrn
              clear hb2 hO_ hrn
              go_wp2
              go_ret
              exact ⟨_, rfl, .inl ⟨i, HH.out, by rw [HRES.out]; exact HRN.out, rfl⟩, HBS.out⟩
            · obtain ⟨qq, rfl⟩ := tm_ptr0 htin.at
              have htq := htin.mono (ok' := fun k => k ≠ o ∧ some k ≠ slv.ownBlock ∧ (ok k ∨ o < k)) (fun k hk _ => out_fresh HO0.out.2.1 HOK.out HOW.out (blk_lt HO0.out.1) hk)
              have HRT := Aside0.mk hrs
              have htt : ts i = t' := HTSR.out i t' rfl (by rw [HRES.out, hrs])
              have HTQ := Aside0.mk (show TmIn w2 (fun k => k ≠ o ∧ some k ≠ slv.ownBlock ∧ (ok k ∨ o < k)) (.pointer (some ⟨qq, 0, none⟩)) (ts xs.length) from by rw [HXL.out, htt]; exact htq)
              have HTT := Aside0.mk htt
              clear hb2 htq hrs htin htt
              have HO_ := Aside0.mk hO_
              have c2_ : w2.cell? ⟨o, 2, none⟩ = some slv := by rw [blk_cell hO_.1]; rfl
              have HBO := Aside0.mk (show o + 1 ≤ w2.heap.size from blk_lt hO_.1)
              clear hO_
              go_wp2_with (first | ((with_reducible refine gate_builtin (b := .append) (xs := #[.tmp 91, .tmp 93]) rfl ?_); at_builtin; refine Kd.R_append kPtr (w0 := w2) (o + 1) rfl (.tmp 91) (.tmp 93) 56 38 (.pointer none) 8 rfl Try.underlying56 ptr_info rfl (by decide) (by omega) _ xs (some ⟨qq, 0, none⟩) [.pointer (some ⟨qq, 0, none⟩)] (fun k => k ≠ o) (fun _ => False) rfl rfl ?aP (fun _ hk => hk.elim) ?aF ?aO ?aB ?aS ?aL ?_; (case aP => exact rfl); (case aF => exact fun k hk => by have := HBO.out; omega); (case aO => exact HO_.out.2.1); (case aB => exact Below.refl _ _); (case aS => exact HBO.out); (case aL => have := HXL.out; have := HN.out; omega); intro v4 w21 ho hb4 hg4 hat4; have HST := Aside0.mk (out_step HO_.out ho hb4 hg4 hat4 HTQ.out); have HBX := Aside0.mk (out_low HBS.out HOW.out hb4 hg4 v4); obtain ⟨A4, c4, hv4, hle4, hC4⟩ := Kd.R_reads ho; have hx4 : ∃ m, v4 = .slice A4 m c4 := ⟨_, hv4⟩; clear hv4; obtain ⟨m4, hv4⟩ := hx4; subst hv4; have c3_ : w21.cell? ⟨o, 2, none⟩ = some slv := (by rw [blk_cell ((hb4.block o (Nat.lt_succ_self o)).trans HO_.out.1)]; rfl); have f3_ : w21.frozen? ⟨o, 2, none⟩ = false := blk_frozen ((hb4.block o (Nat.lt_succ_self o)).trans HO_.out.1) 2; clear ho hb4 hg4 hat4 hle4 hC4))
              go_roundg (gk - 1)
              case measure => have := HI.out; have := HH.out; omega
              case rel =>
                refine ⟨i + 1, _, _, ?_, ⟨by have := HI.out; have := HH.out; omega⟩, HST, ⟨by rw [List.length_append, List.length_singleton, HXL.out]⟩, HBX, ⟨fun j hj => ?_⟩⟩
                · have := HN.out; have := HH.out
                  have e1 : IntKind.i64.wrap ((i : Int) + 1) = ((i + 1 : Nat) : Int) := by rw [IntKind.wrap_i64]; omega
                  have e2 : wrap64 ((i : Int) + 1) = ((i + 1 : Nat) : Int) := by rw [wrap64]; omega
                  first | rfl | (rw [← e1]; done) | (rw [← e2]; done) | (simp [e1]; done) | (simp [e2]; done) | (show Value.int .i64 _ = _; rw [e1]; done) | (show Value.int .i64 _ = _; rw [e2])
                · by_cases hj2 : j < i
                  · exact HTS.out j hj2
                  · have : j = i := by omega
                    subst this; exact (by rw [HRES.out, HTT.out]; exact HRT.out)
          | true =>
            have hvs := HVS.out rfl
            subst hvs
            by_cases huz : u = z
            · have HUZ := Aside0.mk huz
              have hRB := HB1.out rfl huz
              have htx : ts i = xt i := HTSR.out i _ rfl (by rw [HI1.out]; exact hRB)
              have HRB := Aside0.mk (show res i = some (ts i) from by rw [htx, HI1.out]; exact hRB)
              have HTQ := Aside0.mk (show TmIn wr (fun k => k ≠ o ∧ some k ≠ slv.ownBlock ∧ (ok k ∨ o < k)) (.pointer (some ⟨q, 0, none⟩)) (ts xs.length) from by rw [HXL.out, htx]; exact (HIN.out.below HBW.out).mono fun k hk _ => out_fresh HO0.out.2.1 HOK.out HOW.out (blk_lt HO0.out.1) (.inl hk))
              have HBS := HBW
              have hO_ := HO0.out
              have hu1 := cell_keep HBW.out _ _ H1.out
              subst huz
              clear hRB htx
              have HO_ := Aside0.mk hO_
              have c2_ : wr.cell? ⟨o, 2, none⟩ = some slv := by rw [blk_cell hO_.1]; rfl
              have HBO := Aside0.mk (show o + 1 ≤ wr.heap.size from blk_lt hO_.1)
              clear hO_
              go_wp2_with (first | (go_at_call 42; refine (HL.out _ (cell_keep HBW.out _ _ H1.out)).mono ?_; rintro e wz ⟨rfl, hw⟩; rw [hw]; clear hw wz) | ((with_reducible refine gate_builtin (b := .append) (xs := #[.tmp 60, .tmp 62]) rfl ?_); at_builtin; refine Kd.R_append kPtr (w0 := wr) (o + 1) rfl (.tmp 60) (.tmp 62) 56 38 (.pointer none) 8 rfl Try.underlying56 ptr_info rfl (by decide) (by omega) _ xs (some ⟨q, 0, none⟩) [.pointer (some ⟨q, 0, none⟩)] (fun k => k ≠ o) (fun _ => False) rfl rfl ?aP (fun _ hk => hk.elim) ?aF ?aO ?aB ?aS ?aL ?_; (case aP => exact rfl); (case aF => exact fun k hk => by have := HBO.out; omega); (case aO => exact HO_.out.2.1); (case aB => exact Below.refl _ _); (case aS => exact HBO.out); (case aL => have := HXL.out; have := HN.out; omega); intro v4 w21 ho hb4 hg4 hat4; have HST := Aside0.mk (out_step HO_.out ho hb4 hg4 hat4 HTQ.out); have HBX := Aside0.mk (out_low HBS.out HOW.out hb4 hg4 v4); obtain ⟨A4, c4, hv4, hle4, hC4⟩ := Kd.R_reads ho; have hx4 : ∃ m, v4 = .slice A4 m c4 := ⟨_, hv4⟩; clear hv4; obtain ⟨m4, hv4⟩ := hx4; subst hv4; have c3_ : w21.cell? ⟨o, 2, none⟩ = some slv := (by rw [blk_cell ((hb4.block o (Nat.lt_succ_self o)).trans HO_.out.1)]; rfl); have f3_ : w21.frozen? ⟨o, 2, none⟩ = false := blk_frozen ((hb4.block o (Nat.lt_succ_self o)).trans HO_.out.1) 2; clear ho hb4 hg4 hat4 hle4 hC4))
              go_roundg (gk - 1)
              case measure => have := HI.out; have := HH.out; omega
              case rel =>
                refine ⟨i + 1, _, _, ?_, ⟨by have := HI.out; have := HH.out; omega⟩, HST, ⟨by rw [List.length_append, List.length_singleton, HXL.out]⟩, HBX, ⟨fun j hj => ?_⟩⟩
                · have := HN.out; have := HH.out
                  have e1 : IntKind.i64.wrap ((i : Int) + 1) = ((i + 1 : Nat) : Int) := by rw [IntKind.wrap_i64]; omega
                  have e2 : wrap64 ((i : Int) + 1) = ((i + 1 : Nat) : Int) := by rw [wrap64]; omega
                  first | rfl | (rw [← e1]; done) | (rw [← e2]; done) | (simp [e1]; done) | (simp [e2]; done) | (show Value.int .i64 _ = _; rw [e1]; done) | (show Value.int .i64 _ = _; rw [e2])
                · by_cases hj2 : j < i
                  · exact HTS.out j hj2
                  · have : j = i := by omega
                    subst this; exact HRB.out
            · have HUZ := Aside0.mk huz
              have hu1 := cell_keep HBW.out _ _ H1.out
              have uz1 : (u == z) = false := by simp [huz]
              have uz2 : ([u] == [z]) = false := by simp [huz]
              have HFP := Aside0.mk (HFP0.out HI1.out)
              obtain ⟨g2, hg2_⟩ : ∃ g2 : Bool, g2 = decide (0 < Cu u) := ⟨_, rfl⟩
              have HG2 := Aside0.mk hg2_
              clear huz hg2_
              by_cases hp1 : 0 < C1 z
              · have HP1 := Aside0.mk hp1
                have HG1 := Aside0.mk (show decide (0 < C1 z) = true from by simp; omega)
                clear hp1
                go_wp2_with (go_at_call 42; refine (HL.out _ (cell_keep HBW.out _ _ H1.out)).mono ?_; rintro e wz ⟨rfl, hw⟩; rw [hw]; clear hw wz)
                refine region_phi4 (fun _ => true) (pphi12t p q uq n1 nu z u C1 Cu g2) [0, 1, 2, 3, 4, 5, 7, 34, 35, 36, 37, 38, 98, 11, 12, 13, 14, 15, 16, 17, 18, 19, 20, 21, 22, 23, 24, 25, 26, 27, 28, 29, 30, 31, 32, 33, 9, 39] [5] (by kernel_rfl) (by kernel_rfl) (by kernel_rfl) ?_ ?_ ⟨?_, ?_, ?_, ?_, ?_, ?_, ?_, ?_, ?_, ?_, ?_, ?_, ?_, ?_, ?_, trivial⟩ ?_
                · intro g hg v V h
                  simp only [List.mem_cons, List.not_mem_nil, or_false] at hg
                  subst hg
                  exact h
                · intro i v V V' hV
                  unfold pphi12t
                  split <;> first | exact id | (rintro ⟨B, e, hc⟩; exact ⟨B, e, fr_below hc hV⟩)
                · intro b_ V hdf hb hB ha
                  refine ⟨fun hg K hK => ?_, fun hg => absurd hg (by decide)⟩
                  have b9 : b_.eval (.tmp 9) = .pointer (some ⟨q, 0, none⟩) := (hb 9 (by decide)).trans rfl
                  clear ha hb hdf
                  simp only [Act.eval, Array.getD_eq_getD_getElem?] at b9
                  go_simp
                  exact hK _ _ (Below.refl _ V) rfl
                · intro b_ V hdf hb hB ha
                  refine ⟨fun hg K hK => ?_, fun hg => absurd hg (by decide)⟩
                  have e0 : b_.eval (.tmp 66) = .pointer (some ⟨q, 0, none⟩) := ha 0 66 rfl rfl
                  clear ha hb hdf
                  simp only [Act.eval, Array.getD_eq_getD_getElem?] at e0
                  go_simp
                  refine (HFP.out V (HBW.out.trans (hB.mono HBW.out.size))).mono ?_
                  intro e W2 hr
                  obtain ⟨B, he, hb1, hf, hb2⟩ := hr
                  subst he
                  exact hK _ _ hb2 ⟨B, rfl, hf⟩
                · intro b_ V hdf hb hB ha
                  refine ⟨fun hg K hK => ?_, fun hg => absurd hg (by decide)⟩
                  have b1 : b_.eval (.tmp 1) = .string (ch z) := (hb 1 (by decide)).trans rfl
                  clear ha hb hdf
                  simp only [Act.eval, Array.getD_eq_getD_getElem?] at b1
                  go_simp
                  exact hK _ _ (Below.refl _ V) rfl
                · intro b_ V hdf hb hB ha
                  refine ⟨fun hg K hK => ?_, fun hg => absurd hg (by decide)⟩
                  obtain ⟨B, e1, c1⟩ : ∃ B : Nat, b_.eval (.tmp 67) = .map (some B) ∧ FrAt V B n1 C1 := ha 1 67 rfl rfl
                  have e2 : b_.eval (.tmp 68) = .string (ch z) := ha 2 68 rfl rfl
                  clear ha hb hdf
                  simp only [Act.eval, Array.getD_eq_getD_getElem?] at e1 e2
                  have lk := fr_look c1 z
                  go_simp
                  exact hK _ _ (Below.refl _ V) rfl
                · intro b_ V hdf hb hB ha
                  refine ⟨fun hg K hK => ?_, fun hg => absurd hg (by decide)⟩
                  have e3 : b_.eval (.tmp 69) = .int .i64 (C1 z : Int) := ha 3 69 rfl rfl
                  clear ha hb hdf
                  simp only [Act.eval, Array.getD_eq_getD_getElem?] at e3
                  go_simp
                  refine hK _ _ (Below.refl _ V) ?_
                  show Value.bool _ = Value.bool _
                  congr 1; exact HG1.out
                · intro b_ V hdf hb hB ha
                  refine ⟨fun hg K hK => ?_, fun hg => absurd hg (by decide)⟩
                  have e4 : b_.eval (.tmp 70) = .bool true := ha 4 70 rfl rfl
                  clear ha hb hdf
                  simp only [Act.eval, Array.getD_eq_getD_getElem?] at e4
                  go_simp
                  exact hK _ _ (Below.refl _ V) rfl
                · intro b_ V hdf hb hB ha
                  refine ⟨fun hg K hK => ?_, fun hg => absurd hg (by decide)⟩
                  have b2 : b_.eval (.tmp 2) = .pointer (some ⟨uq, 0, none⟩) := (hb 2 (by decide)).trans rfl
                  clear ha hb hdf
                  simp only [Act.eval, Array.getD_eq_getD_getElem?] at b2
                  go_simp
                  exact hK _ _ (Below.refl _ V) rfl
                · intro b_ V hdf hb hB ha
                  refine ⟨fun hg K hK => ?_, fun hg => absurd hg (by decide)⟩
                  have e6 : b_.eval (.tmp 72) = .pointer (some ⟨uq, 0, none⟩) := ha 6 72 rfl rfl
                  clear ha hb hdf
                  simp only [Act.eval, Array.getD_eq_getD_getElem?] at e6
                  go_simp
                  refine (HFU.out V (HBW.out.trans (hB.mono HBW.out.size))).mono ?_
                  intro e W2 hr
                  obtain ⟨B, he, hb1, hf, hb2⟩ := hr
                  subst he
                  exact hK _ _ hb2 ⟨B, rfl, hf⟩
                · intro b_ V hdf hb hB ha
                  refine ⟨fun hg K hK => ?_, fun hg => absurd hg (by decide)⟩
                  have b0 : b_.eval (.tmp 0) = .pointer (some ⟨p, 0, none⟩) := (hb 0 (by decide)).trans rfl
                  clear ha hb hdf
                  simp only [Act.eval, Array.getD_eq_getD_getElem?] at b0
                  go_simp
                  exact hK _ _ (Below.refl _ V) rfl
                · intro b_ V hdf hb hB ha
                  refine ⟨fun hg K hK => ?_, fun hg => absurd hg (by decide)⟩
                  have e8 : b_.eval (.tmp 74) = .pointer (some ⟨p, 0, none⟩) := ha 8 74 rfl rfl
                  clear ha hb hdf
                  simp only [Act.eval, Array.getD_eq_getD_getElem?] at e8
                  go_simp
                  exact hK _ _ (Below.refl _ V) rfl
                · intro b_ V hdf hb hB ha
                  refine ⟨fun hg K hK => ?_, fun hg => absurd hg (by decide)⟩
                  have e9 : b_.eval (.tmp 75) = .pointer (some ⟨p, 0, none⟩) := ha 9 75 rfl rfl
                  clear ha hb hdf
                  simp only [Act.eval, Array.getD_eq_getD_getElem?] at e9
                  go_simp
                  exact hK _ _ (Below.refl _ V) rfl
                · intro b_ V hdf hb hB ha
                  refine ⟨fun hg K hK => ?_, fun hg => absurd hg (by decide)⟩
                  have e10 : b_.eval (.tmp 76) = .pointer (some ⟨p, 1, none⟩) := ha 10 76 rfl rfl
                  have xhu1 := cell_keep hB _ _ hu1
                  clear ha hb hdf
                  simp only [Act.eval, Array.getD_eq_getD_getElem?] at e10
                  go_simp
                  exact hK _ _ (Below.refl _ V) rfl
                · intro b_ V hdf hb hB ha
                  refine ⟨fun hg K hK => ?_, fun hg => absurd hg (by decide)⟩
                  obtain ⟨B, e7, c7⟩ : ∃ B : Nat, b_.eval (.tmp 73) = .map (some B) ∧ FrAt V B nu Cu := ha 7 73 rfl rfl
                  have e11 : b_.eval (.tmp 77) = .string (ch u) := ha 11 77 rfl rfl
                  clear ha hb hdf
                  simp only [Act.eval, Array.getD_eq_getD_getElem?] at e7 e11
                  have lk := fr_look c7 u
                  go_simp
                  exact hK _ _ (Below.refl _ V) rfl
                · intro b_ V hdf hb hB ha
                  refine ⟨fun hg K hK => ?_, fun hg => absurd hg (by decide)⟩
                  have e12 : b_.eval (.tmp 78) = .int .i64 (Cu u : Int) := ha 12 78 rfl rfl
                  clear ha hb hdf
                  simp only [Act.eval, Array.getD_eq_getD_getElem?] at e12
                  go_simp
                  refine hK _ _ (Below.refl _ V) ?_
                  show Value.bool _ = Value.bool g2
                  congr 1; exact HG2.out.symm
                · intro b_ V hdf hb hB ha
                  refine ⟨fun hg K hK => ?_, fun hg => absurd hg (by decide)⟩
                  have e5 : b_.eval (.tmp 71) = .bool true := ha 5 71 rfl rfl
                  have e13 : b_.eval (.tmp 79) = .bool g2 := ha 13 79 rfl rfl
                  clear ha hb hdf
                  simp only [Act.eval, Array.getD_eq_getD_getElem?] at e5 e13
                  go_simp
                  refine hK _ _ (Below.refl _ V) ?_
                  show Value.bool _ = Value.bool g2
                  first | rfl | simp
                · intro b_ V hdf hsz hb hB ha
                  have HBV := Aside0.mk (HBW.out.trans (hB.mono HBW.out.size))
                  have HOV := Aside0.mk (out_below HO0.out hB)
                  have hsz' : b_.tmps.size = 99 := hsz.trans rfl
                  have hdf' : b_.defers = [] := hdf.trans rfl
                  obtain ⟨g_, hf_, hlit_⟩ := act_lit b_ 99 hsz' hdf'
                  have ef80 : g_ 80 = .bool g2 := (hf_ 80).trans (ha 14 80 rfl)
                  have ef0 : g_ 0 = .pointer (some ⟨p, 0, none⟩) := (hf_ 0).trans ((hb 0 (by decide)).trans rfl)
                  have ef1 : g_ 1 = .string (ch z) := (hf_ 1).trans ((hb 1 (by decide)).trans rfl)
                  have ef2 : g_ 2 = .pointer (some ⟨uq, 0, none⟩) := (hf_ 2).trans ((hb 2 (by decide)).trans rfl)
                  have ef3 : g_ 3 = undef := (hf_ 3).trans ((hb 3 (by decide)).trans rfl)
                  have ef4 : g_ 4 = undef := (hf_ 4).trans ((hb 4 (by decide)).trans rfl)
                  have ef5 : g_ 5 = undef := (hf_ 5).trans ((hb 5 (by decide)).trans rfl)
                  have ef7 : g_ 7 = .pointer (some ⟨o, 0, none⟩) := (hf_ 7).trans ((hb 7 (by decide)).trans rfl)
                  have ef34 : g_ 34 = .pointer (some ⟨p, 0, none⟩) := (hf_ 34).trans ((hb 34 (by decide)).trans rfl)
                  have ef35 : g_ 35 = .pointer (some ⟨p, 0, none⟩) := (hf_ 35).trans ((hb 35 (by decide)).trans rfl)
                  have ef36 : g_ 36 = .pointer (some ⟨p, 2, none⟩) := (hf_ 36).trans ((hb 36 (by decide)).trans rfl)
                  have ef37 : g_ 37 = .slice (some ⟨a, 0, none⟩) n k := (hf_ 37).trans ((hb 37 (by decide)).trans rfl)
                  have ef38 : g_ 38 = .int .i64 (n : Int) := (hf_ 38).trans ((hb 38 (by decide)).trans rfl)
                  have ef98 : g_ 98 = f_ 98 := (hf_ 98).trans ((hb 98 (by decide)).trans rfl)
                  have ef11 : g_ 11 = f_ 11 := (hf_ 11).trans ((hb 11 (by decide)).trans rfl)
                  have ef12 : g_ 12 = f_ 12 := (hf_ 12).trans ((hb 12 (by decide)).trans rfl)
                  have ef13 : g_ 13 = f_ 13 := (hf_ 13).trans ((hb 13 (by decide)).trans rfl)
                  have ef14 : g_ 14 = f_ 14 := (hf_ 14).trans ((hb 14 (by decide)).trans rfl)
                  have ef15 : g_ 15 = f_ 15 := (hf_ 15).trans ((hb 15 (by decide)).trans rfl)
                  have ef16 : g_ 16 = f_ 16 := (hf_ 16).trans ((hb 16 (by decide)).trans rfl)
                  have ef17 : g_ 17 = f_ 17 := (hf_ 17).trans ((hb 17 (by decide)).trans rfl)
                  have ef18 : g_ 18 = f_ 18 := (hf_ 18).trans ((hb 18 (by decide)).trans rfl)
                  have ef19 : g_ 19 = f_ 19 := (hf_ 19).trans ((hb 19 (by decide)).trans rfl)
                  have ef20 : g_ 20 = f_ 20 := (hf_ 20).trans ((hb 20 (by decide)).trans rfl)
                  have ef21 : g_ 21 = f_ 21 := (hf_ 21).trans ((hb 21 (by decide)).trans rfl)
                  have ef22 : g_ 22 = f_ 22 := (hf_ 22).trans ((hb 22 (by decide)).trans rfl)
                  have ef23 : g_ 23 = f_ 23 := (hf_ 23).trans ((hb 23 (by decide)).trans rfl)
                  have ef24 : g_ 24 = f_ 24 := (hf_ 24).trans ((hb 24 (by decide)).trans rfl)
                  have ef25 : g_ 25 = f_ 25 := (hf_ 25).trans ((hb 25 (by decide)).trans rfl)
                  have ef26 : g_ 26 = f_ 26 := (hf_ 26).trans ((hb 26 (by decide)).trans rfl)
                  have ef27 : g_ 27 = f_ 27 := (hf_ 27).trans ((hb 27 (by decide)).trans rfl)
                  have ef28 : g_ 28 = f_ 28 := (hf_ 28).trans ((hb 28 (by decide)).trans rfl)
                  have ef29 : g_ 29 = f_ 29 := (hf_ 29).trans ((hb 29 (by decide)).trans rfl)
                  have ef30 : g_ 30 = f_ 30 := (hf_ 30).trans ((hb 30 (by decide)).trans rfl)
                  have ef31 : g_ 31 = f_ 31 := (hf_ 31).trans ((hb 31 (by decide)).trans rfl)
                  have ef32 : g_ 32 = f_ 32 := (hf_ 32).trans ((hb 32 (by decide)).trans rfl)
                  have ef33 : g_ 33 = f_ 33 := (hf_ 33).trans ((hb 33 (by decide)).trans rfl)
                  have ef9 : g_ 9 = .pointer (some ⟨q, 0, none⟩) := (hf_ 9).trans ((hb 9 (by decide)).trans rfl)
                  have ef39 : g_ 39 = .int .i64 (i : Int) := (hf_ 39).trans ((hb 39 (by decide)).trans rfl)
                  simp only [show List.range 99 = [0, 1, 2, 3, 4, 5, 6, 7, 8, 9, 10, 11, 12, 13, 14, 15, 16, 17, 18, 19, 20, 21, 22, 23, 24, 25, 26, 27, 28, 29, 30, 31, 32, 33, 34, 35, 36, 37, 38, 39, 40, 41, 42, 43, 44, 45, 46, 47, 48, 49, 50, 51, 52, 53, 54, 55, 56, 57, 58, 59, 60, 61, 62, 63, 64, 65, 66, 67, 68, 69, 70, 71, 72, 73, 74, 75, 76, 77, 78, 79, 80, 81, 82, 83, 84, 85, 86, 87, 88, 89, 90, 91, 92, 93, 94, 95, 96, 97, 98] from rfl, List.map_cons, List.map_nil, ef80, ef0, ef1, ef2, ef3, ef4, ef5, ef7, ef34, ef35, ef36, ef37, ef38, ef98, ef11, ef12, ef13, ef14, ef15, ef16, ef17, ef18, ef19, ef20, ef21, ef22, ef23, ef24, ef25, ef26, ef27, ef28, ef29, ef30, ef31, ef32, ef33, ef9, ef39] at hlit_
                  clear ha hb hf_ hsz hdf hsz' hdf' ef80 ef0 ef1 ef2 ef3 ef4 ef5 ef7 ef34 ef35 ef36 ef37 ef38 ef98 ef11 ef12 ef13 ef14 ef15 ef16 ef17 ef18 ef19 ef20 ef21 ef22 ef23 ef24 ef25 ef26 ef27 ef28 ef29 ef30 ef31 ef32 ef33 ef9 ef39
                  subst hlit_
                  clear hB
                  cases hg2 : g2 with
                  | true =>
                    have HRC := Aside0.mk (HC1.out (by first | rfl | trivial) HUZ.out ⟨HP1.out, by have := HG2.out; rw [hg2] at this; have := of_decide_eq_true this.symm; omega⟩)
                    go_wp2
                    go_ret
                    exact ⟨_, rfl, .inl ⟨1, by have := HH.out; have := HI1.out; omega, HRC.out, rfl⟩, HBV.out⟩
                  | false =>
                    have HRES := Aside0.mk (show res i = rs i from by rw [HI1.out]; exact HC2.out (by first | rfl | trivial) HUZ.out (fun h => by have := HG2.out; rw [hg2] at this; have := of_decide_eq_false this.symm; omega))
                    go_wp2_with fail
                    refine (HCP.out V HBV.out).mono ?_
                    rintro e w2 ⟨v', rfl, hpost, hb2⟩
                    have hO_ := out_below HOV.out hb2
                    have HBS := Aside0.mk (HBV.out.trans (hb2.mono HBV.out.size))
                    rcases hpost with ⟨hrn, rfl⟩ | ⟨t', hrs, htin⟩
                    · have HRN := Aside0.mk hrn
                      clear hb2 hO_ hrn
                      go_wp2
                      go_ret
                      exact ⟨_, rfl, .inl ⟨i, HH.out, by rw [HRES.out]; exact HRN.out, rfl⟩, HBS.out⟩
                    · obtain ⟨qq, rfl⟩ := tm_ptr0 htin.at
                      have htq := htin.mono (ok' := fun k => k ≠ o ∧ some k ≠ slv.ownBlock ∧ (ok k ∨ o < k)) (fun k hk _ => out_fresh HOV.out.2.1 HOK.out HOW.out (blk_lt HOV.out.1) hk)
                      have HRT := Aside0.mk hrs
                      have htt : ts i = t' := HTSR.out i t' rfl (by rw [HRES.out, hrs])
                      have HTQ := Aside0.mk (show TmIn w2 (fun k => k ≠ o ∧ some k ≠ slv.ownBlock ∧ (ok k ∨ o < k)) (.pointer (some ⟨qq, 0, none⟩)) (ts xs.length) from by rw [HXL.out, htt]; exact htq)
                      have HTT := Aside0.mk htt
                      clear hb2 htq hrs htin htt
                      have HO_ := Aside0.mk hO_
                      have c2_ : w2.cell? ⟨o, 2, none⟩ = some slv := by rw [blk_cell hO_.1]; rfl
                      have HBO := Aside0.mk (show o + 1 ≤ w2.heap.size from blk_lt hO_.1)
                      clear hO_
                      go_wp2_with (first | ((with_reducible refine gate_builtin (b := .append) (xs := #[.tmp 91, .tmp 93]) rfl ?_); at_builtin; refine Kd.R_append kPtr (w0 := w2) (o + 1) rfl (.tmp 91) (.tmp 93) 56 38 (.pointer none) 8 rfl Try.underlying56 ptr_info rfl (by decide) (by omega) _ xs (some ⟨qq, 0, none⟩) [.pointer (some ⟨qq, 0, none⟩)] (fun k => k ≠ o) (fun _ => False) rfl rfl ?aP (fun _ hk => hk.elim) ?aF ?aO ?aB ?aS ?aL ?_; (case aP => exact rfl); (case aF => exact fun k hk => by have := HBO.out; omega); (case aO => exact HO_.out.2.1); (case aB => exact Below.refl _ _); (case aS => exact HBO.out); (case aL => have := HXL.out; have := HN.out; omega); intro v4 w21 ho hb4 hg4 hat4; have HST := Aside0.mk (out_step HO_.out ho hb4 hg4 hat4 HTQ.out); have HBX := Aside0.mk (out_low HBS.out HOW.out hb4 hg4 v4); obtain ⟨A4, c4, hv4, hle4, hC4⟩ := Kd.R_reads ho; have hx4 : ∃ m, v4 = .slice A4 m c4 := ⟨_, hv4⟩; clear hv4; obtain ⟨m4, hv4⟩ := hx4; subst hv4; have c3_ : w21.cell? ⟨o, 2, none⟩ = some slv := (by rw [blk_cell ((hb4.block o (Nat.lt_succ_self o)).trans HO_.out.1)]; rfl); have f3_ : w21.frozen? ⟨o, 2, none⟩ = false := blk_frozen ((hb4.block o (Nat.lt_succ_self o)).trans HO_.out.1) 2; clear ho hb4 hg4 hat4 hle4 hC4))
                      go_roundg (gk - 1)
                      case measure => have := HI.out; have := HH.out; omega
                      case rel =>
                        refine ⟨i + 1, _, _, ?_, ⟨by have := HI.out; have := HH.out; omega⟩, HST, ⟨by rw [List.length_append, List.length_singleton, HXL.out]⟩, HBX, ⟨fun j hj => ?_⟩⟩
                        · have := HN.out; have := HH.out
                          have e1 : IntKind.i64.wrap ((i : Int) + 1) = ((i + 1 : Nat) : Int) := by rw [IntKind.wrap_i64]; omega
                          have e2 : wrap64 ((i : Int) + 1) = ((i + 1 : Nat) : Int) := by rw [wrap64]; omega
                          first | rfl | (rw [← e1]; done) | (rw [← e2]; done) | (simp [e1]; done) | (simp [e2]; done) | (show Value.int .i64 _ = _; rw [e1]; done) | (show Value.int .i64 _ = _; rw [e2])
                        · by_cases hj2 : j < i
                          · exact HTS.out j hj2
                          · have : j = i := by omega
                            subst this; exact (by rw [HRES.out, HTT.out]; exact HRT.out)
              · have HP1 := Aside0.mk hp1
                have HG1 := Aside0.mk (show decide (0 < C1 z) = false from by simp; omega)
                clear hp1
                go_wp2_with (go_at_call 42; refine (HL.out _ (cell_keep HBW.out _ _ H1.out)).mono ?_; rintro e wz ⟨rfl, hw⟩; rw [hw]; clear hw wz)
                refine region_phi4 (fun _ => false) (pphi12f p q uq n1 nu z u C1 Cu g2) [0, 1, 2, 3, 4, 5, 7, 34, 35, 36, 37, 38, 98, 11, 12, 13, 14, 15, 16, 17, 18, 19, 20, 21, 22, 23, 24, 25, 26, 27, 28, 29, 30, 31, 32, 33, 9, 39] [5] (by kernel_rfl) (by kernel_rfl) (by kernel_rfl) ?_ ?_ ⟨?_, ?_, ?_, ?_, ?_, ?_, ?_, ?_, ?_, ?_, ?_, ?_, ?_, ?_, ?_, trivial⟩ ?_
                · intro g hg v V h
                  simp only [List.mem_cons, List.not_mem_nil, or_false] at hg
                  subst hg
                  exact h
                · intro i v V V' hV
                  unfold pphi12f
                  split <;> first | exact id | (rintro ⟨B, e, hc⟩; exact ⟨B, e, fr_below hc hV⟩)
                · intro b_ V hdf hb hB ha
                  refine ⟨fun hg K hK => ?_, fun hg => absurd hg (by decide)⟩
                  have b9 : b_.eval (.tmp 9) = .pointer (some ⟨q, 0, none⟩) := (hb 9 (by decide)).trans rfl
                  clear ha hb hdf
                  simp only [Act.eval, Array.getD_eq_getD_getElem?] at b9
                  go_simp
                  exact hK _ _ (Below.refl _ V) rfl
                · intro b_ V hdf hb hB ha
                  refine ⟨fun hg K hK => ?_, fun hg => absurd hg (by decide)⟩
                  have e0 : b_.eval (.tmp 66) = .pointer (some ⟨q, 0, none⟩) := ha 0 66 rfl rfl
                  clear ha hb hdf
                  simp only [Act.eval, Array.getD_eq_getD_getElem?] at e0
                  go_simp
                  refine (HFP.out V (HBW.out.trans (hB.mono HBW.out.size))).mono ?_
                  intro e W2 hr
                  obtain ⟨B, he, hb1, hf, hb2⟩ := hr
                  subst he
                  exact hK _ _ hb2 ⟨B, rfl, hf⟩
                · intro b_ V hdf hb hB ha
                  refine ⟨fun hg K hK => ?_, fun hg => absurd hg (by decide)⟩
                  have b1 : b_.eval (.tmp 1) = .string (ch z) := (hb 1 (by decide)).trans rfl
                  clear ha hb hdf
                  simp only [Act.eval, Array.getD_eq_getD_getElem?] at b1
                  go_simp
                  exact hK _ _ (Below.refl _ V) rfl
                · intro b_ V hdf hb hB ha
                  refine ⟨fun hg K hK => ?_, fun hg => absurd hg (by decide)⟩
                  obtain ⟨B, e1, c1⟩ : ∃ B : Nat, b_.eval (.tmp 67) = .map (some B) ∧ FrAt V B n1 C1 := ha 1 67 rfl rfl
                  have e2 : b_.eval (.tmp 68) = .string (ch z) := ha 2 68 rfl rfl
                  clear ha hb hdf
                  simp only [Act.eval, Array.getD_eq_getD_getElem?] at e1 e2
                  have lk := fr_look c1 z
                  go_simp
                  exact hK _ _ (Below.refl _ V) rfl
                · intro b_ V hdf hb hB ha
                  refine ⟨fun hg K hK => ?_, fun hg => absurd hg (by decide)⟩
                  have e3 : b_.eval (.tmp 69) = .int .i64 (C1 z : Int) := ha 3 69 rfl rfl
                  clear ha hb hdf
                  simp only [Act.eval, Array.getD_eq_getD_getElem?] at e3
                  go_simp
                  refine hK _ _ (Below.refl _ V) ?_
                  show Value.bool _ = Value.bool _
                  congr 1; exact HG1.out
                · intro b_ V hdf hb hB ha
                  refine ⟨fun hg K hK => ?_, fun hg => absurd hg (by decide)⟩
                  have e4 : b_.eval (.tmp 70) = .bool false := ha 4 70 rfl rfl
                  clear ha hb hdf
                  simp only [Act.eval, Array.getD_eq_getD_getElem?] at e4
                  go_simp
                  exact hK _ _ (Below.refl _ V) rfl
                · intro b_ V hdf hb hB ha
                  exact ⟨fun hg => absurd hg (by decide), fun _ => trivial⟩
                · intro b_ V hdf hb hB ha
                  exact ⟨fun hg => absurd hg (by decide), fun _ => trivial⟩
                · intro b_ V hdf hb hB ha
                  exact ⟨fun hg => absurd hg (by decide), fun _ => trivial⟩
                · intro b_ V hdf hb hB ha
                  exact ⟨fun hg => absurd hg (by decide), fun _ => trivial⟩
                · intro b_ V hdf hb hB ha
                  exact ⟨fun hg => absurd hg (by decide), fun _ => trivial⟩
                · intro b_ V hdf hb hB ha
                  exact ⟨fun hg => absurd hg (by decide), fun _ => trivial⟩
                · intro b_ V hdf hb hB ha
                  exact ⟨fun hg => absurd hg (by decide), fun _ => trivial⟩
                · intro b_ V hdf hb hB ha
                  exact ⟨fun hg => absurd hg (by decide), fun _ => trivial⟩
                · intro b_ V hdf hb hB ha
                  refine ⟨fun hg K hK => ?_, fun hg => absurd hg (by decide)⟩
                  have e5 : b_.eval (.tmp 71) = .bool false := ha 5 71 rfl rfl
                  clear ha hb hdf
                  simp only [Act.eval, Array.getD_eq_getD_getElem?] at e5
                  go_simp
                  refine hK _ _ (Below.refl _ V) ?_
                  show Value.bool _ = Value.bool false
                  first | rfl | simp
                · intro b_ V hdf hsz hb hB ha
                  have HBV := Aside0.mk (HBW.out.trans (hB.mono HBW.out.size))
                  have HOV := Aside0.mk (out_below HO0.out hB)
                  have hsz' : b_.tmps.size = 99 := hsz.trans rfl
                  have hdf' : b_.defers = [] := hdf.trans rfl
                  obtain ⟨g_, hf_, hlit_⟩ := act_lit b_ 99 hsz' hdf'
                  have ef80 : g_ 80 = .bool false := (hf_ 80).trans (ha 14 80 rfl)
                  have ef0 : g_ 0 = .pointer (some ⟨p, 0, none⟩) := (hf_ 0).trans ((hb 0 (by decide)).trans rfl)
                  have ef1 : g_ 1 = .string (ch z) := (hf_ 1).trans ((hb 1 (by decide)).trans rfl)
                  have ef2 : g_ 2 = .pointer (some ⟨uq, 0, none⟩) := (hf_ 2).trans ((hb 2 (by decide)).trans rfl)
                  have ef3 : g_ 3 = undef := (hf_ 3).trans ((hb 3 (by decide)).trans rfl)
                  have ef4 : g_ 4 = undef := (hf_ 4).trans ((hb 4 (by decide)).trans rfl)
                  have ef5 : g_ 5 = undef := (hf_ 5).trans ((hb 5 (by decide)).trans rfl)
                  have ef7 : g_ 7 = .pointer (some ⟨o, 0, none⟩) := (hf_ 7).trans ((hb 7 (by decide)).trans rfl)
                  have ef34 : g_ 34 = .pointer (some ⟨p, 0, none⟩) := (hf_ 34).trans ((hb 34 (by decide)).trans rfl)
                  have ef35 : g_ 35 = .pointer (some ⟨p, 0, none⟩) := (hf_ 35).trans ((hb 35 (by decide)).trans rfl)
                  have ef36 : g_ 36 = .pointer (some ⟨p, 2, none⟩) := (hf_ 36).trans ((hb 36 (by decide)).trans rfl)
                  have ef37 : g_ 37 = .slice (some ⟨a, 0, none⟩) n k := (hf_ 37).trans ((hb 37 (by decide)).trans rfl)
                  have ef38 : g_ 38 = .int .i64 (n : Int) := (hf_ 38).trans ((hb 38 (by decide)).trans rfl)
                  have ef98 : g_ 98 = f_ 98 := (hf_ 98).trans ((hb 98 (by decide)).trans rfl)
                  have ef11 : g_ 11 = f_ 11 := (hf_ 11).trans ((hb 11 (by decide)).trans rfl)
                  have ef12 : g_ 12 = f_ 12 := (hf_ 12).trans ((hb 12 (by decide)).trans rfl)
                  have ef13 : g_ 13 = f_ 13 := (hf_ 13).trans ((hb 13 (by decide)).trans rfl)
                  have ef14 : g_ 14 = f_ 14 := (hf_ 14).trans ((hb 14 (by decide)).trans rfl)
                  have ef15 : g_ 15 = f_ 15 := (hf_ 15).trans ((hb 15 (by decide)).trans rfl)
                  have ef16 : g_ 16 = f_ 16 := (hf_ 16).trans ((hb 16 (by decide)).trans rfl)
                  have ef17 : g_ 17 = f_ 17 := (hf_ 17).trans ((hb 17 (by decide)).trans rfl)
                  have ef18 : g_ 18 = f_ 18 := (hf_ 18).trans ((hb 18 (by decide)).trans rfl)
                  have ef19 : g_ 19 = f_ 19 := (hf_ 19).trans ((hb 19 (by decide)).trans rfl)
                  have ef20 : g_ 20 = f_ 20 := (hf_ 20).trans ((hb 20 (by decide)).trans rfl)
                  have ef21 : g_ 21 = f_ 21 := (hf_ 21).trans ((hb 21 (by decide)).trans rfl)
                  have ef22 : g_ 22 = f_ 22 := (hf_ 22).trans ((hb 22 (by decide)).trans rfl)
                  have ef23 : g_ 23 = f_ 23 := (hf_ 23).trans ((hb 23 (by decide)).trans rfl)
                  have ef24 : g_ 24 = f_ 24 := (hf_ 24).trans ((hb 24 (by decide)).trans rfl)
                  have ef25 : g_ 25 = f_ 25 := (hf_ 25).trans ((hb 25 (by decide)).trans rfl)
                  have ef26 : g_ 26 = f_ 26 := (hf_ 26).trans ((hb 26 (by decide)).trans rfl)
                  have ef27 : g_ 27 = f_ 27 := (hf_ 27).trans ((hb 27 (by decide)).trans rfl)
                  have ef28 : g_ 28 = f_ 28 := (hf_ 28).trans ((hb 28 (by decide)).trans rfl)
                  have ef29 : g_ 29 = f_ 29 := (hf_ 29).trans ((hb 29 (by decide)).trans rfl)
                  have ef30 : g_ 30 = f_ 30 := (hf_ 30).trans ((hb 30 (by decide)).trans rfl)
                  have ef31 : g_ 31 = f_ 31 := (hf_ 31).trans ((hb 31 (by decide)).trans rfl)
                  have ef32 : g_ 32 = f_ 32 := (hf_ 32).trans ((hb 32 (by decide)).trans rfl)
                  have ef33 : g_ 33 = f_ 33 := (hf_ 33).trans ((hb 33 (by decide)).trans rfl)
                  have ef9 : g_ 9 = .pointer (some ⟨q, 0, none⟩) := (hf_ 9).trans ((hb 9 (by decide)).trans rfl)
                  have ef39 : g_ 39 = .int .i64 (i : Int) := (hf_ 39).trans ((hb 39 (by decide)).trans rfl)
                  simp only [show List.range 99 = [0, 1, 2, 3, 4, 5, 6, 7, 8, 9, 10, 11, 12, 13, 14, 15, 16, 17, 18, 19, 20, 21, 22, 23, 24, 25, 26, 27, 28, 29, 30, 31, 32, 33, 34, 35, 36, 37, 38, 39, 40, 41, 42, 43, 44, 45, 46, 47, 48, 49, 50, 51, 52, 53, 54, 55, 56, 57, 58, 59, 60, 61, 62, 63, 64, 65, 66, 67, 68, 69, 70, 71, 72, 73, 74, 75, 76, 77, 78, 79, 80, 81, 82, 83, 84, 85, 86, 87, 88, 89, 90, 91, 92, 93, 94, 95, 96, 97, 98] from rfl, List.map_cons, List.map_nil, ef80, ef0, ef1, ef2, ef3, ef4, ef5, ef7, ef34, ef35, ef36, ef37, ef38, ef98, ef11, ef12, ef13, ef14, ef15, ef16, ef17, ef18, ef19, ef20, ef21, ef22, ef23, ef24, ef25, ef26, ef27, ef28, ef29, ef30, ef31, ef32, ef33, ef9, ef39] at hlit_
                  clear ha hb hf_ hsz hdf hsz' hdf' ef80 ef0 ef1 ef2 ef3 ef4 ef5 ef7 ef34 ef35 ef36 ef37 ef38 ef98 ef11 ef12 ef13 ef14 ef15 ef16 ef17 ef18 ef19 ef20 ef21 ef22 ef23 ef24 ef25 ef26 ef27 ef28 ef29 ef30 ef31 ef32 ef33 ef9 ef39
                  subst hlit_
                  clear hB
                  have HRES := Aside0.mk (show res i = rs i from by rw [HI1.out]; exact HC2.out (by first | rfl | trivial) HUZ.out (fun h => HP1.out h.1))
                  go_wp2_with fail
                  refine (HCP.out V HBV.out).mono ?_
                  rintro e w2 ⟨v', rfl, hpost, hb2⟩
                  have hO_ := out_below HOV.out hb2
                  have HBS := Aside0.mk (HBV.out.trans (hb2.mono HBV.out.size))
                  rcases hpost with ⟨hrn, rfl⟩ | ⟨t', hrs, htin⟩
                  · have HRN := Aside0.mk hrn
                    clear hb2 hO_ hrn
                    go_wp2
                    go_ret
                    exact ⟨_, rfl, .inl ⟨i, HH.out, by rw [HRES.out]; exact HRN.out, rfl⟩, HBS.out⟩
                  · obtain ⟨qq, rfl⟩ := tm_ptr0 htin.at
                    have htq := htin.mono (ok' := fun k => k ≠ o ∧ some k ≠ slv.ownBlock ∧ (ok k ∨ o < k)) (fun k hk _ => out_fresh HOV.out.2.1 HOK.out HOW.out (blk_lt HOV.out.1) hk)
                    have HRT := Aside0.mk hrs
                    have htt : ts i = t' := HTSR.out i t' rfl (by rw [HRES.out, hrs])
                    have HTQ := Aside0.mk (show TmIn w2 (fun k => k ≠ o ∧ some k ≠ slv.ownBlock ∧ (ok k ∨ o < k)) (.pointer (some ⟨qq, 0, none⟩)) (ts xs.length) from by rw [HXL.out, htt]; exact htq)
                    have HTT := Aside0.mk htt
                    clear hb2 htq hrs htin htt
                    have HO_ := Aside0.mk hO_
                    have c2_ : w2.cell? ⟨o, 2, none⟩ = some slv := by rw [blk_cell hO_.1]; rfl
                    have HBO := Aside0.mk (show o + 1 ≤ w2.heap.size from blk_lt hO_.1)
                    clear hO_
                    go_wp2_with (first | ((with_reducible refine gate_builtin (b := .append) (xs := #[.tmp 91, .tmp 93]) rfl ?_); at_builtin; refine Kd.R_append kPtr (w0 := w2) (o + 1) rfl (.tmp 91) (.tmp 93) 56 38 (.pointer none) 8 rfl Try.underlying56 ptr_info rfl (by decide) (by omega) _ xs (some ⟨qq, 0, none⟩) [.pointer (some ⟨qq, 0, none⟩)] (fun k => k ≠ o) (fun _ => False) rfl rfl ?aP (fun _ hk => hk.elim) ?aF ?aO ?aB ?aS ?aL ?_; (case aP => exact rfl); (case aF => exact fun k hk => by have := HBO.out; omega); (case aO => exact HO_.out.2.1); (case aB => exact Below.refl _ _); (case aS => exact HBO.out); (case aL => have := HXL.out; have := HN.out; omega); intro v4 w21 ho hb4 hg4 hat4; have HST := Aside0.mk (out_step HO_.out ho hb4 hg4 hat4 HTQ.out); have HBX := Aside0.mk (out_low HBS.out HOW.out hb4 hg4 v4); obtain ⟨A4, c4, hv4, hle4, hC4⟩ := Kd.R_reads ho; have hx4 : ∃ m, v4 = .slice A4 m c4 := ⟨_, hv4⟩; clear hv4; obtain ⟨m4, hv4⟩ := hx4; subst hv4; have c3_ : w21.cell? ⟨o, 2, none⟩ = some slv := (by rw [blk_cell ((hb4.block o (Nat.lt_succ_self o)).trans HO_.out.1)]; rfl); have f3_ : w21.frozen? ⟨o, 2, none⟩ = false := blk_frozen ((hb4.block o (Nat.lt_succ_self o)).trans HO_.out.1) 2; clear ho hb4 hg4 hat4 hle4 hC4))
                    go_roundg (gk - 1)
                    case measure => have := HI.out; have := HH.out; omega
                    case rel =>
                      refine ⟨i + 1, _, _, ?_, ⟨by have := HI.out; have := HH.out; omega⟩, HST, ⟨by rw [List.length_append, List.length_singleton, HXL.out]⟩, HBX, ⟨fun j hj => ?_⟩⟩
                      · have := HN.out; have := HH.out
                        have e1 : IntKind.i64.wrap ((i : Int) + 1) = ((i + 1 : Nat) : Int) := by rw [IntKind.wrap_i64]; omega
                        have e2 : wrap64 ((i : Int) + 1) = ((i + 1 : Nat) : Int) := by rw [wrap64]; omega
                        first | rfl | (rw [← e1]; done) | (rw [← e2]; done) | (simp [e1]; done) | (simp [e2]; done) | (show Value.int .i64 _ = _; rw [e1]; done) | (show Value.int .i64 _ = _; rw [e2])
                      · by_cases hj2 : j < i
                        · exact HTS.out j hj2
                        · have : j = i := by omega
                          subst this; exact (by rw [HRES.out, HTT.out]; exact HRT.out)
        · have q1 : ((i : Int) == 1) = false := by simp; omega
          have HRES := Aside0.mk (HRES0.out i HH.out (.inl i1))
          clear i1
          go_wp2_with fail
          refine (HCP.out wr HBW.out).mono ?_
          rintro e w2 ⟨v', rfl, hpost, hb2⟩
          have hO_ := out_below HO0.out hb2
          have HBS := Aside0.mk (HBW.out.trans (hb2.mono HBW.out.size))
          rcases hpost with ⟨hrn, rfl⟩ | ⟨t', hrs, htin⟩
          · have HRN := Aside0.mk hrn
            clear hb2 hO_ hrn
            go_wp2
            go_ret
            exact ⟨_, rfl, .inl ⟨i, HH.out, by rw [HRES.out]; exact HRN.out, rfl⟩, HBS.out⟩
          · obtain ⟨qq, rfl⟩ := tm_ptr0 htin.at
            have htq := htin.mono (ok' := fun k => k ≠ o ∧ some k ≠ slv.ownBlock ∧ (ok k ∨ o < k)) (fun k hk _ => out_fresh HO0.out.2.1 HOK.out HOW.out (blk_lt HO0.out.1) hk)
            have HRT := Aside0.mk hrs
            have htt : ts i = t' := HTSR.out i t' rfl (by rw [HRES.out, hrs])
            have HTQ := Aside0.mk (show TmIn w2 (fun k => k ≠ o ∧ some k ≠ slv.ownBlock ∧ (ok k ∨ o < k)) (.pointer (some ⟨qq, 0, none⟩)) (ts xs.length) from by rw [HXL.out, htt]; exact htq)
            have HTT := Aside0.mk htt
            clear hb2 htq hrs htin htt
            have HO_ := Aside0.mk hO_
            have c2_ : w2.cell? ⟨o, 2, none⟩ = some slv := by rw [blk_cell hO_.1]; rfl
            have HBO := Aside0.mk (show o + 1 ≤ w2.heap.size from blk_lt hO_.1)
            clear hO_
            go_wp2_with (first | ((with_reducible refine gate_builtin (b := .append) (xs := #[.tmp 91, .tmp 93]) rfl ?_); at_builtin; refine Kd.R_append kPtr (w0 := w2) (o + 1) rfl (.tmp 91) (.tmp 93) 56 38 (.pointer none) 8 rfl Try.underlying56 ptr_info rfl (by decide) (by omega) _ xs (some ⟨qq, 0, none⟩) [.pointer (some ⟨qq, 0, none⟩)] (fun k => k ≠ o) (fun _ => False) rfl rfl ?aP (fun _ hk => hk.elim) ?aF ?aO ?aB ?aS ?aL ?_; (case aP => exact rfl); (case aF => exact fun k hk => by have := HBO.out; omega); (case aO => exact HO_.out.2.1); (case aB => exact Below.refl _ _); (case aS => exact HBO.out); (case aL => have := HXL.out; have := HN.out; omega); intro v4 w21 ho hb4 hg4 hat4; have HST := Aside0.mk (out_step HO_.out ho hb4 hg4 hat4 HTQ.out); have HBX := Aside0.mk (out_low HBS.out HOW.out hb4 hg4 v4); obtain ⟨A4, c4, hv4, hle4, hC4⟩ := Kd.R_reads ho; have hx4 : ∃ m, v4 = .slice A4 m c4 := ⟨_, hv4⟩; clear hv4; obtain ⟨m4, hv4⟩ := hx4; subst hv4; have c3_ : w21.cell? ⟨o, 2, none⟩ = some slv := (by rw [blk_cell ((hb4.block o (Nat.lt_succ_self o)).trans HO_.out.1)]; rfl); have f3_ : w21.frozen? ⟨o, 2, none⟩ = false := blk_frozen ((hb4.block o (Nat.lt_succ_self o)).trans HO_.out.1) 2; clear ho hb4 hg4 hat4 hle4 hC4))
            go_roundg (gk - 1)
            case measure => have := HI.out; have := HH.out; omega
            case rel =>
              refine ⟨i + 1, _, _, ?_, ⟨by have := HI.out; have := HH.out; omega⟩, HST, ⟨by rw [List.length_append, List.length_singleton, HXL.out]⟩, HBX, ⟨fun j hj => ?_⟩⟩
              · have := HN.out; have := HH.out
                have e1 : IntKind.i64.wrap ((i : Int) + 1) = ((i + 1 : Nat) : Int) := by rw [IntKind.wrap_i64]; omega
                have e2 : wrap64 ((i : Int) + 1) = ((i + 1 : Nat) : Int) := by rw [wrap64]; omega
                first | rfl | (rw [← e1]; done) | (rw [← e2]; done) | (simp [e1]; done) | (simp [e2]; done) | (show Value.int .i64 _ = _; rw [e1]; done) | (show Value.int .i64 _ = _; rw [e2])
              · by_cases hj2 : j < i
                · exact HTS.out j hj2
                · have : j = i := by omega
                  subst this; exact (by rw [HRES.out, HTT.out]; exact HRT.out)
      · have h1 : (n : Int) ≤ (i : Int) := by omega
        have HE := Aside0.mk (show i = n from by have := HI.out; omega)
        clear hi
        go_wp2
        go_ret
        refine ⟨_, rfl, .inr ⟨fun j hj => HTS.out j (by rw [HE.out]; exact hj), ?_⟩, HBW.out⟩
        have := out_node (w := w) HO0.out HOW.out (by rw [HXL.out, HE.out]; exact HN.out.1)
        rw [HXL.out, HE.out] at this
        exact this
end Go.Proofs.YtpklhagedifglaaW.PrintMore
namespace Go.Proofs.YtpklhagedifglaaW.PrintMore
set_option linter.unusedVariables false
set_option linter.unusedSimpArgs false
open Go.Proofs Go.Deep
open Go.RowKit Go.Proofs.YtpklhagedifglaaW.PrintWords Go.Proofs.YtpklhagedifglaaW.PrintLast Go.Proofs.YtpklhagedifglaaW.PrintMore
set_option maxHeartbeats 2000000 in
theorem put_same (w : World) (p nf : Nat) (z : UInt8) (C : Ct) (uv : Value) (hz : C z = 0)
    (hfn : Calls Try.prog 29 #[.pointer (some ⟨p, 0, none⟩)] w fun e w' => ∃ b, e = .returned (.map (some b)) ∧ w.heap.size ≤ b ∧ FrAt w' b nf C ∧ Below w.heap.size w w') :
    Calls Try.prog 33 #[.pointer (some ⟨p, 0, none⟩), .string (ch z), uv] w fun e w' => e = .returned (.pointer (some ⟨p, 0, none⟩)) ∧ Below w.heap.size w w' := by
  have cz : ((C z : Int) == 0) = true := by simp [hz]
  clear hz
  go_enter Try.func33, Try.ntmps33
  go_wp2_with fail
  refine hfn.mono ?_
  rintro e w1 ⟨bf, rfl, hbf, hf, hb⟩
  have HB := Aside0.mk hb
  have lk := fr_look hf z
  clear hb hf hbf
  go_wp2
  go_ret
  exact ⟨rfl, HB.out⟩
set_option maxHeartbeats 2000000 in
theorem put_leaf (w : World) (p nf : Nat) (z : UInt8) (C : Ct) (uv : Value) (hz : C z ≠ 0) (h2 : w.cell? ⟨p, 2, none⟩ = some (.slice none 0 0))
    (hfn : Calls Try.prog 29 #[.pointer (some ⟨p, 0, none⟩)] w fun e w' => ∃ b, e = .returned (.map (some b)) ∧ w.heap.size ≤ b ∧ FrAt w' b nf C ∧ Below w.heap.size w w') :
    Calls Try.prog 33 #[.pointer (some ⟨p, 0, none⟩), .string (ch z), uv] w fun e w' => e = .returned uv ∧ Below w.heap.size w w' := by
  have cz : ((C z : Int) == 0) = false := by simp; omega
  clear hz
  go_enter Try.func33, Try.ntmps33
  go_wp2_with fail
  refine hfn.mono ?_
  rintro e w1 ⟨bf, rfl, hbf, hf, hb⟩
  have HB := Aside0.mk hb
  have lk := fr_look hf z
  have g2 := cell_keep hb _ _ h2
  clear hb hf hbf h2
  go_wp2
  go_ret
  exact ⟨rfl, HB.out⟩
theorem put_post_same {w w' : World} {ok : Nat → Prop} {v : Value} {t : Tm} (h : TmIn w ok v t) (hb : Below w.heap.size w w') : PutPost w ok (some t) v w' :=
  .inr ⟨t, rfl, (h.below hb).mono fun k hk _ => .inl hk⟩
set_option maxHeartbeats 2000000 in
theorem put_walk (z : UInt8) (u : Tm) (uq : Nat) (hus : u.tx.size ≤ 500) : ∀ (t : Tm) (v : Value) (w : World) (ok : Nat → Prop), t.tx.size ≤ 500 → t.wf → (∀ k, ok k → k < w.heap.size) → TmIn w ok v t → TmIn w ok (.pointer (some ⟨uq, 0, none⟩)) u →
    Calls Try.prog 33 #[v, .string (ch z), .pointer (some ⟨uq, 0, none⟩)] w fun e w' => ∃ v', e = .returned v' ∧ PutPost w ok (t.pt z u) v' w' ∧ Below w.heap.size w w' := by
  have same : ∀ (t : Tm) (p : Nat) (w : World) (ok : Nat → Prop), t.tx.size ≤ 500 → TmIn w ok (.pointer (some ⟨p, 0, none⟩)) t → t.fc z = 0 → t.pt z u = some t →
      Calls Try.prog 33 #[.pointer (some ⟨p, 0, none⟩), .string (ch z), .pointer (some ⟨uq, 0, none⟩)] w fun e w' => ∃ v', e = .returned v' ∧ PutPost w ok (t.pt z u) v' w' ∧ Below w.heap.size w w' := by
    intro t p w ok hz ht hc hp
    refine (put_same w p _ z t.fc _ hc (free_walk t _ w (by omega) ht.at)).mono ?_
    rintro e w' ⟨rfl, hb⟩
    exact ⟨_, rfl, by rw [hp]; exact put_post_same ht hb, hb⟩
  intro t
  induction t with
  | leaf c =>
    rintro v w ok hz hw hok ht hu
    obtain ⟨p, rfl⟩ := tm_ptr0 ht.at
    by_cases hc : (Tm.leaf c).fc z = 0
    · exact same _ p w ok hz ht hc (by simp only [Tm.pt]; rw [if_pos hc])
    · have hat := ht.at
      obtain ⟨p', hp, h0, h1, h2⟩ := hat
      obtain rfl : p = p' := by injection hp with h; injection h with h; injection h
      refine (put_leaf w p _ z _ _ hc h2 (free_walk (.leaf c) _ w (by omega) ht.at)).mono ?_
      rintro e w' ⟨rfl, hb⟩
      refine ⟨_, rfl, ?_, hb⟩
      simp only [Tm.pt]; rw [if_neg hc]
      exact put_post_same hu hb
  | un c x ih =>
    rintro v w ok hz hw hok ht hu
    obtain ⟨p, rfl⟩ := tm_ptr0 ht.at
    by_cases hc : x.fc z = 0
    · exact same _ p w ok hz ht hc (by simp only [Tm.pt]; rw [if_pos hc])
    · obtain ⟨p', a, xv, k, hp, h0, h1, h2, h3, h4, h5⟩ := ht
      have ht' : TmIn w ok (.pointer (some ⟨p, 0, none⟩)) (.un c x) := ⟨p', a, xv, k, hp, h0, h1, h2, h3, h4, h5⟩
      obtain rfl : p = p' := by injection hp with h; injection h with h; injection h
      obtain ⟨q, rfl⟩ := tm_ptr0 h5
      have h5' : TmIn w ok (.pointer (some ⟨q, 0, none⟩)) x := h5
      have hz' := hz
      simp only [Tm.tx, ByteArray.size_append] at hz
      have := put_node w p a 1 k uq 0 _ _ (ch c) ⟨#[]⟩ false z 0 (Tm.un c x).fc (fun _ => 0) u.fc (fun j => (x.pt z u).getD (.leaf 0)) (fun _ => x) (fun _ => x.pt z u) (fun _ => x.pt z u) ok hok ⟨by omega, by omega⟩ (mask_some h0).2 (mask_some h1).2 (mask_some h2).2 hc
        (free_walk (.un c x) _ w (by omega) ht'.at) (fun V hV => free_walk u _ V (by omega) (hu.below hV).at)
        (fun j hj => by
          have : j = 0 := by omega
          subst this
          exact ⟨q, (mask_some h4).2, h5', fun V hV => ih _ V ok (by omega) hw (fun k hk => Nat.lt_of_lt_of_le (hok k hk) hV.size) (h5'.below hV) (hu.below hV), fun h => by omega⟩)
        (fun W h => loop_no W p h) (fun h => by cases h) (fun j hj _ => rfl) (fun h => by cases h) (fun h => by cases h) (fun h => by cases h) (fun j t' _ h => by simp only [h]; rfl)
      refine this.mono ?_
      rintro e w' ⟨v', rfl, hr, hb⟩
      refine ⟨v', rfl, ?_, hb⟩
      simp only [Tm.pt]; rw [if_neg hc]
      rcases hr with ⟨j, hj, hn, hv⟩ | ⟨hs, hnode⟩
      · exact .inl ⟨by rw [hn]; rfl, hv⟩
      · refine .inr ⟨_, by rw [hs 0 (by omega)]; rfl, node_un hnode⟩
  | bin c x y ih1 ih2 =>
    rintro v w ok hz hw hok ht hu
    obtain ⟨p, rfl⟩ := tm_ptr0 ht.at
    by_cases hc : x.fc z + y.fc z = 0
    · exact same _ p w ok hz ht hc (by simp only [Tm.pt]; rw [if_pos hc])
    · obtain ⟨p', a, xv, yv, k, hp, h0, h1, h2, h3, h4, h5, h6, h7⟩ := ht
      have ht' : TmIn w ok (.pointer (some ⟨p, 0, none⟩)) (.bin c x y) := ⟨p', a, xv, yv, k, hp, h0, h1, h2, h3, h4, h5, h6, h7⟩
      obtain rfl : p = p' := by injection hp with h; injection h with h; injection h
      obtain ⟨q, rfl⟩ := tm_ptr0 h6
      obtain ⟨q2, rfl⟩ := tm_ptr0 h7
      have h6' : TmIn w ok (.pointer (some ⟨q, 0, none⟩)) x := h6
      have h7' : TmIn w ok (.pointer (some ⟨q2, 0, none⟩)) y := h7
      simp only [Tm.tx, ByteArray.size_append] at hz
      have := put_node w p a 2 k uq y.lf _ _ (ch c) ⟨#[]⟩ false z 0 (Tm.bin c x y).fc y.fc u.fc (fun j => if j = 0 then (x.pt z u).getD (.leaf 0) else (y.pt z u).getD (.leaf 0)) (fun j => if j = 0 then x else y) (fun j => if j = 0 then x.pt z u else y.pt z u) (fun j => if j = 0 then x.pt z u else y.pt z u) ok hok ⟨by omega, by omega⟩ (mask_some h0).2 (mask_some h1).2 (mask_some h2).2 hc
        (free_walk (.bin c x y) _ w (by simp only [Tm.tx, ByteArray.size_append]; omega) ht'.at) (fun V hV => free_walk u _ V (by omega) (hu.below hV).at)
        (fun j hj => by
          have : j = 0 ∨ j = 1 := by omega
          rcases this with rfl | rfl
          · exact ⟨q, (mask_some h4).2, h6', fun V hV => ih1 _ V ok (by omega) hw.1 (fun k hk => Nat.lt_of_lt_of_le (hok k hk) hV.size) (h6'.below hV) (hu.below hV), fun h => by omega⟩
          · exact ⟨q2, (mask_some h5).2, h7', fun V hV => ih2 _ V ok (by omega) hw.2 (fun k hk => Nat.lt_of_lt_of_le (hok k hk) hV.size) (h7'.below hV) (hu.below hV), fun _ V hV => free_walk y _ V (by omega) (h7'.below hV).at⟩)
        (fun W h => loop_no W p h) (fun h => by cases h) (fun j hj _ => rfl) (fun h => by cases h) (fun h => by cases h) (fun h => by cases h) (fun j t' hj h => by
          have : j = 0 ∨ j = 1 := by omega
          rcases this with rfl | rfl
          · simp only [if_true] at h ⊢; rw [h]; rfl
          · simp only [Nat.succ_ne_zero, if_false] at h ⊢; rw [h]; rfl)
      refine this.mono ?_
      rintro e w' ⟨v', rfl, hr, hb⟩
      refine ⟨v', rfl, ?_, hb⟩
      simp only [Tm.pt]; rw [if_neg hc]
      rcases hr with ⟨j, hj, hn, hv⟩ | ⟨hs, hnode⟩
      · refine .inl ⟨?_, hv⟩
        have : j = 0 ∨ j = 1 := by omega
        rcases this with rfl | rfl
        · have hn : x.pt z u = none := hn
          rw [hn]; rfl
        · have hn : y.pt z u = none := hn
          rw [hn]; cases x.pt z u <;> rfl
      · have e0 : x.pt z u = _ := hs 0 (by omega)
        have e1 : y.pt z u = _ := hs 1 (by omega)
        exact .inr ⟨_, by rw [e0, e1]; rfl, node_bin hnode⟩
  | loop c b x y ih1 ih2 =>
    rintro v w ok hz hw hok ht hu
    obtain ⟨p, rfl⟩ := tm_ptr0 ht.at
    by_cases hc : (Tm.loop c b x y).fc z = 0
    · exact same _ p w ok hz ht hc (by simp only [Tm.pt]; rw [if_pos hc])
    · obtain ⟨p', a, xv, yv, k, hp, h0, h1, h2, h3, h4, h5, h6, h7⟩ := ht
      have ht' : TmIn w ok (.pointer (some ⟨p, 0, none⟩)) (.loop c b x y) := ⟨p', a, xv, yv, k, hp, h0, h1, h2, h3, h4, h5, h6, h7⟩
      obtain rfl : p = p' := by injection hp with h; injection h with h; injection h
      obtain ⟨q, rfl⟩ := tm_ptr0 h6
      obtain ⟨q2, rfl⟩ := tm_ptr0 h7
      have h6' : TmIn w ok (.pointer (some ⟨q, 0, none⟩)) x := h6
      have h7' : TmIn w ok (.pointer (some ⟨q2, 0, none⟩)) y := h7
      simp only [Tm.tx, ByteArray.size_append] at hz
      obtain ⟨R1, hR1⟩ : ∃ R1, R1 = (if b = z then some y else if 0 < y.fc z ∧ 0 < u.fc b then none else y.pt z u) := ⟨_, rfl⟩
      have := put_node w p a 2 k uq y.lf _ _ (ch c) (ch b) true z b (Tm.loop c b x y).fc y.fc u.fc (fun j => if j = 0 then (x.pt z u).getD (.leaf 0) else R1.getD (.leaf 0)) (fun j => if j = 0 then x else y) (fun j => if j = 0 then x.pt z u else y.pt z u) (fun j => if j = 0 then x.pt z u else R1) ok hok ⟨by omega, by omega⟩ (mask_some h0).2 (mask_some h1).2 (mask_some h2).2 hc
        (free_walk (.loop c b x y) _ w (by simp only [Tm.tx, ByteArray.size_append]; omega) ht'.at) (fun V hV => free_walk u _ V (by omega) (hu.below hV).at)
        (fun j hj => by
          have : j = 0 ∨ j = 1 := by omega
          rcases this with rfl | rfl
          · exact ⟨q, (mask_some h4).2, h6', fun V hV => ih1 _ V ok (by omega) hw.2.2.1 (fun k hk => Nat.lt_of_lt_of_le (hok k hk) hV.size) (h6'.below hV) (hu.below hV), fun h => by omega⟩
          · exact ⟨q2, (mask_some h5).2, h7', fun V hV => ih2 _ V ok (by omega) hw.2.2.2 (fun k hk => Nat.lt_of_lt_of_le (hok k hk) hV.size) (h7'.below hV) (hu.below hV), fun _ V hV => free_walk y _ V (by omega) (h7'.below hV).at⟩)
        (fun W h => loop_yes W p b h) (fun _ => rfl) (fun j hj hh => by
          rcases hh with hh | hh
          · have : j = 0 := by omega
            subst this; rfl
          · cases hh) (fun _ h => by show R1 = some y; rw [hR1, if_pos h]) (fun _ h h2 => by show R1 = none; rw [hR1, if_neg h, if_pos h2]) (fun _ h h2 => by show R1 = y.pt z u; rw [hR1, if_neg h, if_neg h2]) (fun j t' hj h => by
          have : j = 0 ∨ j = 1 := by omega
          rcases this with rfl | rfl
          · simp only [if_true] at h ⊢; rw [h]; rfl
          · simp only [Nat.succ_ne_zero, if_false] at h ⊢; rw [h]; rfl)
      refine this.mono ?_
      rintro e w' ⟨v', rfl, hr, hb⟩
      refine ⟨v', rfl, ?_, hb⟩
      have hpt : (Tm.loop c b x y).pt z u = (x.pt z u).bind fun x' => R1.map (.loop c b x') := by
        simp only [Tm.pt]; rw [if_neg hc, hR1]
        cases x.pt z u with
        | none => rfl
        | some x' =>
          simp only [Option.bind_some]
          by_cases hbz : b = z
          · rw [if_pos hbz, if_pos hbz]; rfl
          · rw [if_neg hbz, if_neg hbz]
            by_cases hcc : 0 < y.fc z ∧ 0 < u.fc b
            · rw [if_pos hcc, if_pos hcc]; rfl
            · rw [if_neg hcc, if_neg hcc]
      rw [hpt]
      rcases hr with ⟨j, hj, hn, hv⟩ | ⟨hs, hnode⟩
      · refine .inl ⟨?_, hv⟩
        have : j = 0 ∨ j = 1 := by omega
        rcases this with rfl | rfl
        · have hn : x.pt z u = none := hn
          rw [hn]; rfl
        · have hn : R1 = none := hn
          rw [hn]; cases x.pt z u <;> rfl
      · have e0 : x.pt z u = _ := hs 0 (by omega)
        have e1 : R1 = _ := hs 1 (by omega)
        exact .inr ⟨_, by rw [e0, e1]; rfl, node_loop hnode⟩
theorem pt_ok (z : UInt8) (u : Tm) (hu : u.ok) : ∀ (t r : Tm), t.ok → t.pt z u = some r → r.ok := by
  intro t
  induction t with
  | leaf c => intro r h hr; simp only [Tm.pt] at hr; split at hr <;> (cases hr; assumption)
  | un c x ih =>
    intro r h hr; simp only [Tm.pt] at hr
    split at hr
    · cases hr; exact h
    · obtain ⟨x', h1, h2⟩ := Option.map_eq_some_iff.1 hr
      subst h2; exact ⟨h.1, ih _ h.2 h1⟩
  | bin c x y ih1 ih2 =>
    intro r h hr; simp only [Tm.pt] at hr
    split at hr
    · cases hr; exact h
    · obtain ⟨x', h1, h2⟩ := Option.bind_eq_some_iff.1 hr
      obtain ⟨y', h3, h4⟩ := Option.map_eq_some_iff.1 h2
      subst h4; exact ⟨h.1, ih1 _ h.2.1 h1, ih2 _ h.2.2 h3⟩
  | loop c b x y ih1 ih2 =>
    intro r h hr; simp only [Tm.pt] at hr
    split at hr
    · cases hr; exact h
    · obtain ⟨x', h1, h2⟩ := Option.bind_eq_some_iff.1 hr
      split at h2
      · cases h2; exact ⟨h.1, h.2.1, ih1 _ h.2.2.1 h1, h.2.2.2⟩
      split at h2
      · cases h2
      · obtain ⟨y', h3, h4⟩ := Option.map_eq_some_iff.1 h2
        subst h4; exact ⟨h.1, h.2.1, ih1 _ h.2.2.1 h1, ih2 _ h.2.2.2 h3⟩
theorem tx_pos : ∀ t : Tm, 1 ≤ t.tx.size := fun t => Nat.le_trans (by cases t <;> simp [Tm.cs] <;> omega) (cs_len t).2
theorem pt_size (z : UInt8) (u : Tm) : ∀ (t r : Tm), t.pt z u = some r → r.tx.size ≤ t.tx.size * u.tx.size := by
  have hp := tx_pos u
  have hs : ∀ n : Nat, n ≤ n * u.tx.size := fun n => Nat.le_mul_of_pos_right n hp
  have c1 : ∀ c : UInt8, (ch c).size = 1 := fun _ => rfl
  have e1 : ∀ x : UInt8, (⟨#[x]⟩ : ByteArray).size = 1 := fun _ => rfl
  intro t
  induction t with
  | leaf c =>
    intro r hr; simp only [Tm.pt] at hr; split at hr
    · cases hr; exact hs _
    · cases hr; show u.tx.size ≤ 1 * u.tx.size; omega
  | un c x ih =>
    intro r hr; simp only [Tm.pt] at hr
    split at hr
    · cases hr; exact hs _
    · obtain ⟨x', h1, h2⟩ := Option.map_eq_some_iff.1 hr
      subst h2
      have := ih _ h1
      simp only [Tm.tx, ByteArray.size_append, c1, Nat.add_mul]; omega
  | bin c x y ih1 ih2 =>
    intro r hr; simp only [Tm.pt] at hr
    split at hr
    · cases hr; exact hs _
    · obtain ⟨x', h1, h2⟩ := Option.bind_eq_some_iff.1 hr
      obtain ⟨y', h3, h4⟩ := Option.map_eq_some_iff.1 h2
      subst h4
      have := ih1 _ h1
      have := ih2 _ h3
      simp only [Tm.tx, ByteArray.size_append, c1, e1, Nat.add_mul]; omega
  | loop c b x y ih1 ih2 =>
    intro r hr; simp only [Tm.pt] at hr
    split at hr
    · cases hr; exact hs _
    · obtain ⟨x', h1, h2⟩ := Option.bind_eq_some_iff.1 hr
      have := ih1 _ h1
      split at h2
      · cases h2
        have := hs y.tx.size
        simp only [Tm.tx, ByteArray.size_append, c1, e1, Nat.add_mul]; omega
      split at h2
      · cases h2
      · obtain ⟨y', h3, h4⟩ := Option.map_eq_some_iff.1 h2
        subst h4
        have := ih2 _ h3
        simp only [Tm.tx, ByteArray.size_append, c1, e1, Nat.add_mul]; omega
/-- Which variable a text is. -/
def varIn (s : ByteArray) : Option UInt8 := match s.data.toList with
  | [c] => if isVar c = true then some c else none
  | _ => none
set_option maxHeartbeats 1000000 in
theorem tm_varOk (s : ByteArray) (w : World) : Calls Try.prog 32 #[.string s] w fun e w' => e = .returned (.bool (varIn s).isSome) ∧ w' = w := by
  by_cases h : ∃ c, s.data.toList = [c]
  · obtain ⟨c, hc⟩ := h
    have hs : s = ch c := by apply ByteArray.ext; apply Array.toList_inj.1; rw [hc]
    subst hs
    have e : (varIn (ch c)).isSome = isVar c := by
      show (match [c] with | [c] => if isVar c = true then some c else none | _ => none).isSome = _
      simp only
      cases isVar c <;> rfl
    rw [e]; exact tm_varOk1 c w
  · have hz : ((s.size : Int) == 1) = false := by
      simp
      intro hs
      apply h
      have hl : s.data.toList.length = 1 := by rw [← size_list]; omega
      match hd : s.data.toList, hl with
      | [c], _ => exact ⟨c, rfl⟩
    have e : varIn s = none := by
      unfold varIn
      split
      · rename_i c hc; exact absurd ⟨c, hc⟩ h
      · rfl
    rw [e]
    clear h e
    go_enter Try.func32, Try.ntmps32
    go_wp2
    go_ret
    exact ⟨rfl, rfl⟩
/-- What ReplaceVar answers. -/
def repl (t v u : ByteArray) : Option ByteArray :=
  (tmOf t.data.toList).bind fun n => (tmOf u.data.toList).bind fun x => (varIn v).bind fun z => (n.pt z x).bind fun r => if r.tx.size ≤ 80 then some r.tx else none
set_option maxHeartbeats 16000000 in
set_option maxRecDepth 100000 in
theorem impl_ReplaceVar_walk (t v u : ByteArray) (w : World) : Calls Try.prog 14 #[.string t, .string v, .string u] w fun e w' => e = .returned ((repl t v u).elim (.tuple #[.string ⟨#[]⟩, .bool false]) fun r => .tuple #[.string r, .bool true]) ∧ Below w.heap.size w w' := by
  go_enter Try.func14, Try.ntmps14
  go_wp2_with fail
  refine (termOf_walk t _).mono ?_
  rintro e w1 ⟨tv, rfl, hb, hres⟩
  have HB := Aside0.mk hb
  have HT := Aside0.mk hres
  clear hb hres
  go_wp2_with fail
  refine (termOf_walk u _).mono ?_
  rintro e w2 ⟨uv, rfl, hb2, hres2⟩
  have HB1 := Aside0.mk hb2
  have HB2 := Aside0.mk (HB.out.trans (hb2.mono HB.out.size))
  have HU := Aside0.mk hres2
  clear hb2 hres2
  have none_ : repl t v u = none → ∀ w3, Below w.heap.size w w3 → Ending.returned (Value.tuple #[.string ⟨#[]⟩, .bool false]) = .returned ((repl t v u).elim (.tuple #[.string ⟨#[]⟩, .bool false]) fun r => .tuple #[.string r, .bool true]) ∧ Below w.heap.size w w3 := fun h w3 hb => ⟨by rw [h]; rfl, hb⟩
  have NON := Aside0.mk none_
  clear none_
  rcases HT.out with ⟨n, hn, hnat⟩ | ⟨hn, rfl⟩
  case inr =>
    have HR := Aside0.mk (show repl t v u = none from by unfold repl; rw [hn]; rfl)
    clear HT HU hn
    go_wp2
    refine bodyPost_ret (results_tmp2 rfl _ _ _) rfl ⟨by exact (NON.out HR.out _ (HB2.out)).1, HB2.out⟩
  obtain ⟨nq, rfl⟩ := tm_ptr0 hnat
  rcases HU.out with ⟨x, hx, hxat⟩ | ⟨hx, rfl⟩
  case inr =>
    have HR := Aside0.mk (show repl t v u = none from by unfold repl; rw [hn, hx]; rfl)
    clear HT HU hn hx hnat
    go_wp2
    refine bodyPost_ret (results_tmp2 rfl _ _ _) rfl ⟨by exact (NON.out HR.out _ (HB2.out)).1, HB2.out⟩
  obtain ⟨xq, rfl⟩ := tm_ptr0 hxat
  have HNX := Aside0.mk (And.intro hn hx)
  have HIN := Aside0.mk (And.intro (tm_in (tm_below HB1.out hnat)) (tm_in hxat))
  clear HT HU hn hx hnat hxat
  cases hz : varIn v with
  | none =>
    have HR := Aside0.mk (show repl t v u = none from by unfold repl; rw [HNX.out.1, HNX.out.2, hz]; rfl)
    have HZ := Aside0.mk hz
    clear hz
    go_wp2_with (go_at_call 32; refine (tm_varOk _ _).mono ?_; rintro e wz ⟨rfl, hw⟩; rw [hw, HZ.out]; clear hw wz)
    refine bodyPost_ret (results_tmp2 rfl _ _ _) rfl ⟨by exact (NON.out HR.out _ (HB2.out)).1, HB2.out⟩
  | some z =>
    have HZ := Aside0.mk hz
    have hv : v = ch z := by
      unfold varIn at hz
      split at hz
      · rename_i c hc
        split at hz
        · cases hz
          apply ByteArray.ext; apply Array.toList_inj.1; rw [hc]
        · cases hz
      · cases hz
    have HV := Aside0.mk hv
    clear hz hv
    go_wp2_with (go_at_call 32; refine (tm_varOk _ _).mono ?_; rintro e wz ⟨rfl, hw⟩; rw [hw, HZ.out]; clear hw wz)
    have hpw := put_walk z x xq (by have := (tmOf_tx HNX.out.2).2; omega) n _ w2 (fun k => k < w2.heap.size) (by have := (tmOf_tx HNX.out.1).2; omega) (tmOf_wf HNX.out.1) (fun k hk => hk) HIN.out.1 HIN.out.2
    rw [← HV.out] at hpw
    refine hpw.mono ?_
    rintro e w3 ⟨v', rfl, hpost, hb3⟩
    have HB3 := Aside0.mk (HB2.out.trans (hb3.mono HB2.out.size))
    clear hpw hb3
    rcases hpost with ⟨hr, rfl⟩ | ⟨r, hr, hin⟩
    · have HR := Aside0.mk (show repl t v u = none from by unfold repl; rw [HNX.out.1, HNX.out.2, HZ.out]; show (n.pt z x).bind _ = none; rw [hr]; rfl)
      clear hr
      go_wp2
      refine bodyPost_ret (results_tmp2 rfl _ _ _) rfl ⟨by exact (NON.out HR.out _ (HB3.out)).1, HB3.out⟩
    · obtain ⟨rq, rfl⟩ := tm_ptr0 hin.at
      have HIN3 := Aside0.mk hin.at
      have HRR := Aside0.mk hr
      have HSZ := Aside0.mk (show r.tx.size ≤ 6400 from Nat.le_trans (pt_size z x n r hr) (Nat.mul_le_mul (tmOf_tx HNX.out.1).2 (tmOf_tx HNX.out.2).2))
      have HWF := Aside0.mk (pt_ok z x (tmOf_ok HNX.out.2) n r (tmOf_ok HNX.out.1) hr).wf
      clear hr hin
      by_cases h80 : r.tx.size ≤ 80
      · have h80' : ¬ (80 : Int) < (r.tx.size : Int) := by omega
        have HR := Aside0.mk (show repl t v u = some r.tx from by unfold repl; rw [HNX.out.1, HNX.out.2, HZ.out]; show (n.pt z x).bind _ = _; rw [HRR.out]; show (if _ then _ else _) = _; rw [if_pos h80])
        obtain ⟨R, hR⟩ : ∃ R, R = r.tx := ⟨_, rfl⟩
        rw [← hR] at h80'
        have HRX := Aside0.mk hR
        clear h80 hR
        go_wp2_with (go_at_call 30; refine (text_walk r _ _ HWF.out (by have := HSZ.out; omega) (by first | exact HIN3.out | exact tm_drewN HIN3.out)).mono ?_; rintro e wz ⟨rfl, nd, hw⟩; rw [hw, ← HRX.out]; clear hw wz)
        refine bodyPost_ret (results_tmp2 rfl _ _ _) rfl ⟨by rw [HR.out, ← HRX.out]; rfl, by first | exact pw_below_drewN HB3.out _ | exact pw_below_drewN (pw_below_drewN HB3.out _) _⟩
      · have h80' : (80 : Int) < (r.tx.size : Int) := by omega
        have HR := Aside0.mk (show repl t v u = none from by unfold repl; rw [HNX.out.1, HNX.out.2, HZ.out]; show (n.pt z x).bind _ = _; rw [HRR.out]; show (if _ then _ else _) = _; rw [if_neg h80])
        obtain ⟨R, hR⟩ : ∃ R, R = r.tx := ⟨_, rfl⟩
        rw [← hR] at h80'
        have HRX := Aside0.mk hR
        clear h80 hR
        go_wp2_with (go_at_call 30; refine (text_walk r _ _ HWF.out (by have := HSZ.out; omega) HIN3.out).mono ?_; rintro e wz ⟨rfl, nd, hw⟩; rw [hw, ← HRX.out]; clear hw wz)
        refine bodyPost_ret (results_tmp2 rfl _ _ _) rfl ⟨by exact (NON.out HR.out _ HB3.out).1, (pw_below_drewN HB3.out _)⟩
end Go.Proofs.YtpklhagedifglaaW.PrintMore
namespace Go.Proofs.YtpklhagedifglaaW.PrintMore
set_option linter.unusedVariables false
set_option linter.unusedSimpArgs false
open Go.Proofs Go.Deep
open Go.RowKit Go.Proofs.YtpklhagedifglaaW.PrintWords Go.Proofs.YtpklhagedifglaaW.PrintLast Go.Proofs.YtpklhagedifglaaW.PrintMore
theorem nd_info : (Try.prog.info? 45).map (fun i => (i.zero, i.size, i.bytes)) = some (some (.agg #[.int .u8 0, .int .u8 0, .slice none 0 0]), 3, 32) := by kernel_rfl
def NdIn (W : World) (ok : Nat → Prop) (v : Value) (t : Tm) : Prop := NdAt (mask W ok) 0 v t
theorem NdIn.at {W : World} {ok : Nat → Prop} {v : Value} {t : Tm} (h : NdIn W ok v t) : NdAt W 0 v t := nd_keep (fun p u _ h => (mask_some h).2) t v h
theorem NdIn.keep {W W' : World} {ok ok' : Nat → Prop} {v : Value} {t : Tm} (h : NdIn W ok v t) (hk : ∀ k, ok k → k < W.heap.size → ok' k ∧ W'.heap[k]? = W.heap[k]?) : NdIn W' ok' v t :=
  nd_keep (fun p u _ hp => by
    obtain ⟨h1, h2⟩ := mask_some hp
    obtain ⟨h3, h4⟩ := hk p.block h1 (World.block_lt_of_cell? W _ h2)
    rw [mask_yes h3]
    exact (World.cell?_of_block (w := W) h4).trans h2) t v h
theorem NdIn.mono {W : World} {ok ok' : Nat → Prop} {v : Value} {t : Tm} (h : NdIn W ok v t) (hk : ∀ k, ok k → k < W.heap.size → ok' k) : NdIn W ok' v t := h.keep fun k h1 h2 => ⟨hk k h1 h2, rfl⟩
theorem nd_in {W : World} {lo : Nat} {v : Value} {t : Tm} (h : NdAt W lo v t) : NdIn W (fun k => k < W.heap.size) v t :=
  nd_keep (fun p u _ hp => by rw [mask_yes (World.block_lt_of_cell? W _ hp)]; exact hp) t v (nd_lo (Nat.zero_le _) t v h)
theorem NdIn.below {W W' : World} {ok : Nat → Prop} {v : Value} {t : Tm} (h : NdIn W ok v t) (hb : Below W.heap.size W W') : NdIn W' ok v t := h.keep fun k h1 h2 => ⟨h1, hb.block k h2⟩
/-- A new node of the reference under way. -/
def ROut (W : World) (b0 bn bu rb o : Nat) (a c : Int) (A : Option Addr) (n k : Nat) (ua uc : Int) (uA : Option Addr) (um uk : Nat) (ts : Nat → Tm) (ok : Nat → Prop) (As : Option Addr) (i ks : Nat) (rows : List (List Value)) : Prop :=
  LB W bn a c A n k ∧ LB W bu ua uc uA um uk ∧ LB W rb 0 0 none 0 0 ∧ LB W o a c As i ks ∧ Kd.R (Kd.raw 3) 45 W b0 (fun k => k ≠ o ∧ k ≠ bn ∧ k ≠ bu ∧ k ≠ rb) (.slice As i ks) rows ∧
    (∀ j, j < rows.length → NdIn W (fun k => k ≠ o ∧ k ≠ rb ∧ some k ≠ (Value.slice As i ks).ownBlock ∧ (ok k ∨ b0 ≤ k)) (.agg (rows.getD j []).toArray) (ts j)) ∧ bn < o ∧ bu < o ∧ rb < o ∧ bn ≠ rb ∧ bu ≠ rb
theorem raw_bound {W : World} {base : Nat} {okk : Nat → Prop} {v : Value} {xs : List (List Value)} (h : Kd.R (Kd.raw 3) 45 W base okk v xs) {k : Nat} (hk : v.ownBlock = some k) : okk k ∧ base ≤ k ∧ k < W.heap.size := by
  have := (Kd.R_bound h).1 k hk
  exact ⟨this.1, this.2.1, this.2.2.1⟩
section
variable {W V : World} {b0 bn bu rb o : Nat} {a c : Int} {A : Option Addr} {n k : Nat} {ua uc : Int} {uA : Option Addr} {um uk : Nat} {ts : Nat → Tm} {ok : Nat → Prop} {As : Option Addr} {i ks : Nat} {rows : List (List Value)}
theorem rout_below (h : ROut W b0 bn bu rb o a c A n k ua uc uA um uk ts ok As i ks rows) (hb : Below W.heap.size W V) : ROut V b0 bn bu rb o a c A n k ua uc uA um uk ts ok As i ks rows := by
  obtain ⟨h1, h2, h3, h4, h5, h6, h7⟩ := h
  exact ⟨blk_below h1 hb, blk_below h2 hb, blk_below h3 hb, blk_below h4 hb, Kd.R_below h5 hb, fun j hj => (h6 j hj).below hb, h7⟩
theorem rout_step {A4 : Option Addr} {m4 c4 : Nat} {P : List Value} (h : ROut W b0 bn bu rb o a c A n k ua uc uA um uk ts ok As i ks rows)
    (hR : Kd.R (Kd.raw 3) 45 V b0 (fun k => k ≠ o ∧ k ≠ bn ∧ k ≠ bu ∧ k ≠ rb) (.slice A4 m4 c4) (rows ++ [P])) (hg : W.grownBy V (Value.slice As i ks).ownBlock) (hat : (Value.slice A4 m4 c4).ownBlock = (Value.slice As i ks).ownBlock ∨ ∃ b, (Value.slice A4 m4 c4).ownBlock = some b ∧ W.heap.size ≤ b)
    (hq : NdIn W (fun k => k ≠ o ∧ k ≠ rb ∧ some k ≠ (Value.slice As i ks).ownBlock ∧ (ok k ∨ b0 ≤ k)) (.agg P.toArray) (ts rows.length)) : ROut (V.setCell ⟨o, 2, none⟩ (.slice A4 m4 c4)) b0 bn bu rb o a c A n k ua uc uA um uk ts ok A4 m4 c4 (rows ++ [P]) := by
  obtain ⟨h1, h2, h3, h4, h5, h6, l1, l2, l3, l4, l5⟩ := h
  have hne : ∀ x, (x = o ∨ x = bn ∨ x = bu ∨ x = rb) → some x ≠ (Value.slice As i ks).ownBlock := fun x hx e => by
    have := (raw_bound h5 e.symm).1
    omega
  have far : ∀ x a' c' A' m' k', x ≠ o → some x ≠ (Value.slice As i ks).ownBlock → LB W x a' c' A' m' k' → LB (V.setCell ⟨o, 2, none⟩ (.slice A4 m4 c4)) x a' c' A' m' k' := fun x a' c' A' m' k' hx hx2 hl => blk_far (blk_grown hl hg hx2) hx _
  have key : ∀ v t, NdIn W (fun k => k ≠ o ∧ k ≠ rb ∧ some k ≠ (Value.slice As i ks).ownBlock ∧ (ok k ∨ b0 ≤ k)) v t → NdIn (V.setCell ⟨o, 2, none⟩ (.slice A4 m4 c4)) (fun k => k ≠ o ∧ k ≠ rb ∧ some k ≠ (Value.slice A4 m4 c4).ownBlock ∧ (ok k ∨ b0 ≤ k)) v t := fun v t ht => ht.keep fun x ⟨g1, g2, g3, g4⟩ hx => by
    refine ⟨⟨g1, g2, ?_, g4⟩, ?_⟩
    · rcases hat with e | ⟨b, e, hb'⟩
      · rw [e]; exact g3
      · rw [e]; intro e'; injection e' with e'; omega
    · rw [Below.heap_setCell V ⟨o, 2, none⟩ _ x g1]
      exact hg.block x hx g3
  refine ⟨far _ _ _ _ _ _ (by omega) (hne _ (.inr (.inl rfl))) h1, far _ _ _ _ _ _ (by omega) (hne _ (.inr (.inr (.inl rfl)))) h2, far _ _ _ _ _ _ (by omega) (hne _ (.inr (.inr (.inr rfl)))) h3, blk_put (blk_grown h4 hg (hne _ (.inl rfl))) 2 _ (by rfl), Kd.R_step hR (fun x hx _ => Below.heap_setCell V ⟨o, 2, none⟩ _ x hx.1), fun j hj => ?_, l1, l2, l3, l4, l5⟩
  rw [List.length_append, List.length_singleton] at hj
  by_cases hj2 : j < rows.length
  · rw [List.getD_eq_getElem?_getD, List.getElem?_append_left hj2, ← List.getD_eq_getElem?_getD]
    exact key _ _ (h6 j hj2)
  · have : j = rows.length := by omega
    subst this
    rw [List.getD_eq_getElem?_getD, List.getElem?_append_right (Nat.le_refl _), Nat.sub_self]
    exact key _ _ hq
theorem rout_fresh {x : Nat} (h : ROut W b0 bn bu rb o a c A n k ua uc uA um uk ts ok As i ks rows) (hok : ∀ k, ok k → k < b0) (hrb : b0 ≤ rb) (hx : ok x ∨ W.heap.size ≤ x) : x ≠ o ∧ x ≠ rb ∧ some x ≠ (Value.slice As i ks).ownBlock ∧ (ok x ∨ b0 ≤ x) := by
  obtain ⟨h1, h2, h3, h4, h5, h6, l1, l2, l3, l4, l5⟩ := h
  have hol := blk_lt h4
  rcases hx with hx | hx
  · have := hok x hx
    refine ⟨by omega, by omega, fun e => ?_, .inl hx⟩
    have := raw_bound h5 e.symm
    omega
  · refine ⟨by omega, by omega, fun e => ?_, .inr (by omega)⟩
    have := raw_bound h5 e.symm
    omega
end
theorem ad_q0 (q n : Nat) : (⟨q, 0, none⟩ : Addr).add n = ⟨q, n, none⟩ := by (unfold Addr.add; split <;> simp_all)
theorem raw_cell {W : World} {base : Nat} {okk : Nat → Prop} {g n cap : Nat} {xs : List (List Value)} (h : Kd.R (Kd.raw 3) 45 W base okk (.slice (some ⟨g, 0, none⟩) n cap) xs) (j i : Nat) (hj : j < xs.length) (hi : i < 3) : W.cell? ⟨g, j * 3 + i, none⟩ = (xs.getD j [])[i]? := by
  obtain ⟨A, cp, hv, hle, hC⟩ := Kd.R_reads h
  injection hv with e1 e2 e3
  subst e1
  obtain ⟨hl, hbig, hr⟩ := hC
  obtain ⟨ad, had, hrow⟩ := hr (by omega)
  injection had with had
  subst had
  obtain ⟨cs, hlen, hK, hcell⟩ := hrow j (xs.getD j []) (by rw [List.getD_eq_getElem?_getD, List.getElem?_eq_getElem hj]; rfl)
  have hK' := hK
  obtain ⟨e3, _, _⟩ := hK
  have hi' : i < cs.length := by rw [hlen]; exact hi
  have h1 := hcell i cs[i] (List.getElem?_eq_getElem hi')
  rw [← e3, List.getElem?_eq_getElem hi', ← h1, ad_q0]
  rfl
theorem rout_cells {W : World} {b0 bn bu rb o : Nat} {a c : Int} {A : Option Addr} {n k : Nat} {ua uc : Int} {uA : Option Addr} {um uk : Nat} {ts : Nat → Tm} {ok : Nat → Prop} {As : Option Addr} {i ks : Nat} {rows : List (List Value)} (h : ROut W b0 bn bu rb o a c A n k ua uc uA um uk ts ok As i ks rows) :
    W.cell? ⟨bn, 1, none⟩ = some (.int .u8 c) ∧ W.cell? ⟨bu, 0, none⟩ = some (.int .u8 ua) ∧ W.cell? ⟨bu, 1, none⟩ = some (.int .u8 uc) ∧ W.cell? ⟨bu, 2, none⟩ = some (.slice uA um uk) ∧ W.cell? ⟨o, 2, none⟩ = some (.slice As i ks) ∧ W.cell? ⟨o, 0, none⟩ = some (.int .u8 a) ∧ W.cell? ⟨o, 1, none⟩ = some (.int .u8 c) := by
  obtain ⟨h1, h2, h3, h4, _⟩ := h
  exact ⟨by rw [blk_cell h1]; rfl, by rw [blk_cell h2]; rfl, by rw [blk_cell h2]; rfl, by rw [blk_cell h2]; rfl, by rw [blk_cell h4]; rfl, by rw [blk_cell h4]; rfl, by rw [blk_cell h4]; rfl⟩
theorem rout_new {W : World} {b0 bn bu rb o : Nat} {a c : Int} {A : Option Addr} {n k : Nat} {ua uc : Int} {uA : Option Addr} {um uk : Nat} {ts : Nat → Tm} {ok : Nat → Prop} {As : Option Addr} {i ks : Nat} {rows : List (List Value)} (h : ROut W b0 bn bu rb o a c A n k ua uc uA um uk ts ok As i ks rows) {x : Nat} (hx : W.heap.size ≤ x) : x ≠ o ∧ x ≠ bn ∧ x ≠ bu ∧ x ≠ rb := by
  obtain ⟨h1, h2, h3, h4, _⟩ := h
  have := blk_lt h1; have := blk_lt h2; have := blk_lt h3; have := blk_lt h4
  omega
theorem rout_o {W V : World} {b0 bn bu rb o : Nat} {a c : Int} {A : Option Addr} {n k : Nat} {ua uc : Int} {uA : Option Addr} {um uk : Nat} {ts : Nat → Tm} {ok : Nat → Prop} {As : Option Addr} {i ks : Nat} {rows : List (List Value)} (h : ROut W b0 bn bu rb o a c A n k ua uc uA um uk ts ok As i ks rows) (hg : W.grownBy V (Value.slice As i ks).ownBlock) : LB V o a c As i ks := by
  obtain ⟨h1, h2, h3, h4, h5, _⟩ := h
  exact blk_grown h4 hg fun e => (raw_bound h5 e.symm).1.1 rfl
theorem rout_start (w : World) (a c : Int) (A : Option Addr) (n k : Nat) (ua uc : Int) (uA : Option Addr) (um uk : Nat) (ts : Nat → Tm) (ok : Nat → Prop) {bn bu rb b3 o : Nat} {U : World} (hbn : bn = w.heap.size) (hbu : bu = w.heap.size + 1) (hrb : rb = w.heap.size + 1 + 1) (hb3 : b3 = w.heap.size + 1 + 1 + 1) (ho : o = w.heap.size + 1 + 1 + 1 + 1)
    (hU : U = ((((w.alloc (.cells #[.int .u8 a, .int .u8 c, .slice A n k] 45)).alloc (.cells #[.int .u8 ua, .int .u8 uc, .slice uA um uk] 45)).alloc (.cells #[.int .u8 0, .int .u8 0, .slice none 0 0] 45)).alloc (.cells #[] 45)).alloc (.cells #[.int .u8 a, .int .u8 c, .slice (some ⟨b3, 0, none⟩) 0 0] 45)) :
    ROut U w.heap.size bn bu rb o a c A n k ua uc uA um uk ts ok (some ⟨b3, 0, none⟩) 0 0 [] := by
  obtain ⟨w1, e1⟩ : ∃ w1, w1 = w.alloc (.cells #[.int .u8 a, .int .u8 c, .slice A n k] 45) := ⟨_, rfl⟩
  have s1 : w1.heap.size = w.heap.size + 1 := by rw [e1]; simp
  have g1 : LB w1 bn a c A n k := by rw [e1, hbn]; exact LB.new w a c A n k
  rw [← e1] at hU
  obtain ⟨w2, e2⟩ : ∃ w2, w2 = w1.alloc (.cells #[.int .u8 ua, .int .u8 uc, .slice uA um uk] 45) := ⟨_, rfl⟩
  have s2 : w2.heap.size = w.heap.size + 1 + 1 := by rw [e2]; simp [s1]
  have g2 : LB w2 bu ua uc uA um uk := by rw [e2, hbu, ← s1]; exact LB.new w1 ua uc uA um uk
  rw [← e2] at hU
  obtain ⟨w3, e3⟩ : ∃ w3, w3 = w2.alloc (.cells #[.int .u8 0, .int .u8 0, .slice none 0 0] 45) := ⟨_, rfl⟩
  have s3 : w3.heap.size = w.heap.size + 1 + 1 + 1 := by rw [e3]; simp [s2]
  have g3 : LB w3 rb 0 0 none 0 0 := by rw [e3, hrb, ← s2]; exact LB.new w2 0 0 none 0 0
  rw [← e3] at hU
  obtain ⟨w4, e4⟩ : ∃ w4, w4 = w3.alloc (.cells #[] 45) := ⟨_, rfl⟩
  have s4 : w4.heap.size = w.heap.size + 1 + 1 + 1 + 1 := by rw [e4]; simp [s3]
  have g4 : w4.heap[b3]? = some (.cells #[] 45 (0, 0)) := by rw [e4, hb3, ← s3]; exact blk_new w3 _
  rw [← e4] at hU
  have g5 : LB U o a c (some ⟨b3, 0, none⟩) 0 0 := by rw [hU, ho, ← s4]; exact LB.new w4 a c (some ⟨b3, 0, none⟩) 0 0
  refine ⟨?_, ?_, ?_, g5, ⟨fun x hx => ?_, [], ⟨by simp, .inr ⟨b3, 0, #[], rfl, by omega, by rw [hU]; exact blk_alloc g4 _, Nat.le_refl _, by unfold maxLen; omega, rfl, rfl⟩⟩, Reps.none _ _⟩, fun j hj => (by cases hj), by omega, by omega, by omega, by omega, by omega⟩
  · rw [hU, e4, e3, e2]; exact blk_alloc (blk_alloc (blk_alloc (blk_alloc g1 _) _) _) _
  · rw [hU, e4, e3]; exact blk_alloc (blk_alloc (blk_alloc g2 _) _) _
  · rw [hU, e4]; exact blk_alloc (blk_alloc g3 _) _
  · have : b3 = x := Option.some.inj hx
    omega
theorem far_cell2 {W : World} {b i : Nat} {v u : Value} {p : Addr} (h : W.cell? p = some u) (hp : p.block ≠ b) : (W.setCell ⟨b, i, none⟩ v).cell? p = some u := (World.cell?_setCell_far W ⟨b, i, none⟩ p v (fun e => hp e.symm)).trans h
theorem rout_end {w W : World} {bn bu rb o : Nat} {a c : Int} {A : Option Addr} {n k : Nat} {ua uc : Int} {uA : Option Addr} {um uk : Nat} {ts : Nat → Tm} {ok : Nat → Prop} {As : Option Addr} {i ks : Nat} {rows : List (List Value)} (h : ROut W w.heap.size bn bu rb o a c A n k ua uc uA um uk ts ok As i ks rows) (hl : rows.length = i) (hi : i = n) (hrb : w.heap.size ≤ rb) {v0 v1 v2 : Value} :
    n = 0 ∨ ∃ g, As = some ⟨g, 0, none⟩ ∧ w.heap.size ≤ g ∧ n ≤ ks ∧ ∀ j, j < n → ∃ f0 f1 f2, (((W.setCell ⟨rb, 0, none⟩ v0).setCell ⟨rb, 1, none⟩ v1).setCell ⟨rb, 2, none⟩ v2).cell? ⟨g, j * 3, none⟩ = some f0 ∧ (((W.setCell ⟨rb, 0, none⟩ v0).setCell ⟨rb, 1, none⟩ v1).setCell ⟨rb, 2, none⟩ v2).cell? ⟨g, j * 3 + 1, none⟩ = some f1 ∧ (((W.setCell ⟨rb, 0, none⟩ v0).setCell ⟨rb, 1, none⟩ v1).setCell ⟨rb, 2, none⟩ v2).cell? ⟨g, j * 3 + 2, none⟩ = some f2 ∧
      NdIn (((W.setCell ⟨rb, 0, none⟩ v0).setCell ⟨rb, 1, none⟩ v1).setCell ⟨rb, 2, none⟩ v2) (fun k => ok k ∨ w.heap.size ≤ k) (.agg #[f0, f1, f2]) (ts j) := by
  by_cases hn : n = 0
  · exact .inl hn
  obtain ⟨h1, h2, h3, h4, h5, h6, h7⟩ := h
  obtain ⟨hok, inner, hown, hreps⟩ := id h5
  rcases hown.2 with ⟨_, hz⟩ | ⟨g, cap, cur, hv, hg, hh, hle, hrest⟩
  · omega
  injection hv with e1 e2 e3
  subst e1
  have hgrb : g ≠ rb := fun e => (hok g rfl).2.2.2 e
  have far : ∀ (j : Nat) (u : Value), W.cell? ⟨g, j, none⟩ = some u → (((W.setCell ⟨rb, 0, none⟩ v0).setCell ⟨rb, 1, none⟩ v1).setCell ⟨rb, 2, none⟩ v2).cell? ⟨g, j, none⟩ = some u := fun j u hu => far_cell2 (far_cell2 (far_cell2 hu hgrb) hgrb) hgrb
  refine .inr ⟨g, rfl, hg, by omega, fun j hj => ?_⟩
  have hrow : (rows.getD j []).length = 3 := by
    have := hreps.2 j (rows.getD j []) (by rw [List.getD_eq_getElem?_getD, List.getElem?_eq_getElem (by omega)]; rfl)
    obtain ⟨e, hl3, _⟩ := this
    rw [← e]; exact hl3
  match hr : rows.getD j [], hrow with
  | [f0, f1, f2], _ =>
    have c0 := raw_cell h5 j 0 (by omega) (by omega)
    have c1 := raw_cell h5 j 1 (by omega) (by omega)
    have c2 := raw_cell h5 j 2 (by omega) (by omega)
    rw [hr] at c0 c1 c2
    refine ⟨f0, f1, f2, far _ _ c0, far _ _ c1, far _ _ c2, ?_⟩
    have ht := h6 j (by omega)
    rw [hr] at ht
    refine ht.keep fun x ⟨g1, g2, g3, g4⟩ hx => ⟨g4, ?_⟩
    rw [Below.heap_setCell _ ⟨rb, 2, none⟩ _ x g2, Below.heap_setCell _ ⟨rb, 1, none⟩ _ x g2, Below.heap_setCell _ ⟨rb, 0, none⟩ _ x g2]
set_option maxHeartbeats 16000000 in
set_option maxRecDepth 100000 in
theorem l5rep_node (w : World) (a c : Int) (A : Option Addr) (n k : Nat) (ua uc : Int) (uA : Option Addr) (um uk : Nat) (x : Int) (ts : Nat → Tm) (fb go : Nat → Bool) (fu : Bool) (xt rt : Nat → Tm) (ok : Nat → Prop) (hok : ∀ k, ok k → k < w.heap.size) (hn : n ≤ 2) (hac : ¬ (a = 97 ∧ c = x))
    (hk : ∀ j, j < n → ∃ (q : Nat) (a' c' : Int) (A' : Option Addr) (m' k' : Nat), A = some ⟨q, 0, none⟩ ∧ w.cell? ⟨q, j * 3, none⟩ = some (.int .u8 a') ∧ w.cell? ⟨q, j * 3 + 1, none⟩ = some (.int .u8 c') ∧ w.cell? ⟨q, j * 3 + 2, none⟩ = some (.slice A' m' k') ∧ NdIn w ok (ndV a' c' A' m' k') (xt j) ∧
      (∀ V, Below w.heap.size w V → Calls Try.prog 38 #[ndV a' c' A' m' k', .int .u8 x] V fun e w' => e = .returned (.bool (fb j)) ∧ Below V.heap.size V w') ∧
      (∀ V, Below w.heap.size w V → Calls Try.prog 34 #[ndV a' c' A' m' k', .int .u8 x, ndV ua uc uA um uk] V fun e w' => ∃ (a2 c2 : Int) (A2 : Option Addr) (m2 k2 : Nat), e = .returned (.tuple #[ndV a2 c2 A2 m2 k2, .bool (go j)]) ∧ NdIn w' (fun k => ok k ∨ V.heap.size ≤ k) (ndV a2 c2 A2 m2 k2) (rt j) ∧ Below V.heap.size V w'))
    (hfu : ¬ c = 0 → ∀ V, Below w.heap.size w V → Calls Try.prog 38 #[ndV ua uc uA um uk, .int .u8 c] V fun e w' => e = .returned (.bool fu) ∧ Below V.heap.size V w')
    (hts : ∀ j, ts j = if ((j == 1 && c == x) || !fb j) = true then xt j else rt j) (gs : Nat → Bool) (hg0 : gs 0 = true) (hgs : ∀ j, gs (j + 1) = (gs j && (((j == 1 && c == x) || !fb j) || (go j && (j == 0 || c == 0 || !fu))))) :
    Calls Try.prog 34 #[ndV a c A n k, .int .u8 x, ndV ua uc uA um uk] w fun e w' => ∃ (A2 : Option Addr) (k2 : Nat), e = .returned (.tuple #[ndV a c A2 n k2, .bool (gs n)]) ∧ (n = 0 ∨ ∃ g, A2 = some ⟨g, 0, none⟩ ∧ w.heap.size ≤ g ∧ n ≤ k2 ∧ ∀ j, j < n → ∃ f0 f1 f2, w'.cell? ⟨g, j * 3, none⟩ = some f0 ∧ w'.cell? ⟨g, j * 3 + 1, none⟩ = some f1 ∧ w'.cell? ⟨g, j * 3 + 2, none⟩ = some f2 ∧ NdIn w' (fun k => ok k ∨ w.heap.size ≤ k) (.agg #[f0, f1, f2]) (ts j)) ∧ Below w.heap.size w w' := by
  have HOK := Aside0.mk hok
  have HN := Aside0.mk hn
  have HK := Aside0.mk hk
  have HFU := Aside0.mk hfu
  have HTS := Aside0.mk hts
  have HG0 := Aside0.mk hg0
  have HGS := Aside0.mk hgs
  clear hok hn hk hfu hts hg0 hgs
  unfold ndV
  by_cases ha : a = 97
  · have hc : (c == x) = false := by simp; exact fun h => hac ⟨ha, h⟩
    have ha1 : (a == 97) = true := by simp [ha]
    clear ha hac
    go_enter Try.func34, Try.ntmps34
    go_wp2
    clear ha1 hc
    obtain ⟨o, ho⟩ : ∃ o, o = w.heap.size + 1 + 1 + 1 + 1 := ⟨_, rfl⟩
    obtain ⟨b3, hb3_⟩ : ∃ b, b = w.heap.size + 1 + 1 + 1 := ⟨_, rfl⟩
    obtain ⟨rb, hrb⟩ : ∃ b, b = w.heap.size + 1 + 1 := ⟨_, rfl⟩
    obtain ⟨bu, hbu⟩ : ∃ b, b = w.heap.size + 1 := ⟨_, rfl⟩
    obtain ⟨bn, hbn⟩ : ∃ b, b = w.heap.size := ⟨_, rfl⟩
    rw [← ho, ← hb3_, ← hrb, ← hbu, ← hbn]
    obtain ⟨U, hU⟩ : ∃ U, U = ((((w.alloc (.cells #[.int .u8 a, .int .u8 c, .slice A n k] 45)).alloc (.cells #[.int .u8 ua, .int .u8 uc, .slice uA um uk] 45)).alloc (.cells #[.int .u8 0, .int .u8 0, .slice none 0 0] 45)).alloc (.cells #[] 45)).alloc (.cells #[.int .u8 a, .int .u8 c, .slice (some ⟨b3, 0, none⟩) 0 0] 45) := ⟨_, rfl⟩
    rw [← hU]
    have HR0 := Aside0.mk (show ROut U w.heap.size bn bu rb o a c A n k ua uc uA um uk ts ok (some ⟨b3, 0, none⟩) 0 0 [] from rout_start w a c A n k ua uc uA um uk ts ok hbn hbu hrb hb3_ ho hU)
    have HB0 := Aside0.mk (show Below w.heap.size w U from by rw [hU]; exact ((((((Below.refl _ w).alloc (Nat.le_refl _) _).alloc (by simp) _).alloc (by simp; omega) _).alloc (by simp; omega) _).alloc (by simp; omega) _))
    have HOW := Aside0.mk (show w.heap.size ≤ o from by omega)
    have HRW := Aside0.mk (show w.heap.size ≤ rb from by omega)
    have HRN := Aside0.mk (show rb < o ∧ bn < rb ∧ bu < rb from by omega)
    clear ho hb3_ hrb hbu hbn hU
    go_loopg [9, 33] n (fun kq v9 v33 w' => ∃ (i : Nat) (gb : Bool) (As : Option Addr) (ks : Nat) (rows : List (List Value)), v9 = .bool gb ∧ v33 = .int .i64 (i : Int) ∧ Aside0 (kq + i = n) ∧ Aside0 (ROut w' w.heap.size bn bu rb o a c A n k ua uc uA um uk ts ok As i ks rows) ∧ Aside0 (rows.length = i) ∧ Aside0 (Below w.heap.size w w') ∧ Aside0 (gb = gs i))
    case atStart => exact ⟨0, true, _, _, _, rfl, rfl, ⟨by omega⟩, HR0, ⟨rfl⟩, HB0, ⟨HG0.out.symm⟩⟩
    case round =>
      clear HR0 HB0
      obtain ⟨i, gb, As, ks, rows, rfl, rfl, HI, HR, HXL, HB, HGB⟩ := hrel
      by_cases hi : i < n
      · have hlt : (i : Int) < (n : Int) := by omega
        have h0 : (0 : Int) ≤ (i : Int) := by omega
        obtain ⟨q, a', c', A', m', k', rfl, hc0, hc1, hc2, hin, hfb, hrp⟩ := HK.out i hi
        have hd0 : wr.cell? ⟨q, i * 3, none⟩ = some _ := cell_keep HB.out _ _ hc0
        have hd1 : wr.cell? ⟨q, i * 3 + 1, none⟩ = some _ := cell_keep HB.out _ _ hc1
        have hd2 : wr.cell? ⟨q, i * 3 + 2, none⟩ = some _ := cell_keep HB.out _ _ hc2
        have HFB := Aside0.mk hfb
        have HRP := Aside0.mk hrp
        have HIN := Aside0.mk hin
        have HH := Aside0.mk hi
        have HB01 := Aside0.mk (show Below wr.heap.size wr (wr.alloc (.cells #[.int .u8 a', .int .u8 c', .slice A' m' k'] 45)) from (Below.refl _ _).alloc (Nat.le_refl _) _)
        have HR1 := Aside0.mk (rout_below HR.out HB01.out)
        have HB1 := Aside0.mk (HB.out.trans (HB01.out.mono HB.out.size))
        have P0 := Aside0.mk (show (wr.alloc (.cells #[.int .u8 a', .int .u8 c', .slice A' m' k'] 45)).cell? ⟨wr.heap.size, 0, none⟩ = some (.int .u8 a') from World.cell?_alloc_new _ _ _ _)
        have P1 := Aside0.mk (show (wr.alloc (.cells #[.int .u8 a', .int .u8 c', .slice A' m' k'] 45)).cell? ⟨wr.heap.size, 1, none⟩ = some (.int .u8 c') from World.cell?_alloc_new _ _ _ _)
        have P2 := Aside0.mk (show (wr.alloc (.cells #[.int .u8 a', .int .u8 c', .slice A' m' k'] 45)).cell? ⟨wr.heap.size, 2, none⟩ = some (.slice A' m' k') from World.cell?_alloc_new _ _ _ _)
        have hcl := rout_cells HR1.out
        have cn1 := hcl.1
        clear hc0 hc1 hc2 hin hfb hrp hi hcl
        by_cases i1 : i = 1
        · have q1 : ((i : Int) == 1) = true := by simp [i1]
          have q0 : ((i : Int) == 0) = false := by simp; omega
          have HI1 := Aside0.mk i1
          clear i1
          cases hcx : c == x with
          | true =>
            have HCC := Aside0.mk (show ((i == 1 && c == x) || !fb i) = true from by rw [HI1.out, hcx]; rfl)
            have p0_ := P0.out
            have p1_ := P1.out
            have p2_ := P2.out
            have HTQ := Aside0.mk (show NdIn (wr.alloc (.cells #[.int .u8 a', .int .u8 c', .slice A' m' k'] 45)) (fun k => k ≠ o ∧ k ≠ rb ∧ some k ≠ (Value.slice As i ks).ownBlock ∧ (ok k ∨ w.heap.size ≤ k)) (.agg ([.int .u8 a', .int .u8 c', .slice A' m' k'] : List Value).toArray) (ts rows.length) from by rw [HXL.out, HTS.out i, if_pos HCC.out]; exact (HIN.out.below HB1.out).mono fun k hk _ => rout_fresh HR1.out HOK.out HRW.out (.inl hk))
            have hcl := rout_cells HR1.out
            have o2 := hcl.2.2.2.2.1
            clear hcl
            go_wp2_with (first | ((with_reducible refine gate_builtin (b := .append) (xs := #[.tmp 53, .tmp 55]) rfl ?_); at_builtin; refine Kd.R_append (Kd.raw 3) (w0 := w) w.heap.size rfl (.tmp 53) (.tmp 55) 43 45 (.agg #[.int .u8 0, .int .u8 0, .slice none 0 0]) 32 rfl Try.underlying43 nd_info rfl (by decide) (by omega) _ rows [.int .u8 a', .int .u8 c', .slice A' m' k'] [.int .u8 a', .int .u8 c', .slice A' m' k'] (fun k => k ≠ o ∧ k ≠ bn ∧ k ≠ bu ∧ k ≠ rb) (fun _ => False) rfl ?aX ?aP (fun _ hk => hk.elim) ?aF ?aO ?aB ?aS ?aL ?_; (case aX => first | rfl | (simp [Act.eval]; done) | (show Value.slice _ _ _ = Value.slice _ _ _; simp)); (case aP => exact ⟨rfl, rfl, fun u hu => by simp at hu; rcases hu with rfl | rfl | rfl <;> rfl⟩); (case aF => exact fun k hk => rout_new HR1.out hk); (case aO => exact HR1.out.2.2.2.2.1); (case aB => exact HB1.out); (case aS => exact HB1.out.size); (case aL => have := HXL.out; have := HN.out; have := HH.out; omega); intro v4 w21 ho hb4 hg4 hat4; obtain ⟨A4, c4, hv4, hle4, hC4⟩ := Kd.R_reads ho; have hx4 : ∃ m, m = i + 1 ∧ v4 = .slice A4 m c4 := ⟨_, by rw [List.length_append, List.length_singleton, HXL.out], hv4⟩; clear hv4; obtain ⟨m4, hm4, hv4⟩ := hx4; subst hv4; have HM4 := Aside0.mk hm4; have HST := Aside0.mk (rout_step HR1.out ho hg4 hat4 HTQ.out); have HBX := Aside0.mk (show Below w.heap.size w (w21.setCell ⟨o, 2, none⟩ (.slice A4 m4 c4)) from below_set hb4 HOW.out); have c3_ : w21.cell? ⟨o, 2, none⟩ = some (.slice As i ks) := (by rw [blk_cell (rout_o HR1.out hg4)]; rfl); have f3_ : w21.frozen? ⟨o, 2, none⟩ = false := blk_frozen (rout_o HR1.out hg4) 2; clear ho hb4 hg4 hat4 hle4 hC4 hm4))
            go_roundg (gk - 1)
            case measure => have := HI.out; have := HH.out; omega
            case rel =>
              have hm := HM4.out
              subst hm
              refine ⟨i + 1, gb, _, _, _, rfl, ?_, ⟨by have := HI.out; have := HH.out; omega⟩, HST, ⟨by rw [List.length_append, List.length_singleton, HXL.out]⟩, HBX, ⟨by rw [HGS.out i, show ((i == 1 && c == x) || !fb i) = true from HCC.out, HGB.out]; simp⟩⟩
              have := HN.out; have := HH.out
              have e1 : IntKind.i64.wrap ((i : Int) + 1) = ((i + 1 : Nat) : Int) := by rw [IntKind.wrap_i64]; omega
              have e2 : wrap64 ((i : Int) + 1) = ((i + 1 : Nat) : Int) := by rw [wrap64]; omega
              first | rfl | (rw [← e1]; done) | (rw [← e2]; done) | (simp [e1]; done) | (simp [e2]; done) | (show Value.int .i64 _ = _; rw [e1]; done) | (show Value.int .i64 _ = _; rw [e2])
          | false =>
            have HNX := Aside0.mk (show (i == 1 && c == x) = false from by rw [hcx]; simp)
            go_wp2_with fail
            have hcF := HFB.out _ HB1.out
            unfold ndV at hcF
            refine hcF.mono ?_
            rintro e w2 ⟨rfl, hb2⟩
            clear hcF
            have HR2 := Aside0.mk (rout_below HR1.out hb2)
            have HB2 := Aside0.mk (HB1.out.trans (hb2.mono HB1.out.size))
            have hcl := rout_cells HR2.out
            have cn1 := hcl.1
            have cu0 := hcl.2.1
            have cu1 := hcl.2.2.1
            have cu2 := hcl.2.2.2.1
            have p0_ := cell_keep hb2 _ _ P0.out
            have p1_ := cell_keep hb2 _ _ P1.out
            have p2_ := cell_keep hb2 _ _ P2.out
            clear hb2 hcl
            cases hfb : fb i with
            | false =>
              have HCC := Aside0.mk (show ((i == 1 && c == x) || !fb i) = true from by rw [hfb]; simp)
              clear hfb
              have HTQ := Aside0.mk (show NdIn w2 (fun k => k ≠ o ∧ k ≠ rb ∧ some k ≠ (Value.slice As i ks).ownBlock ∧ (ok k ∨ w.heap.size ≤ k)) (.agg ([.int .u8 a', .int .u8 c', .slice A' m' k'] : List Value).toArray) (ts rows.length) from by rw [HXL.out, HTS.out i, if_pos HCC.out]; exact (HIN.out.below HB2.out).mono fun k hk _ => rout_fresh HR2.out HOK.out HRW.out (.inl hk))
              have hcl := rout_cells HR2.out
              have o2 := hcl.2.2.2.2.1
              clear hcl
              go_wp2_with (first | ((with_reducible refine gate_builtin (b := .append) (xs := #[.tmp 53, .tmp 55]) rfl ?_); at_builtin; refine Kd.R_append (Kd.raw 3) (w0 := w) w.heap.size rfl (.tmp 53) (.tmp 55) 43 45 (.agg #[.int .u8 0, .int .u8 0, .slice none 0 0]) 32 rfl Try.underlying43 nd_info rfl (by decide) (by omega) _ rows [.int .u8 a', .int .u8 c', .slice A' m' k'] [.int .u8 a', .int .u8 c', .slice A' m' k'] (fun k => k ≠ o ∧ k ≠ bn ∧ k ≠ bu ∧ k ≠ rb) (fun _ => False) rfl ?aX ?aP (fun _ hk => hk.elim) ?aF ?aO ?aB ?aS ?aL ?_; (case aX => first | rfl | (simp [Act.eval]; done) | (show Value.slice _ _ _ = Value.slice _ _ _; simp)); (case aP => exact ⟨rfl, rfl, fun u hu => by simp at hu; rcases hu with rfl | rfl | rfl <;> rfl⟩); (case aF => exact fun k hk => rout_new HR2.out hk); (case aO => exact HR2.out.2.2.2.2.1); (case aB => exact HB2.out); (case aS => exact HB2.out.size); (case aL => have := HXL.out; have := HN.out; have := HH.out; omega); intro v4 w21 ho hb4 hg4 hat4; obtain ⟨A4, c4, hv4, hle4, hC4⟩ := Kd.R_reads ho; have hx4 : ∃ m, m = i + 1 ∧ v4 = .slice A4 m c4 := ⟨_, by rw [List.length_append, List.length_singleton, HXL.out], hv4⟩; clear hv4; obtain ⟨m4, hm4, hv4⟩ := hx4; subst hv4; have HM4 := Aside0.mk hm4; have HST := Aside0.mk (rout_step HR2.out ho hg4 hat4 HTQ.out); have HBX := Aside0.mk (show Below w.heap.size w (w21.setCell ⟨o, 2, none⟩ (.slice A4 m4 c4)) from below_set hb4 HOW.out); have c3_ : w21.cell? ⟨o, 2, none⟩ = some (.slice As i ks) := (by rw [blk_cell (rout_o HR2.out hg4)]; rfl); have f3_ : w21.frozen? ⟨o, 2, none⟩ = false := blk_frozen (rout_o HR2.out hg4) 2; clear ho hb4 hg4 hat4 hle4 hC4 hm4))
              go_roundg (gk - 1)
              case measure => have := HI.out; have := HH.out; omega
              case rel =>
                have hm := HM4.out
                subst hm
                refine ⟨i + 1, gb, _, _, _, rfl, ?_, ⟨by have := HI.out; have := HH.out; omega⟩, HST, ⟨by rw [List.length_append, List.length_singleton, HXL.out]⟩, HBX, ⟨by rw [HGS.out i, show ((i == 1 && c == x) || !fb i) = true from HCC.out, HGB.out]; simp⟩⟩
                have := HN.out; have := HH.out
                have e1 : IntKind.i64.wrap ((i : Int) + 1) = ((i + 1 : Nat) : Int) := by rw [IntKind.wrap_i64]; omega
                have e2 : wrap64 ((i : Int) + 1) = ((i + 1 : Nat) : Int) := by rw [wrap64]; omega
                first | rfl | (rw [← e1]; done) | (rw [← e2]; done) | (simp [e1]; done) | (simp [e2]; done) | (show Value.int .i64 _ = _; rw [e1]; done) | (show Value.int .i64 _ = _; rw [e2])
            | true =>
              have HNC := Aside0.mk (show ((i == 1 && c == x) || !fb i) = false from by rw [hfb, HNX.out]; rfl)
              clear hfb
              go_wp2_with fail
              have hcR := HRP.out w2 HB2.out
              unfold ndV at hcR
              refine hcR.mono ?_
              rintro e w3 ⟨a2, c2, A2, m2, k2, rfl, hin, hb3⟩
              clear hcR cn1 cu0 cu1 cu2 p0_ p1_ p2_
              have HR3 := Aside0.mk (rout_below HR2.out hb3)
              have HB3 := Aside0.mk (HB2.out.trans (hb3.mono HB2.out.size))
              have HQ := Aside0.mk hin
              have HB34 := Aside0.mk (show Below w3.heap.size w3 (w3.alloc (.cells #[.int .u8 a2, .int .u8 c2, .slice A2 m2 k2] 45)) from (Below.refl _ _).alloc (Nat.le_refl _) _)
              have HR4 := Aside0.mk (rout_below HR3.out HB34.out)
              have HB4 := Aside0.mk (HB3.out.trans (HB34.out.mono HB3.out.size))
              have hcl := rout_cells HR4.out
              have cn1 := hcl.1
              have cu0 := hcl.2.1
              have cu1 := hcl.2.2.1
              have cu2 := hcl.2.2.2.1
              clear hin hb3 hcl
              cases gb with
              | false =>
                have HTQ := Aside0.mk (show NdIn (w3.alloc (.cells #[.int .u8 a2, .int .u8 c2, .slice A2 m2 k2] 45)) (fun k => k ≠ o ∧ k ≠ rb ∧ some k ≠ (Value.slice As i ks).ownBlock ∧ (ok k ∨ w.heap.size ≤ k)) (.agg ([.int .u8 a2, .int .u8 c2, .slice A2 m2 k2] : List Value).toArray) (ts rows.length) from by rw [HXL.out, HTS.out i, if_neg (by rw [HNC.out]; decide)]; exact (HQ.out.below HB34.out).mono fun k hk _ => rout_fresh HR2.out HOK.out HRW.out hk)
                have hcl := rout_cells HR4.out
                have o2 := hcl.2.2.2.2.1
                clear hcl
                go_wp2_with (first | ((with_reducible refine gate_builtin (b := .append) (xs := #[.tmp 86, .tmp 88]) rfl ?_); at_builtin; refine Kd.R_append (Kd.raw 3) (w0 := w) w.heap.size rfl (.tmp 86) (.tmp 88) 43 45 (.agg #[.int .u8 0, .int .u8 0, .slice none 0 0]) 32 rfl Try.underlying43 nd_info rfl (by decide) (by omega) _ rows [.int .u8 a2, .int .u8 c2, .slice A2 m2 k2] [.int .u8 a2, .int .u8 c2, .slice A2 m2 k2] (fun k => k ≠ o ∧ k ≠ bn ∧ k ≠ bu ∧ k ≠ rb) (fun _ => False) rfl ?aX ?aP (fun _ hk => hk.elim) ?aF ?aO ?aB ?aS ?aL ?_; (case aX => first | rfl | (simp [Act.eval]; done) | (show Value.slice _ _ _ = Value.slice _ _ _; simp)); (case aP => exact ⟨rfl, rfl, fun u hu => by simp at hu; rcases hu with rfl | rfl | rfl <;> rfl⟩); (case aF => exact fun k hk => rout_new HR4.out hk); (case aO => exact HR4.out.2.2.2.2.1); (case aB => exact HB4.out); (case aS => exact HB4.out.size); (case aL => have := HXL.out; have := HN.out; have := HH.out; omega); intro v4 w21 ho hb4 hg4 hat4; obtain ⟨A4, c4, hv4, hle4, hC4⟩ := Kd.R_reads ho; have hx4 : ∃ m, m = i + 1 ∧ v4 = .slice A4 m c4 := ⟨_, by rw [List.length_append, List.length_singleton, HXL.out], hv4⟩; clear hv4; obtain ⟨m4, hm4, hv4⟩ := hx4; subst hv4; have HM4 := Aside0.mk hm4; have HST := Aside0.mk (rout_step HR4.out ho hg4 hat4 HTQ.out); have HBX := Aside0.mk (show Below w.heap.size w (w21.setCell ⟨o, 2, none⟩ (.slice A4 m4 c4)) from below_set hb4 HOW.out); have c3_ : w21.cell? ⟨o, 2, none⟩ = some (.slice As i ks) := (by rw [blk_cell (rout_o HR4.out hg4)]; rfl); have f3_ : w21.frozen? ⟨o, 2, none⟩ = false := blk_frozen (rout_o HR4.out hg4) 2; clear ho hb4 hg4 hat4 hle4 hC4 hm4))
                go_roundg (gk - 1)
                case measure => have := HI.out; have := HH.out; omega
                case rel =>
                  have hm := HM4.out
                  subst hm
                  refine ⟨i + 1, false, _, _, _, rfl, ?_, ⟨by have := HI.out; have := HH.out; omega⟩, HST, ⟨by rw [List.length_append, List.length_singleton, HXL.out]⟩, HBX, ⟨by rw [HGS.out i, HNC.out, ← HGB.out]; rfl⟩⟩
                  have := HN.out; have := HH.out
                  have e1 : IntKind.i64.wrap ((i : Int) + 1) = ((i + 1 : Nat) : Int) := by rw [IntKind.wrap_i64]; omega
                  have e2 : wrap64 ((i : Int) + 1) = ((i + 1 : Nat) : Int) := by rw [wrap64]; omega
                  first | rfl | (rw [← e1]; done) | (rw [← e2]; done) | (simp [e1]; done) | (simp [e2]; done) | (show Value.int .i64 _ = _; rw [e1]; done) | (show Value.int .i64 _ = _; rw [e2])
              | true =>
                cases hgo : go i with
                | false =>
                  have HGO := Aside0.mk hgo
                  clear hgo
                  have HTQ := Aside0.mk (show NdIn (w3.alloc (.cells #[.int .u8 a2, .int .u8 c2, .slice A2 m2 k2] 45)) (fun k => k ≠ o ∧ k ≠ rb ∧ some k ≠ (Value.slice As i ks).ownBlock ∧ (ok k ∨ w.heap.size ≤ k)) (.agg ([.int .u8 a2, .int .u8 c2, .slice A2 m2 k2] : List Value).toArray) (ts rows.length) from by rw [HXL.out, HTS.out i, if_neg (by rw [HNC.out]; decide)]; exact (HQ.out.below HB34.out).mono fun k hk _ => rout_fresh HR2.out HOK.out HRW.out hk)
                  have hcl := rout_cells HR4.out
                  have o2 := hcl.2.2.2.2.1
                  clear hcl
                  go_wp2_with (first | ((with_reducible refine gate_builtin (b := .append) (xs := #[.tmp 86, .tmp 88]) rfl ?_); at_builtin; refine Kd.R_append (Kd.raw 3) (w0 := w) w.heap.size rfl (.tmp 86) (.tmp 88) 43 45 (.agg #[.int .u8 0, .int .u8 0, .slice none 0 0]) 32 rfl Try.underlying43 nd_info rfl (by decide) (by omega) _ rows [.int .u8 a2, .int .u8 c2, .slice A2 m2 k2] [.int .u8 a2, .int .u8 c2, .slice A2 m2 k2] (fun k => k ≠ o ∧ k ≠ bn ∧ k ≠ bu ∧ k ≠ rb) (fun _ => False) rfl ?aX ?aP (fun _ hk => hk.elim) ?aF ?aO ?aB ?aS ?aL ?_; (case aX => first | rfl | (simp [Act.eval]; done) | (show Value.slice _ _ _ = Value.slice _ _ _; simp)); (case aP => exact ⟨rfl, rfl, fun u hu => by simp at hu; rcases hu with rfl | rfl | rfl <;> rfl⟩); (case aF => exact fun k hk => rout_new HR4.out hk); (case aO => exact HR4.out.2.2.2.2.1); (case aB => exact HB4.out); (case aS => exact HB4.out.size); (case aL => have := HXL.out; have := HN.out; have := HH.out; omega); intro v4 w21 ho hb4 hg4 hat4; obtain ⟨A4, c4, hv4, hle4, hC4⟩ := Kd.R_reads ho; have hx4 : ∃ m, m = i + 1 ∧ v4 = .slice A4 m c4 := ⟨_, by rw [List.length_append, List.length_singleton, HXL.out], hv4⟩; clear hv4; obtain ⟨m4, hm4, hv4⟩ := hx4; subst hv4; have HM4 := Aside0.mk hm4; have HST := Aside0.mk (rout_step HR4.out ho hg4 hat4 HTQ.out); have HBX := Aside0.mk (show Below w.heap.size w (w21.setCell ⟨o, 2, none⟩ (.slice A4 m4 c4)) from below_set hb4 HOW.out); have c3_ : w21.cell? ⟨o, 2, none⟩ = some (.slice As i ks) := (by rw [blk_cell (rout_o HR4.out hg4)]; rfl); have f3_ : w21.frozen? ⟨o, 2, none⟩ = false := blk_frozen (rout_o HR4.out hg4) 2; clear ho hb4 hg4 hat4 hle4 hC4 hm4))
                  go_roundg (gk - 1)
                  case measure => have := HI.out; have := HH.out; omega
                  case rel =>
                    have hm := HM4.out
                    subst hm
                    refine ⟨i + 1, false, _, _, _, rfl, ?_, ⟨by have := HI.out; have := HH.out; omega⟩, HST, ⟨by rw [List.length_append, List.length_singleton, HXL.out]⟩, HBX, ⟨by rw [HGS.out i, HNC.out, ← HGB.out]; rw [HGO.out]; rfl⟩⟩
                    have := HN.out; have := HH.out
                    have e1 : IntKind.i64.wrap ((i : Int) + 1) = ((i + 1 : Nat) : Int) := by rw [IntKind.wrap_i64]; omega
                    have e2 : wrap64 ((i : Int) + 1) = ((i + 1 : Nat) : Int) := by rw [wrap64]; omega
                    first | rfl | (rw [← e1]; done) | (rw [← e2]; done) | (simp [e1]; done) | (simp [e2]; done) | (show Value.int .i64 _ = _; rw [e1]; done) | (show Value.int .i64 _ = _; rw [e2])
                | true =>
                  have HGO := Aside0.mk hgo
                  clear hgo
                  by_cases c0 : c = 0
                  · have c0b : (c == 0) = true := by simp [c0]
                    have HC0 := Aside0.mk c0b
                    clear c0
                    have HTQ := Aside0.mk (show NdIn (w3.alloc (.cells #[.int .u8 a2, .int .u8 c2, .slice A2 m2 k2] 45)) (fun k => k ≠ o ∧ k ≠ rb ∧ some k ≠ (Value.slice As i ks).ownBlock ∧ (ok k ∨ w.heap.size ≤ k)) (.agg ([.int .u8 a2, .int .u8 c2, .slice A2 m2 k2] : List Value).toArray) (ts rows.length) from by rw [HXL.out, HTS.out i, if_neg (by rw [HNC.out]; decide)]; exact (HQ.out.below HB34.out).mono fun k hk _ => rout_fresh HR2.out HOK.out HRW.out hk)
                    have hcl := rout_cells HR4.out
                    have o2 := hcl.2.2.2.2.1
                    clear hcl
                    go_wp2_with (first | ((with_reducible refine gate_builtin (b := .append) (xs := #[.tmp 86, .tmp 88]) rfl ?_); at_builtin; refine Kd.R_append (Kd.raw 3) (w0 := w) w.heap.size rfl (.tmp 86) (.tmp 88) 43 45 (.agg #[.int .u8 0, .int .u8 0, .slice none 0 0]) 32 rfl Try.underlying43 nd_info rfl (by decide) (by omega) _ rows [.int .u8 a2, .int .u8 c2, .slice A2 m2 k2] [.int .u8 a2, .int .u8 c2, .slice A2 m2 k2] (fun k => k ≠ o ∧ k ≠ bn ∧ k ≠ bu ∧ k ≠ rb) (fun _ => False) rfl ?aX ?aP (fun _ hk => hk.elim) ?aF ?aO ?aB ?aS ?aL ?_; (case aX => first | rfl | (simp [Act.eval]; done) | (show Value.slice _ _ _ = Value.slice _ _ _; simp)); (case aP => exact ⟨rfl, rfl, fun u hu => by simp at hu; rcases hu with rfl | rfl | rfl <;> rfl⟩); (case aF => exact fun k hk => rout_new HR4.out hk); (case aO => exact HR4.out.2.2.2.2.1); (case aB => exact HB4.out); (case aS => exact HB4.out.size); (case aL => have := HXL.out; have := HN.out; have := HH.out; omega); intro v4 w21 ho hb4 hg4 hat4; obtain ⟨A4, c4, hv4, hle4, hC4⟩ := Kd.R_reads ho; have hx4 : ∃ m, m = i + 1 ∧ v4 = .slice A4 m c4 := ⟨_, by rw [List.length_append, List.length_singleton, HXL.out], hv4⟩; clear hv4; obtain ⟨m4, hm4, hv4⟩ := hx4; subst hv4; have HM4 := Aside0.mk hm4; have HST := Aside0.mk (rout_step HR4.out ho hg4 hat4 HTQ.out); have HBX := Aside0.mk (show Below w.heap.size w (w21.setCell ⟨o, 2, none⟩ (.slice A4 m4 c4)) from below_set hb4 HOW.out); have c3_ : w21.cell? ⟨o, 2, none⟩ = some (.slice As i ks) := (by rw [blk_cell (rout_o HR4.out hg4)]; rfl); have f3_ : w21.frozen? ⟨o, 2, none⟩ = false := blk_frozen (rout_o HR4.out hg4) 2; clear ho hb4 hg4 hat4 hle4 hC4 hm4))
                    go_roundg (gk - 1)
                    case measure => have := HI.out; have := HH.out; omega
                    case rel =>
                      have hm := HM4.out
                      subst hm
                      refine ⟨i + 1, true, _, _, _, rfl, ?_, ⟨by have := HI.out; have := HH.out; omega⟩, HST, ⟨by rw [List.length_append, List.length_singleton, HXL.out]⟩, HBX, ⟨by rw [HGS.out i, HNC.out, ← HGB.out]; rw [HGO.out, HC0.out]; simp⟩⟩
                      have := HN.out; have := HH.out
                      have e1 : IntKind.i64.wrap ((i : Int) + 1) = ((i + 1 : Nat) : Int) := by rw [IntKind.wrap_i64]; omega
                      have e2 : wrap64 ((i : Int) + 1) = ((i + 1 : Nat) : Int) := by rw [wrap64]; omega
                      first | rfl | (rw [← e1]; done) | (rw [← e2]; done) | (simp [e1]; done) | (simp [e2]; done) | (show Value.int .i64 _ = _; rw [e1]; done) | (show Value.int .i64 _ = _; rw [e2])
                  · have c0b : (c == 0) = false := by simp [c0]
                    have HC0 := Aside0.mk (And.intro c0 c0b)
                    clear c0
                    go_wp2_with fail
                    have hcU := HFU.out HC0.out.1 _ HB4.out
                    unfold ndV at hcU
                    refine hcU.mono ?_
                    rintro e w5 ⟨rfl, hb5⟩
                    clear hcU cn1 cu0 cu1 cu2
                    have HR5 := Aside0.mk (rout_below HR4.out hb5)
                    have HB5 := Aside0.mk (HB4.out.trans (hb5.mono HB4.out.size))
                    have HB35 := Aside0.mk (HB34.out.trans (hb5.mono HB34.out.size))
                    have q0_ : w5.cell? ⟨w3.heap.size, 0, none⟩ = some (.int .u8 a2) := cell_keep hb5 _ _ (World.cell?_alloc_new _ _ _ _)
                    have q1_ : w5.cell? ⟨w3.heap.size, 1, none⟩ = some (.int .u8 c2) := cell_keep hb5 _ _ (World.cell?_alloc_new _ _ _ _)
                    have q2_ : w5.cell? ⟨w3.heap.size, 2, none⟩ = some (.slice A2 m2 k2) := cell_keep hb5 _ _ (World.cell?_alloc_new _ _ _ _)
                    clear hb5
                    have HTQ := Aside0.mk (show NdIn w5 (fun k => k ≠ o ∧ k ≠ rb ∧ some k ≠ (Value.slice As i ks).ownBlock ∧ (ok k ∨ w.heap.size ≤ k)) (.agg ([.int .u8 a2, .int .u8 c2, .slice A2 m2 k2] : List Value).toArray) (ts rows.length) from by rw [HXL.out, HTS.out i, if_neg (by rw [HNC.out]; decide)]; exact (HQ.out.below HB35.out).mono fun k hk _ => rout_fresh HR2.out HOK.out HRW.out hk)
                    have hcl := rout_cells HR5.out
                    have o2 := hcl.2.2.2.2.1
                    clear hcl
                    go_wp2_with (first | ((with_reducible refine gate_builtin (b := .append) (xs := #[.tmp 86, .tmp 88]) rfl ?_); at_builtin; refine Kd.R_append (Kd.raw 3) (w0 := w) w.heap.size rfl (.tmp 86) (.tmp 88) 43 45 (.agg #[.int .u8 0, .int .u8 0, .slice none 0 0]) 32 rfl Try.underlying43 nd_info rfl (by decide) (by omega) _ rows [.int .u8 a2, .int .u8 c2, .slice A2 m2 k2] [.int .u8 a2, .int .u8 c2, .slice A2 m2 k2] (fun k => k ≠ o ∧ k ≠ bn ∧ k ≠ bu ∧ k ≠ rb) (fun _ => False) rfl ?aX ?aP (fun _ hk => hk.elim) ?aF ?aO ?aB ?aS ?aL ?_; (case aX => first | rfl | (simp [Act.eval]; done) | (show Value.slice _ _ _ = Value.slice _ _ _; simp)); (case aP => exact ⟨rfl, rfl, fun u hu => by simp at hu; rcases hu with rfl | rfl | rfl <;> rfl⟩); (case aF => exact fun k hk => rout_new HR5.out hk); (case aO => exact HR5.out.2.2.2.2.1); (case aB => exact HB5.out); (case aS => exact HB5.out.size); (case aL => have := HXL.out; have := HN.out; have := HH.out; omega); intro v4 w21 ho hb4 hg4 hat4; obtain ⟨A4, c4, hv4, hle4, hC4⟩ := Kd.R_reads ho; have hx4 : ∃ m, m = i + 1 ∧ v4 = .slice A4 m c4 := ⟨_, by rw [List.length_append, List.length_singleton, HXL.out], hv4⟩; clear hv4; obtain ⟨m4, hm4, hv4⟩ := hx4; subst hv4; have HM4 := Aside0.mk hm4; have HST := Aside0.mk (rout_step HR5.out ho hg4 hat4 HTQ.out); have HBX := Aside0.mk (show Below w.heap.size w (w21.setCell ⟨o, 2, none⟩ (.slice A4 m4 c4)) from below_set hb4 HOW.out); have c3_ : w21.cell? ⟨o, 2, none⟩ = some (.slice As i ks) := (by rw [blk_cell (rout_o HR5.out hg4)]; rfl); have f3_ : w21.frozen? ⟨o, 2, none⟩ = false := blk_frozen (rout_o HR5.out hg4) 2; clear ho hb4 hg4 hat4 hle4 hC4 hm4))
                    go_roundg (gk - 1)
                    case measure => have := HI.out; have := HH.out; omega
                    case rel =>
                      have hm := HM4.out
                      subst hm
                      refine ⟨i + 1, (!fu), _, _, _, rfl, ?_, ⟨by have := HI.out; have := HH.out; omega⟩, HST, ⟨by rw [List.length_append, List.length_singleton, HXL.out]⟩, HBX, ⟨by rw [HGS.out i, HNC.out, ← HGB.out]; rw [HGO.out, HC0.out.2]; cases fu <;> simp [HI1.out]⟩⟩
                      have := HN.out; have := HH.out
                      have e1 : IntKind.i64.wrap ((i : Int) + 1) = ((i + 1 : Nat) : Int) := by rw [IntKind.wrap_i64]; omega
                      have e2 : wrap64 ((i : Int) + 1) = ((i + 1 : Nat) : Int) := by rw [wrap64]; omega
                      first | rfl | (rw [← e1]; done) | (rw [← e2]; done) | (simp [e1]; done) | (simp [e2]; done) | (show Value.int .i64 _ = _; rw [e1]; done) | (show Value.int .i64 _ = _; rw [e2])
        · have q1 : ((i : Int) == 1) = false := by simp; omega
          have q0 : ((i : Int) == 0) = true := by have := HN.out; have := HH.out; simp; omega
          have HI0 := Aside0.mk (show i = 0 from by have := HN.out; have := HH.out; omega)
          have HNX := Aside0.mk (show (i == 1 && c == x) = false from by rw [HI0.out]; rfl)
          clear i1
          go_wp2_with fail
          have hcF := HFB.out _ HB1.out
          unfold ndV at hcF
          refine hcF.mono ?_
          rintro e w2 ⟨rfl, hb2⟩
          clear hcF
          have HR2 := Aside0.mk (rout_below HR1.out hb2)
          have HB2 := Aside0.mk (HB1.out.trans (hb2.mono HB1.out.size))
          have hcl := rout_cells HR2.out
          have cn1 := hcl.1
          have cu0 := hcl.2.1
          have cu1 := hcl.2.2.1
          have cu2 := hcl.2.2.2.1
          have p0_ := cell_keep hb2 _ _ P0.out
          have p1_ := cell_keep hb2 _ _ P1.out
          have p2_ := cell_keep hb2 _ _ P2.out
          clear hb2 hcl
          cases hfb : fb i with
          | false =>
            have HCC := Aside0.mk (show ((i == 1 && c == x) || !fb i) = true from by rw [hfb]; simp)
            clear hfb
            have HTQ := Aside0.mk (show NdIn w2 (fun k => k ≠ o ∧ k ≠ rb ∧ some k ≠ (Value.slice As i ks).ownBlock ∧ (ok k ∨ w.heap.size ≤ k)) (.agg ([.int .u8 a', .int .u8 c', .slice A' m' k'] : List Value).toArray) (ts rows.length) from by rw [HXL.out, HTS.out i, if_pos HCC.out]; exact (HIN.out.below HB2.out).mono fun k hk _ => rout_fresh HR2.out HOK.out HRW.out (.inl hk))
            have hcl := rout_cells HR2.out
            have o2 := hcl.2.2.2.2.1
            clear hcl
            go_wp2_with (first | ((with_reducible refine gate_builtin (b := .append) (xs := #[.tmp 53, .tmp 55]) rfl ?_); at_builtin; refine Kd.R_append (Kd.raw 3) (w0 := w) w.heap.size rfl (.tmp 53) (.tmp 55) 43 45 (.agg #[.int .u8 0, .int .u8 0, .slice none 0 0]) 32 rfl Try.underlying43 nd_info rfl (by decide) (by omega) _ rows [.int .u8 a', .int .u8 c', .slice A' m' k'] [.int .u8 a', .int .u8 c', .slice A' m' k'] (fun k => k ≠ o ∧ k ≠ bn ∧ k ≠ bu ∧ k ≠ rb) (fun _ => False) rfl ?aX ?aP (fun _ hk => hk.elim) ?aF ?aO ?aB ?aS ?aL ?_; (case aX => first | rfl | (simp [Act.eval]; done) | (show Value.slice _ _ _ = Value.slice _ _ _; simp)); (case aP => exact ⟨rfl, rfl, fun u hu => by simp at hu; rcases hu with rfl | rfl | rfl <;> rfl⟩); (case aF => exact fun k hk => rout_new HR2.out hk); (case aO => exact HR2.out.2.2.2.2.1); (case aB => exact HB2.out); (case aS => exact HB2.out.size); (case aL => have := HXL.out; have := HN.out; have := HH.out; omega); intro v4 w21 ho hb4 hg4 hat4; obtain ⟨A4, c4, hv4, hle4, hC4⟩ := Kd.R_reads ho; have hx4 : ∃ m, m = i + 1 ∧ v4 = .slice A4 m c4 := ⟨_, by rw [List.length_append, List.length_singleton, HXL.out], hv4⟩; clear hv4; obtain ⟨m4, hm4, hv4⟩ := hx4; subst hv4; have HM4 := Aside0.mk hm4; have HST := Aside0.mk (rout_step HR2.out ho hg4 hat4 HTQ.out); have HBX := Aside0.mk (show Below w.heap.size w (w21.setCell ⟨o, 2, none⟩ (.slice A4 m4 c4)) from below_set hb4 HOW.out); have c3_ : w21.cell? ⟨o, 2, none⟩ = some (.slice As i ks) := (by rw [blk_cell (rout_o HR2.out hg4)]; rfl); have f3_ : w21.frozen? ⟨o, 2, none⟩ = false := blk_frozen (rout_o HR2.out hg4) 2; clear ho hb4 hg4 hat4 hle4 hC4 hm4))
            go_roundg (gk - 1)
            case measure => have := HI.out; have := HH.out; omega
            case rel =>
              have hm := HM4.out
              subst hm
              refine ⟨i + 1, gb, _, _, _, rfl, ?_, ⟨by have := HI.out; have := HH.out; omega⟩, HST, ⟨by rw [List.length_append, List.length_singleton, HXL.out]⟩, HBX, ⟨by rw [HGS.out i, show ((i == 1 && c == x) || !fb i) = true from HCC.out, HGB.out]; simp⟩⟩
              have := HN.out; have := HH.out
              have e1 : IntKind.i64.wrap ((i : Int) + 1) = ((i + 1 : Nat) : Int) := by rw [IntKind.wrap_i64]; omega
              have e2 : wrap64 ((i : Int) + 1) = ((i + 1 : Nat) : Int) := by rw [wrap64]; omega
              first | rfl | (rw [← e1]; done) | (rw [← e2]; done) | (simp [e1]; done) | (simp [e2]; done) | (show Value.int .i64 _ = _; rw [e1]; done) | (show Value.int .i64 _ = _; rw [e2])
          | true =>
            have HNC := Aside0.mk (show ((i == 1 && c == x) || !fb i) = false from by rw [hfb, HNX.out]; rfl)
            clear hfb
            go_wp2_with fail
            have hcR := HRP.out w2 HB2.out
            unfold ndV at hcR
            refine hcR.mono ?_
            rintro e w3 ⟨a2, c2, A2, m2, k2, rfl, hin, hb3⟩
            clear hcR cn1 cu0 cu1 cu2 p0_ p1_ p2_
            have HR3 := Aside0.mk (rout_below HR2.out hb3)
            have HB3 := Aside0.mk (HB2.out.trans (hb3.mono HB2.out.size))
            have HQ := Aside0.mk hin
            have HB34 := Aside0.mk (show Below w3.heap.size w3 (w3.alloc (.cells #[.int .u8 a2, .int .u8 c2, .slice A2 m2 k2] 45)) from (Below.refl _ _).alloc (Nat.le_refl _) _)
            have HR4 := Aside0.mk (rout_below HR3.out HB34.out)
            have HB4 := Aside0.mk (HB3.out.trans (HB34.out.mono HB3.out.size))
            have hcl := rout_cells HR4.out
            have cn1 := hcl.1
            have cu0 := hcl.2.1
            have cu1 := hcl.2.2.1
            have cu2 := hcl.2.2.2.1
            clear hin hb3 hcl
            cases gb with
            | false =>
              have HTQ := Aside0.mk (show NdIn (w3.alloc (.cells #[.int .u8 a2, .int .u8 c2, .slice A2 m2 k2] 45)) (fun k => k ≠ o ∧ k ≠ rb ∧ some k ≠ (Value.slice As i ks).ownBlock ∧ (ok k ∨ w.heap.size ≤ k)) (.agg ([.int .u8 a2, .int .u8 c2, .slice A2 m2 k2] : List Value).toArray) (ts rows.length) from by rw [HXL.out, HTS.out i, if_neg (by rw [HNC.out]; decide)]; exact (HQ.out.below HB34.out).mono fun k hk _ => rout_fresh HR2.out HOK.out HRW.out hk)
              have hcl := rout_cells HR4.out
              have o2 := hcl.2.2.2.2.1
              clear hcl
              go_wp2_with (first | ((with_reducible refine gate_builtin (b := .append) (xs := #[.tmp 86, .tmp 88]) rfl ?_); at_builtin; refine Kd.R_append (Kd.raw 3) (w0 := w) w.heap.size rfl (.tmp 86) (.tmp 88) 43 45 (.agg #[.int .u8 0, .int .u8 0, .slice none 0 0]) 32 rfl Try.underlying43 nd_info rfl (by decide) (by omega) _ rows [.int .u8 a2, .int .u8 c2, .slice A2 m2 k2] [.int .u8 a2, .int .u8 c2, .slice A2 m2 k2] (fun k => k ≠ o ∧ k ≠ bn ∧ k ≠ bu ∧ k ≠ rb) (fun _ => False) rfl ?aX ?aP (fun _ hk => hk.elim) ?aF ?aO ?aB ?aS ?aL ?_; (case aX => first | rfl | (simp [Act.eval]; done) | (show Value.slice _ _ _ = Value.slice _ _ _; simp)); (case aP => exact ⟨rfl, rfl, fun u hu => by simp at hu; rcases hu with rfl | rfl | rfl <;> rfl⟩); (case aF => exact fun k hk => rout_new HR4.out hk); (case aO => exact HR4.out.2.2.2.2.1); (case aB => exact HB4.out); (case aS => exact HB4.out.size); (case aL => have := HXL.out; have := HN.out; have := HH.out; omega); intro v4 w21 ho hb4 hg4 hat4; obtain ⟨A4, c4, hv4, hle4, hC4⟩ := Kd.R_reads ho; have hx4 : ∃ m, m = i + 1 ∧ v4 = .slice A4 m c4 := ⟨_, by rw [List.length_append, List.length_singleton, HXL.out], hv4⟩; clear hv4; obtain ⟨m4, hm4, hv4⟩ := hx4; subst hv4; have HM4 := Aside0.mk hm4; have HST := Aside0.mk (rout_step HR4.out ho hg4 hat4 HTQ.out); have HBX := Aside0.mk (show Below w.heap.size w (w21.setCell ⟨o, 2, none⟩ (.slice A4 m4 c4)) from below_set hb4 HOW.out); have c3_ : w21.cell? ⟨o, 2, none⟩ = some (.slice As i ks) := (by rw [blk_cell (rout_o HR4.out hg4)]; rfl); have f3_ : w21.frozen? ⟨o, 2, none⟩ = false := blk_frozen (rout_o HR4.out hg4) 2; clear ho hb4 hg4 hat4 hle4 hC4 hm4))
              go_roundg (gk - 1)
              case measure => have := HI.out; have := HH.out; omega
              case rel =>
                have hm := HM4.out
                subst hm
                refine ⟨i + 1, false, _, _, _, rfl, ?_, ⟨by have := HI.out; have := HH.out; omega⟩, HST, ⟨by rw [List.length_append, List.length_singleton, HXL.out]⟩, HBX, ⟨by rw [HGS.out i, HNC.out, ← HGB.out]; rfl⟩⟩
                have := HN.out; have := HH.out
                have e1 : IntKind.i64.wrap ((i : Int) + 1) = ((i + 1 : Nat) : Int) := by rw [IntKind.wrap_i64]; omega
                have e2 : wrap64 ((i : Int) + 1) = ((i + 1 : Nat) : Int) := by rw [wrap64]; omega
                first | rfl | (rw [← e1]; done) | (rw [← e2]; done) | (simp [e1]; done) | (simp [e2]; done) | (show Value.int .i64 _ = _; rw [e1]; done) | (show Value.int .i64 _ = _; rw [e2])
            | true =>
              cases hgo : go i with
              | false =>
                have HGO := Aside0.mk hgo
                clear hgo
                have HTQ := Aside0.mk (show NdIn (w3.alloc (.cells #[.int .u8 a2, .int .u8 c2, .slice A2 m2 k2] 45)) (fun k => k ≠ o ∧ k ≠ rb ∧ some k ≠ (Value.slice As i ks).ownBlock ∧ (ok k ∨ w.heap.size ≤ k)) (.agg ([.int .u8 a2, .int .u8 c2, .slice A2 m2 k2] : List Value).toArray) (ts rows.length) from by rw [HXL.out, HTS.out i, if_neg (by rw [HNC.out]; decide)]; exact (HQ.out.below HB34.out).mono fun k hk _ => rout_fresh HR2.out HOK.out HRW.out hk)
                have hcl := rout_cells HR4.out
                have o2 := hcl.2.2.2.2.1
                clear hcl
                go_wp2_with (first | ((with_reducible refine gate_builtin (b := .append) (xs := #[.tmp 86, .tmp 88]) rfl ?_); at_builtin; refine Kd.R_append (Kd.raw 3) (w0 := w) w.heap.size rfl (.tmp 86) (.tmp 88) 43 45 (.agg #[.int .u8 0, .int .u8 0, .slice none 0 0]) 32 rfl Try.underlying43 nd_info rfl (by decide) (by omega) _ rows [.int .u8 a2, .int .u8 c2, .slice A2 m2 k2] [.int .u8 a2, .int .u8 c2, .slice A2 m2 k2] (fun k => k ≠ o ∧ k ≠ bn ∧ k ≠ bu ∧ k ≠ rb) (fun _ => False) rfl ?aX ?aP (fun _ hk => hk.elim) ?aF ?aO ?aB ?aS ?aL ?_; (case aX => first | rfl | (simp [Act.eval]; done) | (show Value.slice _ _ _ = Value.slice _ _ _; simp)); (case aP => exact ⟨rfl, rfl, fun u hu => by simp at hu; rcases hu with rfl | rfl | rfl <;> rfl⟩); (case aF => exact fun k hk => rout_new HR4.out hk); (case aO => exact HR4.out.2.2.2.2.1); (case aB => exact HB4.out); (case aS => exact HB4.out.size); (case aL => have := HXL.out; have := HN.out; have := HH.out; omega); intro v4 w21 ho hb4 hg4 hat4; obtain ⟨A4, c4, hv4, hle4, hC4⟩ := Kd.R_reads ho; have hx4 : ∃ m, m = i + 1 ∧ v4 = .slice A4 m c4 := ⟨_, by rw [List.length_append, List.length_singleton, HXL.out], hv4⟩; clear hv4; obtain ⟨m4, hm4, hv4⟩ := hx4; subst hv4; have HM4 := Aside0.mk hm4; have HST := Aside0.mk (rout_step HR4.out ho hg4 hat4 HTQ.out); have HBX := Aside0.mk (show Below w.heap.size w (w21.setCell ⟨o, 2, none⟩ (.slice A4 m4 c4)) from below_set hb4 HOW.out); have c3_ : w21.cell? ⟨o, 2, none⟩ = some (.slice As i ks) := (by rw [blk_cell (rout_o HR4.out hg4)]; rfl); have f3_ : w21.frozen? ⟨o, 2, none⟩ = false := blk_frozen (rout_o HR4.out hg4) 2; clear ho hb4 hg4 hat4 hle4 hC4 hm4))
                go_roundg (gk - 1)
                case measure => have := HI.out; have := HH.out; omega
                case rel =>
                  have hm := HM4.out
                  subst hm
                  refine ⟨i + 1, false, _, _, _, rfl, ?_, ⟨by have := HI.out; have := HH.out; omega⟩, HST, ⟨by rw [List.length_append, List.length_singleton, HXL.out]⟩, HBX, ⟨by rw [HGS.out i, HNC.out, ← HGB.out]; rw [HGO.out]; rfl⟩⟩
                  have := HN.out; have := HH.out
                  have e1 : IntKind.i64.wrap ((i : Int) + 1) = ((i + 1 : Nat) : Int) := by rw [IntKind.wrap_i64]; omega
                  have e2 : wrap64 ((i : Int) + 1) = ((i + 1 : Nat) : Int) := by rw [wrap64]; omega
                  first | rfl | (rw [← e1]; done) | (rw [← e2]; done) | (simp [e1]; done) | (simp [e2]; done) | (show Value.int .i64 _ = _; rw [e1]; done) | (show Value.int .i64 _ = _; rw [e2])
              | true =>
                have HGO := Aside0.mk hgo
                clear hgo
                have HTQ := Aside0.mk (show NdIn (w3.alloc (.cells #[.int .u8 a2, .int .u8 c2, .slice A2 m2 k2] 45)) (fun k => k ≠ o ∧ k ≠ rb ∧ some k ≠ (Value.slice As i ks).ownBlock ∧ (ok k ∨ w.heap.size ≤ k)) (.agg ([.int .u8 a2, .int .u8 c2, .slice A2 m2 k2] : List Value).toArray) (ts rows.length) from by rw [HXL.out, HTS.out i, if_neg (by rw [HNC.out]; decide)]; exact (HQ.out.below HB34.out).mono fun k hk _ => rout_fresh HR2.out HOK.out HRW.out hk)
                have hcl := rout_cells HR4.out
                have o2 := hcl.2.2.2.2.1
                clear hcl
                go_wp2_with (first | ((with_reducible refine gate_builtin (b := .append) (xs := #[.tmp 86, .tmp 88]) rfl ?_); at_builtin; refine Kd.R_append (Kd.raw 3) (w0 := w) w.heap.size rfl (.tmp 86) (.tmp 88) 43 45 (.agg #[.int .u8 0, .int .u8 0, .slice none 0 0]) 32 rfl Try.underlying43 nd_info rfl (by decide) (by omega) _ rows [.int .u8 a2, .int .u8 c2, .slice A2 m2 k2] [.int .u8 a2, .int .u8 c2, .slice A2 m2 k2] (fun k => k ≠ o ∧ k ≠ bn ∧ k ≠ bu ∧ k ≠ rb) (fun _ => False) rfl ?aX ?aP (fun _ hk => hk.elim) ?aF ?aO ?aB ?aS ?aL ?_; (case aX => first | rfl | (simp [Act.eval]; done) | (show Value.slice _ _ _ = Value.slice _ _ _; simp)); (case aP => exact ⟨rfl, rfl, fun u hu => by simp at hu; rcases hu with rfl | rfl | rfl <;> rfl⟩); (case aF => exact fun k hk => rout_new HR4.out hk); (case aO => exact HR4.out.2.2.2.2.1); (case aB => exact HB4.out); (case aS => exact HB4.out.size); (case aL => have := HXL.out; have := HN.out; have := HH.out; omega); intro v4 w21 ho hb4 hg4 hat4; obtain ⟨A4, c4, hv4, hle4, hC4⟩ := Kd.R_reads ho; have hx4 : ∃ m, m = i + 1 ∧ v4 = .slice A4 m c4 := ⟨_, by rw [List.length_append, List.length_singleton, HXL.out], hv4⟩; clear hv4; obtain ⟨m4, hm4, hv4⟩ := hx4; subst hv4; have HM4 := Aside0.mk hm4; have HST := Aside0.mk (rout_step HR4.out ho hg4 hat4 HTQ.out); have HBX := Aside0.mk (show Below w.heap.size w (w21.setCell ⟨o, 2, none⟩ (.slice A4 m4 c4)) from below_set hb4 HOW.out); have c3_ : w21.cell? ⟨o, 2, none⟩ = some (.slice As i ks) := (by rw [blk_cell (rout_o HR4.out hg4)]; rfl); have f3_ : w21.frozen? ⟨o, 2, none⟩ = false := blk_frozen (rout_o HR4.out hg4) 2; clear ho hb4 hg4 hat4 hle4 hC4 hm4))
                go_roundg (gk - 1)
                case measure => have := HI.out; have := HH.out; omega
                case rel =>
                  have hm := HM4.out
                  subst hm
                  refine ⟨i + 1, true, _, _, _, rfl, ?_, ⟨by have := HI.out; have := HH.out; omega⟩, HST, ⟨by rw [List.length_append, List.length_singleton, HXL.out]⟩, HBX, ⟨by rw [HGS.out i, HNC.out, ← HGB.out]; rw [HGO.out, HI0.out]; rfl⟩⟩
                  have := HN.out; have := HH.out
                  have e1 : IntKind.i64.wrap ((i : Int) + 1) = ((i + 1 : Nat) : Int) := by rw [IntKind.wrap_i64]; omega
                  have e2 : wrap64 ((i : Int) + 1) = ((i + 1 : Nat) : Int) := by rw [wrap64]; omega
                  first | rfl | (rw [← e1]; done) | (rw [← e2]; done) | (simp [e1]; done) | (simp [e2]; done) | (show Value.int .i64 _ = _; rw [e1]; done) | (show Value.int .i64 _ = _; rw [e2])
      · have h1 : (n : Int) ≤ (i : Int) := by omega
        have HE := Aside0.mk (show i = n from by have := HI.out; omega)
        clear hi
        have hcl := rout_cells HR.out
        have co0 := hcl.2.2.2.2.2.1
        have co1 := hcl.2.2.2.2.2.2
        have co2 := hcl.2.2.2.2.1
        have fr0 := blk_frozen HR.out.2.2.1 0
        have fr1 := blk_frozen HR.out.2.2.1 1
        have fr2 := blk_frozen HR.out.2.2.1 2
        have r0_ : wr.cell? ⟨rb, 0, none⟩ = some (.int .u8 0) := by rw [blk_cell HR.out.2.2.1]; rfl
        have r1_ : wr.cell? ⟨rb, 1, none⟩ = some (.int .u8 0) := by rw [blk_cell HR.out.2.2.1]; rfl
        have r2_ : wr.cell? ⟨rb, 2, none⟩ = some (.slice none 0 0) := by rw [blk_cell HR.out.2.2.1]; rfl
        clear hcl
        go_wp2
        refine bodyPost_ret (results_list (rs := [.cell 6 45, .tmp 7]) rfl (by simp) (.cell rb 45 _ (0, 0) _ rfl (LB.put HR.out.2.2.1 a c As i ks) Try.underlying45 rfl node_info (.tmp .nil))) rfl ?_
        refine ⟨As, ks, by rw [← HE.out, ← HGB.out]; rfl, ?_, below_set (below_set (below_set HB.out HRW.out) HRW.out) HRW.out⟩
        exact rout_end HR.out HXL.out HE.out HRW.out
  · have ha1 : (a == 97) = false := by simp [ha]
    clear ha hac
    go_enter Try.func34, Try.ntmps34
    go_wp2
    clear ha1
    obtain ⟨o, ho⟩ : ∃ o, o = w.heap.size + 1 + 1 + 1 + 1 := ⟨_, rfl⟩
    obtain ⟨b3, hb3_⟩ : ∃ b, b = w.heap.size + 1 + 1 + 1 := ⟨_, rfl⟩
    obtain ⟨rb, hrb⟩ : ∃ b, b = w.heap.size + 1 + 1 := ⟨_, rfl⟩
    obtain ⟨bu, hbu⟩ : ∃ b, b = w.heap.size + 1 := ⟨_, rfl⟩
    obtain ⟨bn, hbn⟩ : ∃ b, b = w.heap.size := ⟨_, rfl⟩
    rw [← ho, ← hb3_, ← hrb, ← hbu, ← hbn]
    obtain ⟨U, hU⟩ : ∃ U, U = ((((w.alloc (.cells #[.int .u8 a, .int .u8 c, .slice A n k] 45)).alloc (.cells #[.int .u8 ua, .int .u8 uc, .slice uA um uk] 45)).alloc (.cells #[.int .u8 0, .int .u8 0, .slice none 0 0] 45)).alloc (.cells #[] 45)).alloc (.cells #[.int .u8 a, .int .u8 c, .slice (some ⟨b3, 0, none⟩) 0 0] 45) := ⟨_, rfl⟩
    rw [← hU]
    have HR0 := Aside0.mk (show ROut U w.heap.size bn bu rb o a c A n k ua uc uA um uk ts ok (some ⟨b3, 0, none⟩) 0 0 [] from rout_start w a c A n k ua uc uA um uk ts ok hbn hbu hrb hb3_ ho hU)
    have HB0 := Aside0.mk (show Below w.heap.size w U from by rw [hU]; exact ((((((Below.refl _ w).alloc (Nat.le_refl _) _).alloc (by simp) _).alloc (by simp; omega) _).alloc (by simp; omega) _).alloc (by simp; omega) _))
    have HOW := Aside0.mk (show w.heap.size ≤ o from by omega)
    have HRW := Aside0.mk (show w.heap.size ≤ rb from by omega)
    have HRN := Aside0.mk (show rb < o ∧ bn < rb ∧ bu < rb from by omega)
    clear ho hb3_ hrb hbu hbn hU
    go_loopg [9, 33] n (fun kq v9 v33 w' => ∃ (i : Nat) (gb : Bool) (As : Option Addr) (ks : Nat) (rows : List (List Value)), v9 = .bool gb ∧ v33 = .int .i64 (i : Int) ∧ Aside0 (kq + i = n) ∧ Aside0 (ROut w' w.heap.size bn bu rb o a c A n k ua uc uA um uk ts ok As i ks rows) ∧ Aside0 (rows.length = i) ∧ Aside0 (Below w.heap.size w w') ∧ Aside0 (gb = gs i))
    case atStart => exact ⟨0, true, _, _, _, rfl, rfl, ⟨by omega⟩, HR0, ⟨rfl⟩, HB0, ⟨HG0.out.symm⟩⟩
    case round =>
      clear HR0 HB0
      obtain ⟨i, gb, As, ks, rows, rfl, rfl, HI, HR, HXL, HB, HGB⟩ := hrel
      by_cases hi : i < n
      · have hlt : (i : Int) < (n : Int) := by omega
        have h0 : (0 : Int) ≤ (i : Int) := by omega
        obtain ⟨q, a', c', A', m', k', rfl, hc0, hc1, hc2, hin, hfb, hrp⟩ := HK.out i hi
        have hd0 : wr.cell? ⟨q, i * 3, none⟩ = some _ := cell_keep HB.out _ _ hc0
        have hd1 : wr.cell? ⟨q, i * 3 + 1, none⟩ = some _ := cell_keep HB.out _ _ hc1
        have hd2 : wr.cell? ⟨q, i * 3 + 2, none⟩ = some _ := cell_keep HB.out _ _ hc2
        have HFB := Aside0.mk hfb
        have HRP := Aside0.mk hrp
        have HIN := Aside0.mk hin
        have HH := Aside0.mk hi
        have HB01 := Aside0.mk (show Below wr.heap.size wr (wr.alloc (.cells #[.int .u8 a', .int .u8 c', .slice A' m' k'] 45)) from (Below.refl _ _).alloc (Nat.le_refl _) _)
        have HR1 := Aside0.mk (rout_below HR.out HB01.out)
        have HB1 := Aside0.mk (HB.out.trans (HB01.out.mono HB.out.size))
        have P0 := Aside0.mk (show (wr.alloc (.cells #[.int .u8 a', .int .u8 c', .slice A' m' k'] 45)).cell? ⟨wr.heap.size, 0, none⟩ = some (.int .u8 a') from World.cell?_alloc_new _ _ _ _)
        have P1 := Aside0.mk (show (wr.alloc (.cells #[.int .u8 a', .int .u8 c', .slice A' m' k'] 45)).cell? ⟨wr.heap.size, 1, none⟩ = some (.int .u8 c') from World.cell?_alloc_new _ _ _ _)
        have P2 := Aside0.mk (show (wr.alloc (.cells #[.int .u8 a', .int .u8 c', .slice A' m' k'] 45)).cell? ⟨wr.heap.size, 2, none⟩ = some (.slice A' m' k') from World.cell?_alloc_new _ _ _ _)
        have hcl := rout_cells HR1.out
        have cn1 := hcl.1
        clear hc0 hc1 hc2 hin hfb hrp hi hcl
        by_cases i1 : i = 1
        · have q1 : ((i : Int) == 1) = true := by simp [i1]
          have q0 : ((i : Int) == 0) = false := by simp; omega
          have HI1 := Aside0.mk i1
          clear i1
          cases hcx : c == x with
          | true =>
            have HCC := Aside0.mk (show ((i == 1 && c == x) || !fb i) = true from by rw [HI1.out, hcx]; rfl)
            have p0_ := P0.out
            have p1_ := P1.out
            have p2_ := P2.out
            have HTQ := Aside0.mk (show NdIn (wr.alloc (.cells #[.int .u8 a', .int .u8 c', .slice A' m' k'] 45)) (fun k => k ≠ o ∧ k ≠ rb ∧ some k ≠ (Value.slice As i ks).ownBlock ∧ (ok k ∨ w.heap.size ≤ k)) (.agg ([.int .u8 a', .int .u8 c', .slice A' m' k'] : List Value).toArray) (ts rows.length) from by rw [HXL.out, HTS.out i, if_pos HCC.out]; exact (HIN.out.below HB1.out).mono fun k hk _ => rout_fresh HR1.out HOK.out HRW.out (.inl hk))
            have hcl := rout_cells HR1.out
            have o2 := hcl.2.2.2.2.1
            clear hcl
            go_wp2_with (first | ((with_reducible refine gate_builtin (b := .append) (xs := #[.tmp 53, .tmp 55]) rfl ?_); at_builtin; refine Kd.R_append (Kd.raw 3) (w0 := w) w.heap.size rfl (.tmp 53) (.tmp 55) 43 45 (.agg #[.int .u8 0, .int .u8 0, .slice none 0 0]) 32 rfl Try.underlying43 nd_info rfl (by decide) (by omega) _ rows [.int .u8 a', .int .u8 c', .slice A' m' k'] [.int .u8 a', .int .u8 c', .slice A' m' k'] (fun k => k ≠ o ∧ k ≠ bn ∧ k ≠ bu ∧ k ≠ rb) (fun _ => False) rfl ?aX ?aP (fun _ hk => hk.elim) ?aF ?aO ?aB ?aS ?aL ?_; (case aX => first | rfl | (simp [Act.eval]; done) | (show Value.slice _ _ _ = Value.slice _ _ _; simp)); (case aP => exact ⟨rfl, rfl, fun u hu => by simp at hu; rcases hu with rfl | rfl | rfl <;> rfl⟩); (case aF => exact fun k hk => rout_new HR1.out hk); (case aO => exact HR1.out.2.2.2.2.1); (case aB => exact HB1.out); (case aS => exact HB1.out.size); (case aL => have := HXL.out; have := HN.out; have := HH.out; omega); intro v4 w21 ho hb4 hg4 hat4; obtain ⟨A4, c4, hv4, hle4, hC4⟩ := Kd.R_reads ho; have hx4 : ∃ m, m = i + 1 ∧ v4 = .slice A4 m c4 := ⟨_, by rw [List.length_append, List.length_singleton, HXL.out], hv4⟩; clear hv4; obtain ⟨m4, hm4, hv4⟩ := hx4; subst hv4; have HM4 := Aside0.mk hm4; have HST := Aside0.mk (rout_step HR1.out ho hg4 hat4 HTQ.out); have HBX := Aside0.mk (show Below w.heap.size w (w21.setCell ⟨o, 2, none⟩ (.slice A4 m4 c4)) from below_set hb4 HOW.out); have c3_ : w21.cell? ⟨o, 2, none⟩ = some (.slice As i ks) := (by rw [blk_cell (rout_o HR1.out hg4)]; rfl); have f3_ : w21.frozen? ⟨o, 2, none⟩ = false := blk_frozen (rout_o HR1.out hg4) 2; clear ho hb4 hg4 hat4 hle4 hC4 hm4))
            go_roundg (gk - 1)
            case measure => have := HI.out; have := HH.out; omega
            case rel =>
              have hm := HM4.out
              subst hm
              refine ⟨i + 1, gb, _, _, _, rfl, ?_, ⟨by have := HI.out; have := HH.out; omega⟩, HST, ⟨by rw [List.length_append, List.length_singleton, HXL.out]⟩, HBX, ⟨by rw [HGS.out i, show ((i == 1 && c == x) || !fb i) = true from HCC.out, HGB.out]; simp⟩⟩
              have := HN.out; have := HH.out
              have e1 : IntKind.i64.wrap ((i : Int) + 1) = ((i + 1 : Nat) : Int) := by rw [IntKind.wrap_i64]; omega
              have e2 : wrap64 ((i : Int) + 1) = ((i + 1 : Nat) : Int) := by rw [wrap64]; omega
              first | rfl | (rw [← e1]; done) | (rw [← e2]; done) | (simp [e1]; done) | (simp [e2]; done) | (show Value.int .i64 _ = _; rw [e1]; done) | (show Value.int .i64 _ = _; rw [e2])
          | false =>
            have HNX := Aside0.mk (show (i == 1 && c == x) = false from by rw [hcx]; simp)
            go_wp2_with fail
            have hcF := HFB.out _ HB1.out
            unfold ndV at hcF
            refine hcF.mono ?_
            rintro e w2 ⟨rfl, hb2⟩
            clear hcF
            have HR2 := Aside0.mk (rout_below HR1.out hb2)
            have HB2 := Aside0.mk (HB1.out.trans (hb2.mono HB1.out.size))
            have hcl := rout_cells HR2.out
            have cn1 := hcl.1
            have cu0 := hcl.2.1
            have cu1 := hcl.2.2.1
            have cu2 := hcl.2.2.2.1
            have p0_ := cell_keep hb2 _ _ P0.out
            have p1_ := cell_keep hb2 _ _ P1.out
            have p2_ := cell_keep hb2 _ _ P2.out
            clear hb2 hcl
            cases hfb : fb i with
            | false =>
              have HCC := Aside0.mk (show ((i == 1 && c == x) || !fb i) = true from by rw [hfb]; simp)
              clear hfb
              have HTQ := Aside0.mk (show NdIn w2 (fun k => k ≠ o ∧ k ≠ rb ∧ some k ≠ (Value.slice As i ks).ownBlock ∧ (ok k ∨ w.heap.size ≤ k)) (.agg ([.int .u8 a', .int .u8 c', .slice A' m' k'] : List Value).toArray) (ts rows.length) from by rw [HXL.out, HTS.out i, if_pos HCC.out]; exact (HIN.out.below HB2.out).mono fun k hk _ => rout_fresh HR2.out HOK.out HRW.out (.inl hk))
              have hcl := rout_cells HR2.out
              have o2 := hcl.2.2.2.2.1
              clear hcl
              go_wp2_with (first | ((with_reducible refine gate_builtin (b := .append) (xs := #[.tmp 53, .tmp 55]) rfl ?_); at_builtin; refine Kd.R_append (Kd.raw 3) (w0 := w) w.heap.size rfl (.tmp 53) (.tmp 55) 43 45 (.agg #[.int .u8 0, .int .u8 0, .slice none 0 0]) 32 rfl Try.underlying43 nd_info rfl (by decide) (by omega) _ rows [.int .u8 a', .int .u8 c', .slice A' m' k'] [.int .u8 a', .int .u8 c', .slice A' m' k'] (fun k => k ≠ o ∧ k ≠ bn ∧ k ≠ bu ∧ k ≠ rb) (fun _ => False) rfl ?aX ?aP (fun _ hk => hk.elim) ?aF ?aO ?aB ?aS ?aL ?_; (case aX => first | rfl | (simp [Act.eval]; done) | (show Value.slice _ _ _ = Value.slice _ _ _; simp)); (case aP => exact ⟨rfl, rfl, fun u hu => by simp at hu; rcases hu with rfl | rfl | rfl <;> rfl⟩); (case aF => exact fun k hk => rout_new HR2.out hk); (case aO => exact HR2.out.2.2.2.2.1); (case aB => exact HB2.out); (case aS => exact HB2.out.size); (case aL => have := HXL.out; have := HN.out; have := HH.out; omega); intro v4 w21 ho hb4 hg4 hat4; obtain ⟨A4, c4, hv4, hle4, hC4⟩ := Kd.R_reads ho; have hx4 : ∃ m, m = i + 1 ∧ v4 = .slice A4 m c4 := ⟨_, by rw [List.length_append, List.length_singleton, HXL.out], hv4⟩; clear hv4; obtain ⟨m4, hm4, hv4⟩ := hx4; subst hv4; have HM4 := Aside0.mk hm4; have HST := Aside0.mk (rout_step HR2.out ho hg4 hat4 HTQ.out); have HBX := Aside0.mk (show Below w.heap.size w (w21.setCell ⟨o, 2, none⟩ (.slice A4 m4 c4)) from below_set hb4 HOW.out); have c3_ : w21.cell? ⟨o, 2, none⟩ = some (.slice As i ks) := (by rw [blk_cell (rout_o HR2.out hg4)]; rfl); have f3_ : w21.frozen? ⟨o, 2, none⟩ = false := blk_frozen (rout_o HR2.out hg4) 2; clear ho hb4 hg4 hat4 hle4 hC4 hm4))
              go_roundg (gk - 1)
              case measure => have := HI.out; have := HH.out; omega
              case rel =>
                have hm := HM4.out
                subst hm
                refine ⟨i + 1, gb, _, _, _, rfl, ?_, ⟨by have := HI.out; have := HH.out; omega⟩, HST, ⟨by rw [List.length_append, List.length_singleton, HXL.out]⟩, HBX, ⟨by rw [HGS.out i, show ((i == 1 && c == x) || !fb i) = true from HCC.out, HGB.out]; simp⟩⟩
                have := HN.out; have := HH.out
                have e1 : IntKind.i64.wrap ((i : Int) + 1) = ((i + 1 : Nat) : Int) := by rw [IntKind.wrap_i64]; omega
                have e2 : wrap64 ((i : Int) + 1) = ((i + 1 : Nat) : Int) := by rw [wrap64]; omega
                first | rfl | (rw [← e1]; done) | (rw [← e2]; done) | (simp [e1]; done) | (simp [e2]; done) | (show Value.int .i64 _ = _; rw [e1]; done) | (show Value.int .i64 _ = _; rw [e2])
            | true =>
              have HNC := Aside0.mk (show ((i == 1 && c == x) || !fb i) = false from by rw [hfb, HNX.out]; rfl)
              clear hfb
              go_wp2_with fail
              have hcR := HRP.out w2 HB2.out
              unfold ndV at hcR
              refine hcR.mono ?_
              rintro e w3 ⟨a2, c2, A2, m2, k2, rfl, hin, hb3⟩
              clear hcR cn1 cu0 cu1 cu2 p0_ p1_ p2_
              have HR3 := Aside0.mk (rout_below HR2.out hb3)
              have HB3 := Aside0.mk (HB2.out.trans (hb3.mono HB2.out.size))
              have HQ := Aside0.mk hin
              have HB34 := Aside0.mk (show Below w3.heap.size w3 (w3.alloc (.cells #[.int .u8 a2, .int .u8 c2, .slice A2 m2 k2] 45)) from (Below.refl _ _).alloc (Nat.le_refl _) _)
              have HR4 := Aside0.mk (rout_below HR3.out HB34.out)
              have HB4 := Aside0.mk (HB3.out.trans (HB34.out.mono HB3.out.size))
              have hcl := rout_cells HR4.out
              have cn1 := hcl.1
              have cu0 := hcl.2.1
              have cu1 := hcl.2.2.1
              have cu2 := hcl.2.2.2.1
              clear hin hb3 hcl
              cases gb with
              | false =>
                have HTQ := Aside0.mk (show NdIn (w3.alloc (.cells #[.int .u8 a2, .int .u8 c2, .slice A2 m2 k2] 45)) (fun k => k ≠ o ∧ k ≠ rb ∧ some k ≠ (Value.slice As i ks).ownBlock ∧ (ok k ∨ w.heap.size ≤ k)) (.agg ([.int .u8 a2, .int .u8 c2, .slice A2 m2 k2] : List Value).toArray) (ts rows.length) from by rw [HXL.out, HTS.out i, if_neg (by rw [HNC.out]; decide)]; exact (HQ.out.below HB34.out).mono fun k hk _ => rout_fresh HR2.out HOK.out HRW.out hk)
                have hcl := rout_cells HR4.out
                have o2 := hcl.2.2.2.2.1
                clear hcl
                go_wp2_with (first | ((with_reducible refine gate_builtin (b := .append) (xs := #[.tmp 86, .tmp 88]) rfl ?_); at_builtin; refine Kd.R_append (Kd.raw 3) (w0 := w) w.heap.size rfl (.tmp 86) (.tmp 88) 43 45 (.agg #[.int .u8 0, .int .u8 0, .slice none 0 0]) 32 rfl Try.underlying43 nd_info rfl (by decide) (by omega) _ rows [.int .u8 a2, .int .u8 c2, .slice A2 m2 k2] [.int .u8 a2, .int .u8 c2, .slice A2 m2 k2] (fun k => k ≠ o ∧ k ≠ bn ∧ k ≠ bu ∧ k ≠ rb) (fun _ => False) rfl ?aX ?aP (fun _ hk => hk.elim) ?aF ?aO ?aB ?aS ?aL ?_; (case aX => first | rfl | (simp [Act.eval]; done) | (show Value.slice _ _ _ = Value.slice _ _ _; simp)); (case aP => exact ⟨rfl, rfl, fun u hu => by simp at hu; rcases hu with rfl | rfl | rfl <;> rfl⟩); (case aF => exact fun k hk => rout_new HR4.out hk); (case aO => exact HR4.out.2.2.2.2.1); (case aB => exact HB4.out); (case aS => exact HB4.out.size); (case aL => have := HXL.out; have := HN.out; have := HH.out; omega); intro v4 w21 ho hb4 hg4 hat4; obtain ⟨A4, c4, hv4, hle4, hC4⟩ := Kd.R_reads ho; have hx4 : ∃ m, m = i + 1 ∧ v4 = .slice A4 m c4 := ⟨_, by rw [List.length_append, List.length_singleton, HXL.out], hv4⟩; clear hv4; obtain ⟨m4, hm4, hv4⟩ := hx4; subst hv4; have HM4 := Aside0.mk hm4; have HST := Aside0.mk (rout_step HR4.out ho hg4 hat4 HTQ.out); have HBX := Aside0.mk (show Below w.heap.size w (w21.setCell ⟨o, 2, none⟩ (.slice A4 m4 c4)) from below_set hb4 HOW.out); have c3_ : w21.cell? ⟨o, 2, none⟩ = some (.slice As i ks) := (by rw [blk_cell (rout_o HR4.out hg4)]; rfl); have f3_ : w21.frozen? ⟨o, 2, none⟩ = false := blk_frozen (rout_o HR4.out hg4) 2; clear ho hb4 hg4 hat4 hle4 hC4 hm4))
                go_roundg (gk - 1)
                case measure => have := HI.out; have := HH.out; omega
                case rel =>
                  have hm := HM4.out
                  subst hm
                  refine ⟨i + 1, false, _, _, _, rfl, ?_, ⟨by have := HI.out; have := HH.out; omega⟩, HST, ⟨by rw [List.length_append, List.length_singleton, HXL.out]⟩, HBX, ⟨by rw [HGS.out i, HNC.out, ← HGB.out]; rfl⟩⟩
                  have := HN.out; have := HH.out
                  have e1 : IntKind.i64.wrap ((i : Int) + 1) = ((i + 1 : Nat) : Int) := by rw [IntKind.wrap_i64]; omega
                  have e2 : wrap64 ((i : Int) + 1) = ((i + 1 : Nat) : Int) := by rw [wrap64]; omega
                  first | rfl | (rw [← e1]; done) | (rw [← e2]; done) | (simp [e1]; done) | (simp [e2]; done) | (show Value.int .i64 _ = _; rw [e1]; done) | (show Value.int .i64 _ = _; rw [e2])
              | true =>
                cases hgo : go i with
                | false =>
                  have HGO := Aside0.mk hgo
                  clear hgo
                  have HTQ := Aside0.mk (show NdIn (w3.alloc (.cells #[.int .u8 a2, .int .u8 c2, .slice A2 m2 k2] 45)) (fun k => k ≠ o ∧ k ≠ rb ∧ some k ≠ (Value.slice As i ks).ownBlock ∧ (ok k ∨ w.heap.size ≤ k)) (.agg ([.int .u8 a2, .int .u8 c2, .slice A2 m2 k2] : List Value).toArray) (ts rows.length) from by rw [HXL.out, HTS.out i, if_neg (by rw [HNC.out]; decide)]; exact (HQ.out.below HB34.out).mono fun k hk _ => rout_fresh HR2.out HOK.out HRW.out hk)
                  have hcl := rout_cells HR4.out
                  have o2 := hcl.2.2.2.2.1
                  clear hcl
                  go_wp2_with (first | ((with_reducible refine gate_builtin (b := .append) (xs := #[.tmp 86, .tmp 88]) rfl ?_); at_builtin; refine Kd.R_append (Kd.raw 3) (w0 := w) w.heap.size rfl (.tmp 86) (.tmp 88) 43 45 (.agg #[.int .u8 0, .int .u8 0, .slice none 0 0]) 32 rfl Try.underlying43 nd_info rfl (by decide) (by omega) _ rows [.int .u8 a2, .int .u8 c2, .slice A2 m2 k2] [.int .u8 a2, .int .u8 c2, .slice A2 m2 k2] (fun k => k ≠ o ∧ k ≠ bn ∧ k ≠ bu ∧ k ≠ rb) (fun _ => False) rfl ?aX ?aP (fun _ hk => hk.elim) ?aF ?aO ?aB ?aS ?aL ?_; (case aX => first | rfl | (simp [Act.eval]; done) | (show Value.slice _ _ _ = Value.slice _ _ _; simp)); (case aP => exact ⟨rfl, rfl, fun u hu => by simp at hu; rcases hu with rfl | rfl | rfl <;> rfl⟩); (case aF => exact fun k hk => rout_new HR4.out hk); (case aO => exact HR4.out.2.2.2.2.1); (case aB => exact HB4.out); (case aS => exact HB4.out.size); (case aL => have := HXL.out; have := HN.out; have := HH.out; omega); intro v4 w21 ho hb4 hg4 hat4; obtain ⟨A4, c4, hv4, hle4, hC4⟩ := Kd.R_reads ho; have hx4 : ∃ m, m = i + 1 ∧ v4 = .slice A4 m c4 := ⟨_, by rw [List.length_append, List.length_singleton, HXL.out], hv4⟩; clear hv4; obtain ⟨m4, hm4, hv4⟩ := hx4; subst hv4; have HM4 := Aside0.mk hm4; have HST := Aside0.mk (rout_step HR4.out ho hg4 hat4 HTQ.out); have HBX := Aside0.mk (show Below w.heap.size w (w21.setCell ⟨o, 2, none⟩ (.slice A4 m4 c4)) from below_set hb4 HOW.out); have c3_ : w21.cell? ⟨o, 2, none⟩ = some (.slice As i ks) := (by rw [blk_cell (rout_o HR4.out hg4)]; rfl); have f3_ : w21.frozen? ⟨o, 2, none⟩ = false := blk_frozen (rout_o HR4.out hg4) 2; clear ho hb4 hg4 hat4 hle4 hC4 hm4))
                  go_roundg (gk - 1)
                  case measure => have := HI.out; have := HH.out; omega
                  case rel =>
                    have hm := HM4.out
                    subst hm
                    refine ⟨i + 1, false, _, _, _, rfl, ?_, ⟨by have := HI.out; have := HH.out; omega⟩, HST, ⟨by rw [List.length_append, List.length_singleton, HXL.out]⟩, HBX, ⟨by rw [HGS.out i, HNC.out, ← HGB.out]; rw [HGO.out]; rfl⟩⟩
                    have := HN.out; have := HH.out
                    have e1 : IntKind.i64.wrap ((i : Int) + 1) = ((i + 1 : Nat) : Int) := by rw [IntKind.wrap_i64]; omega
                    have e2 : wrap64 ((i : Int) + 1) = ((i + 1 : Nat) : Int) := by rw [wrap64]; omega
                    first | rfl | (rw [← e1]; done) | (rw [← e2]; done) | (simp [e1]; done) | (simp [e2]; done) | (show Value.int .i64 _ = _; rw [e1]; done) | (show Value.int .i64 _ = _; rw [e2])
                | true =>
                  have HGO := Aside0.mk hgo
                  clear hgo
                  by_cases c0 : c = 0
                  · have c0b : (c == 0) = true := by simp [c0]
                    have HC0 := Aside0.mk c0b
                    clear c0
                    have HTQ := Aside0.mk (show NdIn (w3.alloc (.cells #[.int .u8 a2, .int .u8 c2, .slice A2 m2 k2] 45)) (fun k => k ≠ o ∧ k ≠ rb ∧ some k ≠ (Value.slice As i ks).ownBlock ∧ (ok k ∨ w.heap.size ≤ k)) (.agg ([.int .u8 a2, .int .u8 c2, .slice A2 m2 k2] : List Value).toArray) (ts rows.length) from by rw [HXL.out, HTS.out i, if_neg (by rw [HNC.out]; decide)]; exact (HQ.out.below HB34.out).mono fun k hk _ => rout_fresh HR2.out HOK.out HRW.out hk)
                    have hcl := rout_cells HR4.out
                    have o2 := hcl.2.2.2.2.1
                    clear hcl
                    go_wp2_with (first | ((with_reducible refine gate_builtin (b := .append) (xs := #[.tmp 86, .tmp 88]) rfl ?_); at_builtin; refine Kd.R_append (Kd.raw 3) (w0 := w) w.heap.size rfl (.tmp 86) (.tmp 88) 43 45 (.agg #[.int .u8 0, .int .u8 0, .slice none 0 0]) 32 rfl Try.underlying43 nd_info rfl (by decide) (by omega) _ rows [.int .u8 a2, .int .u8 c2, .slice A2 m2 k2] [.int .u8 a2, .int .u8 c2, .slice A2 m2 k2] (fun k => k ≠ o ∧ k ≠ bn ∧ k ≠ bu ∧ k ≠ rb) (fun _ => False) rfl ?aX ?aP (fun _ hk => hk.elim) ?aF ?aO ?aB ?aS ?aL ?_; (case aX => first | rfl | (simp [Act.eval]; done) | (show Value.slice _ _ _ = Value.slice _ _ _; simp)); (case aP => exact ⟨rfl, rfl, fun u hu => by simp at hu; rcases hu with rfl | rfl | rfl <;> rfl⟩); (case aF => exact fun k hk => rout_new HR4.out hk); (case aO => exact HR4.out.2.2.2.2.1); (case aB => exact HB4.out); (case aS => exact HB4.out.size); (case aL => have := HXL.out; have := HN.out; have := HH.out; omega); intro v4 w21 ho hb4 hg4 hat4; obtain ⟨A4, c4, hv4, hle4, hC4⟩ := Kd.R_reads ho; have hx4 : ∃ m, m = i + 1 ∧ v4 = .slice A4 m c4 := ⟨_, by rw [List.length_append, List.length_singleton, HXL.out], hv4⟩; clear hv4; obtain ⟨m4, hm4, hv4⟩ := hx4; subst hv4; have HM4 := Aside0.mk hm4; have HST := Aside0.mk (rout_step HR4.out ho hg4 hat4 HTQ.out); have HBX := Aside0.mk (show Below w.heap.size w (w21.setCell ⟨o, 2, none⟩ (.slice A4 m4 c4)) from below_set hb4 HOW.out); have c3_ : w21.cell? ⟨o, 2, none⟩ = some (.slice As i ks) := (by rw [blk_cell (rout_o HR4.out hg4)]; rfl); have f3_ : w21.frozen? ⟨o, 2, none⟩ = false := blk_frozen (rout_o HR4.out hg4) 2; clear ho hb4 hg4 hat4 hle4 hC4 hm4))
                    go_roundg (gk - 1)
                    case measure => have := HI.out; have := HH.out; omega
                    case rel =>
                      have hm := HM4.out
                      subst hm
                      refine ⟨i + 1, true, _, _, _, rfl, ?_, ⟨by have := HI.out; have := HH.out; omega⟩, HST, ⟨by rw [List.length_append, List.length_singleton, HXL.out]⟩, HBX, ⟨by rw [HGS.out i, HNC.out, ← HGB.out]; rw [HGO.out, HC0.out]; simp⟩⟩
                      have := HN.out; have := HH.out
                      have e1 : IntKind.i64.wrap ((i : Int) + 1) = ((i + 1 : Nat) : Int) := by rw [IntKind.wrap_i64]; omega
                      have e2 : wrap64 ((i : Int) + 1) = ((i + 1 : Nat) : Int) := by rw [wrap64]; omega
                      first | rfl | (rw [← e1]; done) | (rw [← e2]; done) | (simp [e1]; done) | (simp [e2]; done) | (show Value.int .i64 _ = _; rw [e1]; done) | (show Value.int .i64 _ = _; rw [e2])
                  · have c0b : (c == 0) = false := by simp [c0]
                    have HC0 := Aside0.mk (And.intro c0 c0b)
                    clear c0
                    go_wp2_with fail
                    have hcU := HFU.out HC0.out.1 _ HB4.out
                    unfold ndV at hcU
                    refine hcU.mono ?_
                    rintro e w5 ⟨rfl, hb5⟩
                    clear hcU cn1 cu0 cu1 cu2
                    have HR5 := Aside0.mk (rout_below HR4.out hb5)
                    have HB5 := Aside0.mk (HB4.out.trans (hb5.mono HB4.out.size))
                    have HB35 := Aside0.mk (HB34.out.trans (hb5.mono HB34.out.size))
                    have q0_ : w5.cell? ⟨w3.heap.size, 0, none⟩ = some (.int .u8 a2) := cell_keep hb5 _ _ (World.cell?_alloc_new _ _ _ _)
                    have q1_ : w5.cell? ⟨w3.heap.size, 1, none⟩ = some (.int .u8 c2) := cell_keep hb5 _ _ (World.cell?_alloc_new _ _ _ _)
                    have q2_ : w5.cell? ⟨w3.heap.size, 2, none⟩ = some (.slice A2 m2 k2) := cell_keep hb5 _ _ (World.cell?_alloc_new _ _ _ _)
                    clear hb5
                    have HTQ := Aside0.mk (show NdIn w5 (fun k => k ≠ o ∧ k ≠ rb ∧ some k ≠ (Value.slice As i ks).ownBlock ∧ (ok k ∨ w.heap.size ≤ k)) (.agg ([.int .u8 a2, .int .u8 c2, .slice A2 m2 k2] : List Value).toArray) (ts rows.length) from by rw [HXL.out, HTS.out i, if_neg (by rw [HNC.out]; decide)]; exact (HQ.out.below HB35.out).mono fun k hk _ => rout_fresh HR2.out HOK.out HRW.out hk)
                    have hcl := rout_cells HR5.out
                    have o2 := hcl.2.2.2.2.1
                    clear hcl
                    go_wp2_with (first | ((with_reducible refine gate_builtin (b := .append) (xs := #[.tmp 86, .tmp 88]) rfl ?_); at_builtin; refine Kd.R_append (Kd.raw 3) (w0 := w) w.heap.size rfl (.tmp 86) (.tmp 88) 43 45 (.agg #[.int .u8 0, .int .u8 0, .slice none 0 0]) 32 rfl Try.underlying43 nd_info rfl (by decide) (by omega) _ rows [.int .u8 a2, .int .u8 c2, .slice A2 m2 k2] [.int .u8 a2, .int .u8 c2, .slice A2 m2 k2] (fun k => k ≠ o ∧ k ≠ bn ∧ k ≠ bu ∧ k ≠ rb) (fun _ => False) rfl ?aX ?aP (fun _ hk => hk.elim) ?aF ?aO ?aB ?aS ?aL ?_; (case aX => first | rfl | (simp [Act.eval]; done) | (show Value.slice _ _ _ = Value.slice _ _ _; simp)); (case aP => exact ⟨rfl, rfl, fun u hu => by simp at hu; rcases hu with rfl | rfl | rfl <;> rfl⟩); (case aF => exact fun k hk => rout_new HR5.out hk); (case aO => exact HR5.out.2.2.2.2.1); (case aB => exact HB5.out); (case aS => exact HB5.out.size); (case aL => have := HXL.out; have := HN.out; have := HH.out; omega); intro v4 w21 ho hb4 hg4 hat4; obtain ⟨A4, c4, hv4, hle4, hC4⟩ := Kd.R_reads ho; have hx4 : ∃ m, m = i + 1 ∧ v4 = .slice A4 m c4 := ⟨_, by rw [List.length_append, List.length_singleton, HXL.out], hv4⟩; clear hv4; obtain ⟨m4, hm4, hv4⟩ := hx4; subst hv4; have HM4 := Aside0.mk hm4; have HST := Aside0.mk (rout_step HR5.out ho hg4 hat4 HTQ.out); have HBX := Aside0.mk (show Below w.heap.size w (w21.setCell ⟨o, 2, none⟩ (.slice A4 m4 c4)) from below_set hb4 HOW.out); have c3_ : w21.cell? ⟨o, 2, none⟩ = some (.slice As i ks) := (by rw [blk_cell (rout_o HR5.out hg4)]; rfl); have f3_ : w21.frozen? ⟨o, 2, none⟩ = false := blk_frozen (rout_o HR5.out hg4) 2; clear ho hb4 hg4 hat4 hle4 hC4 hm4))
                    go_roundg (gk - 1)
                    case measure => have := HI.out; have := HH.out; omega
                    case rel =>
                      have hm := HM4.out
                      subst hm
                      refine ⟨i + 1, (!fu), _, _, _, rfl, ?_, ⟨by have := HI.out; have := HH.out; omega⟩, HST, ⟨by rw [List.length_append, List.length_singleton, HXL.out]⟩, HBX, ⟨by rw [HGS.out i, HNC.out, ← HGB.out]; rw [HGO.out, HC0.out.2]; cases fu <;> simp [HI1.out]⟩⟩
                      have := HN.out; have := HH.out
                      have e1 : IntKind.i64.wrap ((i : Int) + 1) = ((i + 1 : Nat) : Int) := by rw [IntKind.wrap_i64]; omega
                      have e2 : wrap64 ((i : Int) + 1) = ((i + 1 : Nat) : Int) := by rw [wrap64]; omega
                      first | rfl | (rw [← e1]; done) | (rw [← e2]; done) | (simp [e1]; done) | (simp [e2]; done) | (show Value.int .i64 _ = _; rw [e1]; done) | (show Value.int .i64 _ = _; rw [e2])
        · have q1 : ((i : Int) == 1) = false := by simp; omega
          have q0 : ((i : Int) == 0) = true := by have := HN.out; have := HH.out; simp; omega
          have HI0 := Aside0.mk (show i = 0 from by have := HN.out; have := HH.out; omega)
          have HNX := Aside0.mk (show (i == 1 && c == x) = false from by rw [HI0.out]; rfl)
          clear i1
          go_wp2_with fail
          have hcF := HFB.out _ HB1.out
          unfold ndV at hcF
          refine hcF.mono ?_
          rintro e w2 ⟨rfl, hb2⟩
          clear hcF
          have HR2 := Aside0.mk (rout_below HR1.out hb2)
          have HB2 := Aside0.mk (HB1.out.trans (hb2.mono HB1.out.size))
          have hcl := rout_cells HR2.out
          have cn1 := hcl.1
          have cu0 := hcl.2.1
          have cu1 := hcl.2.2.1
          have cu2 := hcl.2.2.2.1
          have p0_ := cell_keep hb2 _ _ P0.out
          have p1_ := cell_keep hb2 _ _ P1.out
          have p2_ := cell_keep hb2 _ _ P2.out
          clear hb2 hcl
          cases hfb : fb i with
          | false =>
            have HCC := Aside0.mk (show ((i == 1 && c == x) || !fb i) = true from by rw [hfb]; simp)
            clear hfb
            have HTQ := Aside0.mk (show NdIn w2 (fun k => k ≠ o ∧ k ≠ rb ∧ some k ≠ (Value.slice As i ks).ownBlock ∧ (ok k ∨ w.heap.size ≤ k)) (.agg ([.int .u8 a', .int .u8 c', .slice A' m' k'] : List Value).toArray) (ts rows.length) from by rw [HXL.out, HTS.out i, if_pos HCC.out]; exact (HIN.out.below HB2.out).mono fun k hk _ => rout_fresh HR2.out HOK.out HRW.out (.inl hk))
            have hcl := rout_cells HR2.out
            have o2 := hcl.2.2.2.2.1
            clear hcl
            go_wp2_with (first | ((with_reducible refine gate_builtin (b := .append) (xs := #[.tmp 53, .tmp 55]) rfl ?_); at_builtin; refine Kd.R_append (Kd.raw 3) (w0 := w) w.heap.size rfl (.tmp 53) (.tmp 55) 43 45 (.agg #[.int .u8 0, .int .u8 0, .slice none 0 0]) 32 rfl Try.underlying43 nd_info rfl (by decide) (by omega) _ rows [.int .u8 a', .int .u8 c', .slice A' m' k'] [.int .u8 a', .int .u8 c', .slice A' m' k'] (fun k => k ≠ o ∧ k ≠ bn ∧ k ≠ bu ∧ k ≠ rb) (fun _ => False) rfl ?aX ?aP (fun _ hk => hk.elim) ?aF ?aO ?aB ?aS ?aL ?_; (case aX => first | rfl | (simp [Act.eval]; done) | (show Value.slice _ _ _ = Value.slice _ _ _; simp)); (case aP => exact ⟨rfl, rfl, fun u hu => by simp at hu; rcases hu with rfl | rfl | rfl <;> rfl⟩); (case aF => exact fun k hk => rout_new HR2.out hk); (case aO => exact HR2.out.2.2.2.2.1); (case aB => exact HB2.out); (case aS => exact HB2.out.size); (case aL => have := HXL.out; have := HN.out; have := HH.out; omega); intro v4 w21 ho hb4 hg4 hat4; obtain ⟨A4, c4, hv4, hle4, hC4⟩ := Kd.R_reads ho; have hx4 : ∃ m, m = i + 1 ∧ v4 = .slice A4 m c4 := ⟨_, by rw [List.length_append, List.length_singleton, HXL.out], hv4⟩; clear hv4; obtain ⟨m4, hm4, hv4⟩ := hx4; subst hv4; have HM4 := Aside0.mk hm4; have HST := Aside0.mk (rout_step HR2.out ho hg4 hat4 HTQ.out); have HBX := Aside0.mk (show Below w.heap.size w (w21.setCell ⟨o, 2, none⟩ (.slice A4 m4 c4)) from below_set hb4 HOW.out); have c3_ : w21.cell? ⟨o, 2, none⟩ = some (.slice As i ks) := (by rw [blk_cell (rout_o HR2.out hg4)]; rfl); have f3_ : w21.frozen? ⟨o, 2, none⟩ = false := blk_frozen (rout_o HR2.out hg4) 2; clear ho hb4 hg4 hat4 hle4 hC4 hm4))
            go_roundg (gk - 1)
            case measure => have := HI.out; have := HH.out; omega
            case rel =>
              have hm := HM4.out
              subst hm
              refine ⟨i + 1, gb, _, _, _, rfl, ?_, ⟨by have := HI.out; have := HH.out; omega⟩, HST, ⟨by rw [List.length_append, List.length_singleton, HXL.out]⟩, HBX, ⟨by rw [HGS.out i, show ((i == 1 && c == x) || !fb i) = true from HCC.out, HGB.out]; simp⟩⟩
              have := HN.out; have := HH.out
              have e1 : IntKind.i64.wrap ((i : Int) + 1) = ((i + 1 : Nat) : Int) := by rw [IntKind.wrap_i64]; omega
              have e2 : wrap64 ((i : Int) + 1) = ((i + 1 : Nat) : Int) := by rw [wrap64]; omega
              first | rfl | (rw [← e1]; done) | (rw [← e2]; done) | (simp [e1]; done) | (simp [e2]; done) | (show Value.int .i64 _ = _; rw [e1]; done) | (show Value.int .i64 _ = _; rw [e2])
          | true =>
            have HNC := Aside0.mk (show ((i == 1 && c == x) || !fb i) = false from by rw [hfb, HNX.out]; rfl)
            clear hfb
            go_wp2_with fail
            have hcR := HRP.out w2 HB2.out
            unfold ndV at hcR
            refine hcR.mono ?_
            rintro e w3 ⟨a2, c2, A2, m2, k2, rfl, hin, hb3⟩
            clear hcR cn1 cu0 cu1 cu2 p0_ p1_ p2_
            have HR3 := Aside0.mk (rout_below HR2.out hb3)
            have HB3 := Aside0.mk (HB2.out.trans (hb3.mono HB2.out.size))
            have HQ := Aside0.mk hin
            have HB34 := Aside0.mk (show Below w3.heap.size w3 (w3.alloc (.cells #[.int .u8 a2, .int .u8 c2, .slice A2 m2 k2] 45)) from (Below.refl _ _).alloc (Nat.le_refl _) _)
            have HR4 := Aside0.mk (rout_below HR3.out HB34.out)
            have HB4 := Aside0.mk (HB3.out.trans (HB34.out.mono HB3.out.size))
            have hcl := rout_cells HR4.out
            have cn1 := hcl.1
            have cu0 := hcl.2.1
            have cu1 := hcl.2.2.1
            have cu2 := hcl.2.2.2.1
            clear hin hb3 hcl
            cases gb with
            | false =>
              have HTQ := Aside0.mk (show NdIn (w3.alloc (.cells #[.int .u8 a2, .int .u8 c2, .slice A2 m2 k2] 45)) (fun k => k ≠ o ∧ k ≠ rb ∧ some k ≠ (Value.slice As i ks).ownBlock ∧ (ok k ∨ w.heap.size ≤ k)) (.agg ([.int .u8 a2, .int .u8 c2, .slice A2 m2 k2] : List Value).toArray) (ts rows.length) from by rw [HXL.out, HTS.out i, if_neg (by rw [HNC.out]; decide)]; exact (HQ.out.below HB34.out).mono fun k hk _ => rout_fresh HR2.out HOK.out HRW.out hk)
              have hcl := rout_cells HR4.out
              have o2 := hcl.2.2.2.2.1
              clear hcl
              go_wp2_with (first | ((with_reducible refine gate_builtin (b := .append) (xs := #[.tmp 86, .tmp 88]) rfl ?_); at_builtin; refine Kd.R_append (Kd.raw 3) (w0 := w) w.heap.size rfl (.tmp 86) (.tmp 88) 43 45 (.agg #[.int .u8 0, .int .u8 0, .slice none 0 0]) 32 rfl Try.underlying43 nd_info rfl (by decide) (by omega) _ rows [.int .u8 a2, .int .u8 c2, .slice A2 m2 k2] [.int .u8 a2, .int .u8 c2, .slice A2 m2 k2] (fun k => k ≠ o ∧ k ≠ bn ∧ k ≠ bu ∧ k ≠ rb) (fun _ => False) rfl ?aX ?aP (fun _ hk => hk.elim) ?aF ?aO ?aB ?aS ?aL ?_; (case aX => first | rfl | (simp [Act.eval]; done) | (show Value.slice _ _ _ = Value.slice _ _ _; simp)); (case aP => exact ⟨rfl, rfl, fun u hu => by simp at hu; rcases hu with rfl | rfl | rfl <;> rfl⟩); (case aF => exact fun k hk => rout_new HR4.out hk); (case aO => exact HR4.out.2.2.2.2.1); (case aB => exact HB4.out); (case aS => exact HB4.out.size); (case aL => have := HXL.out; have := HN.out; have := HH.out; omega); intro v4 w21 ho hb4 hg4 hat4; obtain ⟨A4, c4, hv4, hle4, hC4⟩ := Kd.R_reads ho; have hx4 : ∃ m, m = i + 1 ∧ v4 = .slice A4 m c4 := ⟨_, by rw [List.length_append, List.length_singleton, HXL.out], hv4⟩; clear hv4; obtain ⟨m4, hm4, hv4⟩ := hx4; subst hv4; have HM4 := Aside0.mk hm4; have HST := Aside0.mk (rout_step HR4.out ho hg4 hat4 HTQ.out); have HBX := Aside0.mk (show Below w.heap.size w (w21.setCell ⟨o, 2, none⟩ (.slice A4 m4 c4)) from below_set hb4 HOW.out); have c3_ : w21.cell? ⟨o, 2, none⟩ = some (.slice As i ks) := (by rw [blk_cell (rout_o HR4.out hg4)]; rfl); have f3_ : w21.frozen? ⟨o, 2, none⟩ = false := blk_frozen (rout_o HR4.out hg4) 2; clear ho hb4 hg4 hat4 hle4 hC4 hm4))
              go_roundg (gk - 1)
              case measure => have := HI.out; have := HH.out; omega
              case rel =>
                have hm := HM4.out
                subst hm
                refine ⟨i + 1, false, _, _, _, rfl, ?_, ⟨by have := HI.out; have := HH.out; omega⟩, HST, ⟨by rw [List.length_append, List.length_singleton, HXL.out]⟩, HBX, ⟨by rw [HGS.out i, HNC.out, ← HGB.out]; rfl⟩⟩
                have := HN.out; have := HH.out
                have e1 : IntKind.i64.wrap ((i : Int) + 1) = ((i + 1 : Nat) : Int) := by rw [IntKind.wrap_i64]; omega
                have e2 : wrap64 ((i : Int) + 1) = ((i + 1 : Nat) : Int) := by rw [wrap64]; omega
                first | rfl | (rw [← e1]; done) | (rw [← e2]; done) | (simp [e1]; done) | (simp [e2]; done) | (show Value.int .i64 _ = _; rw [e1]; done) | (show Value.int .i64 _ = _; rw [e2])
            | true =>
              cases hgo : go i with
              | false =>
                have HGO := Aside0.mk hgo
                clear hgo
                have HTQ := Aside0.mk (show NdIn (w3.alloc (.cells #[.int .u8 a2, .int .u8 c2, .slice A2 m2 k2] 45)) (fun k => k ≠ o ∧ k ≠ rb ∧ some k ≠ (Value.slice As i ks).ownBlock ∧ (ok k ∨ w.heap.size ≤ k)) (.agg ([.int .u8 a2, .int .u8 c2, .slice A2 m2 k2] : List Value).toArray) (ts rows.length) from by rw [HXL.out, HTS.out i, if_neg (by rw [HNC.out]; decide)]; exact (HQ.out.below HB34.out).mono fun k hk _ => rout_fresh HR2.out HOK.out HRW.out hk)
                have hcl := rout_cells HR4.out
                have o2 := hcl.2.2.2.2.1
                clear hcl
                go_wp2_with (first | ((with_reducible refine gate_builtin (b := .append) (xs := #[.tmp 86, .tmp 88]) rfl ?_); at_builtin; refine Kd.R_append (Kd.raw 3) (w0 := w) w.heap.size rfl (.tmp 86) (.tmp 88) 43 45 (.agg #[.int .u8 0, .int .u8 0, .slice none 0 0]) 32 rfl Try.underlying43 nd_info rfl (by decide) (by omega) _ rows [.int .u8 a2, .int .u8 c2, .slice A2 m2 k2] [.int .u8 a2, .int .u8 c2, .slice A2 m2 k2] (fun k => k ≠ o ∧ k ≠ bn ∧ k ≠ bu ∧ k ≠ rb) (fun _ => False) rfl ?aX ?aP (fun _ hk => hk.elim) ?aF ?aO ?aB ?aS ?aL ?_; (case aX => first | rfl | (simp [Act.eval]; done) | (show Value.slice _ _ _ = Value.slice _ _ _; simp)); (case aP => exact ⟨rfl, rfl, fun u hu => by simp at hu; rcases hu with rfl | rfl | rfl <;> rfl⟩); (case aF => exact fun k hk => rout_new HR4.out hk); (case aO => exact HR4.out.2.2.2.2.1); (case aB => exact HB4.out); (case aS => exact HB4.out.size); (case aL => have := HXL.out; have := HN.out; have := HH.out; omega); intro v4 w21 ho hb4 hg4 hat4; obtain ⟨A4, c4, hv4, hle4, hC4⟩ := Kd.R_reads ho; have hx4 : ∃ m, m = i + 1 ∧ v4 = .slice A4 m c4 := ⟨_, by rw [List.length_append, List.length_singleton, HXL.out], hv4⟩; clear hv4; obtain ⟨m4, hm4, hv4⟩ := hx4; subst hv4; have HM4 := Aside0.mk hm4; have HST := Aside0.mk (rout_step HR4.out ho hg4 hat4 HTQ.out); have HBX := Aside0.mk (show Below w.heap.size w (w21.setCell ⟨o, 2, none⟩ (.slice A4 m4 c4)) from below_set hb4 HOW.out); have c3_ : w21.cell? ⟨o, 2, none⟩ = some (.slice As i ks) := (by rw [blk_cell (rout_o HR4.out hg4)]; rfl); have f3_ : w21.frozen? ⟨o, 2, none⟩ = false := blk_frozen (rout_o HR4.out hg4) 2; clear ho hb4 hg4 hat4 hle4 hC4 hm4))
                go_roundg (gk - 1)
                case measure => have := HI.out; have := HH.out; omega
                case rel =>
                  have hm := HM4.out
                  subst hm
                  refine ⟨i + 1, false, _, _, _, rfl, ?_, ⟨by have := HI.out; have := HH.out; omega⟩, HST, ⟨by rw [List.length_append, List.length_singleton, HXL.out]⟩, HBX, ⟨by rw [HGS.out i, HNC.out, ← HGB.out]; rw [HGO.out]; rfl⟩⟩
                  have := HN.out; have := HH.out
                  have e1 : IntKind.i64.wrap ((i : Int) + 1) = ((i + 1 : Nat) : Int) := by rw [IntKind.wrap_i64]; omega
                  have e2 : wrap64 ((i : Int) + 1) = ((i + 1 : Nat) : Int) := by rw [wrap64]; omega
                  first | rfl | (rw [← e1]; done) | (rw [← e2]; done) | (simp [e1]; done) | (simp [e2]; done) | (show Value.int .i64 _ = _; rw [e1]; done) | (show Value.int .i64 _ = _; rw [e2])
              | true =>
                have HGO := Aside0.mk hgo
                clear hgo
                have HTQ := Aside0.mk (show NdIn (w3.alloc (.cells #[.int .u8 a2, .int .u8 c2, .slice A2 m2 k2] 45)) (fun k => k ≠ o ∧ k ≠ rb ∧ some k ≠ (Value.slice As i ks).ownBlock ∧ (ok k ∨ w.heap.size ≤ k)) (.agg ([.int .u8 a2, .int .u8 c2, .slice A2 m2 k2] : List Value).toArray) (ts rows.length) from by rw [HXL.out, HTS.out i, if_neg (by rw [HNC.out]; decide)]; exact (HQ.out.below HB34.out).mono fun k hk _ => rout_fresh HR2.out HOK.out HRW.out hk)
                have hcl := rout_cells HR4.out
                have o2 := hcl.2.2.2.2.1
                clear hcl
                go_wp2_with (first | ((with_reducible refine gate_builtin (b := .append) (xs := #[.tmp 86, .tmp 88]) rfl ?_); at_builtin; refine Kd.R_append (Kd.raw 3) (w0 := w) w.heap.size rfl (.tmp 86) (.tmp 88) 43 45 (.agg #[.int .u8 0, .int .u8 0, .slice none 0 0]) 32 rfl Try.underlying43 nd_info rfl (by decide) (by omega) _ rows [.int .u8 a2, .int .u8 c2, .slice A2 m2 k2] [.int .u8 a2, .int .u8 c2, .slice A2 m2 k2] (fun k => k ≠ o ∧ k ≠ bn ∧ k ≠ bu ∧ k ≠ rb) (fun _ => False) rfl ?aX ?aP (fun _ hk => hk.elim) ?aF ?aO ?aB ?aS ?aL ?_; (case aX => first | rfl | (simp [Act.eval]; done) | (show Value.slice _ _ _ = Value.slice _ _ _; simp)); (case aP => exact ⟨rfl, rfl, fun u hu => by simp at hu; rcases hu with rfl | rfl | rfl <;> rfl⟩); (case aF => exact fun k hk => rout_new HR4.out hk); (case aO => exact HR4.out.2.2.2.2.1); (case aB => exact HB4.out); (case aS => exact HB4.out.size); (case aL => have := HXL.out; have := HN.out; have := HH.out; omega); intro v4 w21 ho hb4 hg4 hat4; obtain ⟨A4, c4, hv4, hle4, hC4⟩ := Kd.R_reads ho; have hx4 : ∃ m, m = i + 1 ∧ v4 = .slice A4 m c4 := ⟨_, by rw [List.length_append, List.length_singleton, HXL.out], hv4⟩; clear hv4; obtain ⟨m4, hm4, hv4⟩ := hx4; subst hv4; have HM4 := Aside0.mk hm4; have HST := Aside0.mk (rout_step HR4.out ho hg4 hat4 HTQ.out); have HBX := Aside0.mk (show Below w.heap.size w (w21.setCell ⟨o, 2, none⟩ (.slice A4 m4 c4)) from below_set hb4 HOW.out); have c3_ : w21.cell? ⟨o, 2, none⟩ = some (.slice As i ks) := (by rw [blk_cell (rout_o HR4.out hg4)]; rfl); have f3_ : w21.frozen? ⟨o, 2, none⟩ = false := blk_frozen (rout_o HR4.out hg4) 2; clear ho hb4 hg4 hat4 hle4 hC4 hm4))
                go_roundg (gk - 1)
                case measure => have := HI.out; have := HH.out; omega
                case rel =>
                  have hm := HM4.out
                  subst hm
                  refine ⟨i + 1, true, _, _, _, rfl, ?_, ⟨by have := HI.out; have := HH.out; omega⟩, HST, ⟨by rw [List.length_append, List.length_singleton, HXL.out]⟩, HBX, ⟨by rw [HGS.out i, HNC.out, ← HGB.out]; rw [HGO.out, HI0.out]; rfl⟩⟩
                  have := HN.out; have := HH.out
                  have e1 : IntKind.i64.wrap ((i : Int) + 1) = ((i + 1 : Nat) : Int) := by rw [IntKind.wrap_i64]; omega
                  have e2 : wrap64 ((i : Int) + 1) = ((i + 1 : Nat) : Int) := by rw [wrap64]; omega
                  first | rfl | (rw [← e1]; done) | (rw [← e2]; done) | (simp [e1]; done) | (simp [e2]; done) | (show Value.int .i64 _ = _; rw [e1]; done) | (show Value.int .i64 _ = _; rw [e2])
      · have h1 : (n : Int) ≤ (i : Int) := by omega
        have HE := Aside0.mk (show i = n from by have := HI.out; omega)
        clear hi
        have hcl := rout_cells HR.out
        have co0 := hcl.2.2.2.2.2.1
        have co1 := hcl.2.2.2.2.2.2
        have co2 := hcl.2.2.2.2.1
        have fr0 := blk_frozen HR.out.2.2.1 0
        have fr1 := blk_frozen HR.out.2.2.1 1
        have fr2 := blk_frozen HR.out.2.2.1 2
        have r0_ : wr.cell? ⟨rb, 0, none⟩ = some (.int .u8 0) := by rw [blk_cell HR.out.2.2.1]; rfl
        have r1_ : wr.cell? ⟨rb, 1, none⟩ = some (.int .u8 0) := by rw [blk_cell HR.out.2.2.1]; rfl
        have r2_ : wr.cell? ⟨rb, 2, none⟩ = some (.slice none 0 0) := by rw [blk_cell HR.out.2.2.1]; rfl
        clear hcl
        go_wp2
        refine bodyPost_ret (results_list (rs := [.cell 6 45, .tmp 7]) rfl (by simp) (.cell rb 45 _ (0, 0) _ rfl (LB.put HR.out.2.2.1 a c As i ks) Try.underlying45 rfl node_info (.tmp .nil))) rfl ?_
        refine ⟨As, ks, by rw [← HE.out, ← HGB.out]; rfl, ?_, below_set (below_set (below_set HB.out HRW.out) HRW.out) HRW.out⟩
        exact rout_end HR.out HXL.out HE.out HRW.out
end Go.Proofs.YtpklhagedifglaaW.PrintMore
namespace Go.Proofs.YtpklhagedifglaaW.PrintMore
set_option linter.unusedVariables false
set_option linter.unusedSimpArgs false
open Go.Proofs Go.Deep
open Go.RowKit Go.Proofs.YtpklhagedifglaaW.PrintWords Go.Proofs.YtpklhagedifglaaW.PrintLast Go.Proofs.YtpklhagedifglaaW.PrintMore
set_option maxHeartbeats 2000000 in
theorem l5rep_var (w : World) (c : UInt8) (A : Option Addr) (k : Nat) (ua uc : Int) (uA : Option Addr) (um uk : Nat) :
    Calls Try.prog 34 #[ndV 97 (c.toNat : Int) A 0 k, .int .u8 (c.toNat : Int), ndV ua uc uA um uk] w fun e w' => e = .returned (.tuple #[ndV ua uc uA um uk, .bool true]) ∧ Below w.heap.size w w' := by
  have HB := Aside0.mk (show Below w.heap.size w (((w.alloc (.cells #[.int .u8 97, .int .u8 (c.toNat : Int), .slice A 0 k] 45)).alloc (.cells #[.int .u8 ua, .int .u8 uc, .slice uA um uk] 45)).alloc (.cells #[.int .u8 ua, .int .u8 uc, .slice uA um uk] 45)) from ((((Below.refl _ w).alloc (Nat.le_refl _) _).alloc (by simp) _).alloc (by simp; omega) _))
  have HL := Aside0.mk (show LB (((w.alloc (.cells #[.int .u8 97, .int .u8 (c.toNat : Int), .slice A 0 k] 45)).alloc (.cells #[.int .u8 ua, .int .u8 uc, .slice uA um uk] 45)).alloc (.cells #[.int .u8 ua, .int .u8 uc, .slice uA um uk] 45)) (w.heap.size + 1 + 1) ua uc uA um uk from by
    have := LB.new ((w.alloc (.cells #[.int .u8 97, .int .u8 (c.toNat : Int), .slice A 0 k] 45)).alloc (.cells #[.int .u8 ua, .int .u8 uc, .slice uA um uk] 45)) ua uc uA um uk
    simpa using this)
  unfold ndV
  go_enter Try.func34, Try.ntmps34
  go_wp2
  refine bodyPost_ret (results_list (rs := [.cell 6 45, .tmp 7]) rfl (by simp) (.cell (w.heap.size + 1 + 1) 45 _ (0, 0) _ rfl HL.out Try.underlying45 rfl node_info (.tmp .nil))) rfl ?_
  exact ⟨rfl, HB.out⟩
/-- What replaces a variable, whatever would be bound. -/
def Tm.pr : Tm → UInt8 → Tm → Tm
  | .leaf c, z, u => if isDig c = false ∧ z = c then u else .leaf c
  | .un c x, z, u => .un c (if x.fb z = true then x.pr z u else x)
  | .bin c x y, z, u => .bin c (if x.fb z = true then x.pr z u else x) (if y.fb z = true then y.pr z u else y)
  | .loop c b x y, z, u => .loop c b (if x.fb z = true then x.pr z u else x) (if b = z ∨ y.fb z = false then y else y.pr z u)
/-- Whether nothing would be bound. -/
def Tm.gd : Tm → UInt8 → Tm → Bool
  | .leaf _, _, _ => true
  | .un _ x, z, u => !x.fb z || x.gd z u
  | .bin _ x y, z, u => (!x.fb z || x.gd z u) && (!y.fb z || y.gd z u)
  | .loop _ b x y, z, u => (!x.fb z || x.gd z u) && ((b == z || !y.fb z) || (y.gd z u && !u.fb b))
def itB (F : Nat → Bool) : Nat → Bool
  | 0 => true
  | j + 1 => itB F j && F j
/-- What l5Replace answers. -/
def RepP (w : World) (ok : Nat → Prop) (t : Tm) (g : Bool) (e : Ending) (w' : World) : Prop :=
  ∃ (a2 c2 : Int) (A2 : Option Addr) (m2 k2 : Nat), e = .returned (.tuple #[ndV a2 c2 A2 m2 k2, .bool g]) ∧ NdIn w' (fun k => ok k ∨ w.heap.size ≤ k) (ndV a2 c2 A2 m2 k2) t ∧ Below w.heap.size w w'
theorem l5rep_walk (z : UInt8) (hz : ¬ (z.toNat : Int) = 0) (u : Tm) (hu : u.ok) (ua uc : Int) (uA : Option Addr) (um uk : Nat) : ∀ (t : Tm) (v : Value) (w : World) (ok : Nat → Prop), t.ok → (∀ k, ok k → k < w.heap.size) → NdIn w ok v t → NdIn w ok (ndV ua uc uA um uk) u →
    Calls Try.prog 34 #[v, .int .u8 (z.toNat : Int), ndV ua uc uA um uk] w fun e w' => RepP w ok (t.pr z u) (t.gd z u) e w' := by
  have hcx : ∀ (c : UInt8), ((c.toNat : Int) == (z.toNat : Int)) = (c == z) := by
    intro c
    by_cases h : c = z
    · subst h; simp
    · have : ¬ (c.toNat : Int) = (z.toNat : Int) := fun e => h (UInt8.toNat_inj.1 (by omega))
      rw [beq_eq_false_iff_ne.2 this, beq_eq_false_iff_ne.2 h]
  intro t
  induction t with
  | leaf c =>
    rintro v w ok hw hok ⟨A, k, rfl⟩ hun
    by_cases hv : isDig c = false ∧ z = c
    · obtain ⟨hd, rfl⟩ := hv
      rw [hd, if_neg (by decide)]
      refine (l5rep_var w z A k ua uc uA um uk).mono ?_
      rintro e w' ⟨rfl, hb⟩
      refine ⟨ua, uc, uA, um, uk, rfl, ?_, hb⟩
      simp only [Tm.pr]
      rw [if_pos (by simp [hd])]
      exact (hun.below hb).mono fun k hk _ => .inl hk
    · have hac : ¬ ((if isDig c = true then (48 : Int) else 97) = 97 ∧ (c.toNat : Int) = (z.toNat : Int)) := by
        rintro ⟨h1, h2⟩
        apply hv
        refine ⟨?_, (UInt8.toNat_inj.1 (by omega)).symm⟩
        cases hd : isDig c with
        | true => rw [hd] at h1; simp at h1
        | false => rfl
      have := l5rep_node w _ (c.toNat : Int) A 0 k ua uc uA um uk (z.toNat : Int) _ (fun _ => false) (fun _ => false) (u.fb c) (fun _ => .leaf c) (fun _ => .leaf c) ok hok (by omega) hac (fun j hj => by omega) (fun h V hV => l5Free_walk 0 c h u _ V hu (hun.below hV).at) (fun j => rfl) (itB _) rfl (fun j => rfl)
      refine this.mono ?_
      rintro e w' ⟨A2, k2, rfl, _, hb⟩
      refine ⟨_, _, A2, 0, k2, rfl, ?_, hb⟩
      simp only [Tm.pr]
      rw [if_neg hv]
      exact ⟨A2, k2, rfl⟩
  | un c x ih =>
    rintro v w ok hw hok h hun
    rcases nd_parts h with ⟨_, _, _, h, _⟩ | ⟨c', x', q, k, a0, c0, A0, m0, k0, e, rfl, h0, h1, h2, hx⟩ | ⟨_, _, _, _, _, _, _, _, _, _, _, _, _, _, _, _, (h | ⟨_, h, _⟩), _⟩
    · cases h
    · cases e
      have hx' : NdIn w ok (ndV a0 c0 A0 m0 k0) x := hx
      have := l5rep_node w (c.toNat : Int) 0 (some ⟨q, 0, none⟩) 1 k ua uc uA um uk (z.toNat : Int) _ (fun _ => x.fb z) (fun _ => x.gd z u) false (fun _ => x) (fun _ => x.pr z u) ok hok (by omega) (fun h => un_97 hw.1 h.1) (fun j hj => by
        have : j = 0 := by omega
        subst this
        exact ⟨q, a0, c0, A0, m0, k0, rfl, (mask_some h0).2, (mask_some h1).2, (mask_some h2).2, hx', fun V hV => l5Free_walk 0 z hz x _ V hw.2 (hx'.below hV).at, fun V hV => ih _ V ok hw.2 (fun k hk => Nat.lt_of_lt_of_le (hok k hk) hV.size) (hx'.below hV) (hun.below hV)⟩) (fun h => absurd rfl h) (fun j => rfl) (itB _) rfl (fun j => rfl)
      refine this.mono ?_
      rintro e w' ⟨A2, k2, rfl, hr, hb⟩
      rcases hr with hr | ⟨g, rfl, hg, hk2, hp⟩
      · omega
      obtain ⟨f0, f1, f2, e0, e1, e2, ht⟩ := hp 0 (by omega)
      refine ⟨_, _, _, _, _, ?_, ⟨g, k2, f0, f1, f2, Nat.zero_le _, rfl, hk2, by rw [mask_yes (.inr hg)]; exact e0, by rw [mask_yes (.inr hg)]; exact e1, by rw [mask_yes (.inr hg)]; exact e2, ?_⟩, hb⟩
      · congr 3
        simp [itB, Tm.gd]
      · have ht : NdAt _ 0 _ _ := ht
        cases hf : x.fb z <;> simp [hf] at ht ⊢ <;> exact ht
    · cases h.1
    · cases h
  | bin c x y ih1 ih2 =>
    rintro v w ok hw hok h hun
    rcases nd_parts h with ⟨_, _, _, h, _⟩ | ⟨_, _, _, _, _, _, _, _, _, h, _⟩ | ⟨c', b', x', y', q, k, a0, c0, A0, m0, k0, a1, c1, A1, m1, k1, (⟨e, rfl⟩ | ⟨_, hzz, _⟩), rfl, h0, h1, h2, h3, h4, h5, hx, hy⟩
    · cases h
    · cases h
    · cases e
      have hx' : NdIn w ok (ndV a0 c0 A0 m0 k0) x := hx
      have hy' : NdIn w ok (ndV a1 c1 A1 m1 k1) y := hy
      have := l5rep_node w (c.toNat : Int) 0 (some ⟨q, 0, none⟩) 2 k ua uc uA um uk (z.toNat : Int) _ (fun j => if j = 0 then x.fb z else y.fb z) (fun j => if j = 0 then x.gd z u else y.gd z u) false (fun j => if j = 0 then x else y) (fun j => if j = 0 then x.pr z u else y.pr z u) ok hok (by omega) (fun h => bin_97 hw.1 h.1) (fun j hj => by
        have : j = 0 ∨ j = 1 := by omega
        rcases this with rfl | rfl
        · exact ⟨q, a0, c0, A0, m0, k0, rfl, (mask_some h0).2, (mask_some h1).2, (mask_some h2).2, hx', fun V hV => l5Free_walk 0 z hz x _ V hw.2.1 (hx'.below hV).at, fun V hV => ih1 _ V ok hw.2.1 (fun k hk => Nat.lt_of_lt_of_le (hok k hk) hV.size) (hx'.below hV) (hun.below hV)⟩
        · exact ⟨q, a1, c1, A1, m1, k1, rfl, (mask_some h3).2, (mask_some h4).2, (mask_some h5).2, hy', fun V hV => l5Free_walk 0 z hz y _ V hw.2.2 (hy'.below hV).at, fun V hV => ih2 _ V ok hw.2.2 (fun k hk => Nat.lt_of_lt_of_le (hok k hk) hV.size) (hy'.below hV) (hun.below hV)⟩) (fun h => absurd rfl h) (fun j => rfl) (itB _) rfl (fun j => rfl)
      refine this.mono ?_
      rintro e w' ⟨A2, k2, rfl, hr, hb⟩
      have hz0 : ((0 : Int) == (z.toNat : Int)) = false := by simp; omega
      rcases hr with hr | ⟨g, rfl, hg, hk2, hp⟩
      · omega
      obtain ⟨f0, f1, f2, e0, e1, e2, ht⟩ := hp 0 (by omega)
      obtain ⟨f3, f4, f5, e3, e4, e5, ht'⟩ := hp 1 (by omega)
      refine ⟨_, _, _, _, _, ?_, ⟨g, k2, f0, f1, f2, f3, f4, f5, Nat.zero_le _, rfl, hk2, by rw [mask_yes (.inr hg)]; exact e0, by rw [mask_yes (.inr hg)]; exact e1, by rw [mask_yes (.inr hg)]; exact e2, by rw [mask_yes (.inr hg)]; exact e3, by rw [mask_yes (.inr hg)]; exact e4, by rw [mask_yes (.inr hg)]; exact e5, ?_, ?_⟩, hb⟩
      · congr 3
        simp [itB, Tm.gd, hz0]
      · have ht : NdAt _ 0 _ _ := ht
        cases hf : x.fb z <;> simp [hf] at ht ⊢ <;> exact ht
      · have ht : NdAt _ 0 _ _ := ht'
        cases hf : y.fb z <;> simp [hf, hz0] at ht ⊢ <;> exact ht
    · cases hzz
  | loop c b x y ih1 ih2 =>
    rintro v w ok hw hok h hun
    rcases nd_parts h with ⟨_, _, _, h, _⟩ | ⟨_, _, _, _, _, _, _, _, _, h, _⟩ | ⟨c', b', x', y', q, k, a0, c0, A0, m0, k0, a1, c1, A1, m1, k1, (⟨hzz, _⟩ | ⟨zb, e, rfl⟩), rfl, h0, h1, h2, h3, h4, h5, hx, hy⟩
    · cases h
    · cases h
    · cases hzz
    · cases e
      have hx' : NdIn w ok (ndV a0 c0 A0 m0 k0) x := hx
      have hy' : NdIn w ok (ndV a1 c1 A1 m1 k1) y := hy
      have := l5rep_node w (c.toNat : Int) (b.toNat : Int) (some ⟨q, 0, none⟩) 2 k ua uc uA um uk (z.toNat : Int) _ (fun j => if j = 0 then x.fb z else y.fb z) (fun j => if j = 0 then x.gd z u else y.gd z u) (u.fb b) (fun j => if j = 0 then x else y) (fun j => if j = 0 then x.pr z u else y.pr z u) ok hok (by omega) (fun h => loop_97 hw.1 h.1) (fun j hj => by
        have : j = 0 ∨ j = 1 := by omega
        rcases this with rfl | rfl
        · exact ⟨q, a0, c0, A0, m0, k0, rfl, (mask_some h0).2, (mask_some h1).2, (mask_some h2).2, hx', fun V hV => l5Free_walk 0 z hz x _ V hw.2.2.1 (hx'.below hV).at, fun V hV => ih1 _ V ok hw.2.2.1 (fun k hk => Nat.lt_of_lt_of_le (hok k hk) hV.size) (hx'.below hV) (hun.below hV)⟩
        · exact ⟨q, a1, c1, A1, m1, k1, rfl, (mask_some h3).2, (mask_some h4).2, (mask_some h5).2, hy', fun V hV => l5Free_walk 0 z hz y _ V hw.2.2.2 (hy'.below hV).at, fun V hV => ih2 _ V ok hw.2.2.2 (fun k hk => Nat.lt_of_lt_of_le (hok k hk) hV.size) (hy'.below hV) (hun.below hV)⟩) (fun _ V hV => l5Free_walk 0 b (bound_nz hw.2.1) u _ V hu (hun.below hV).at) (fun j => rfl) (itB _) rfl (fun j => rfl)
      refine this.mono ?_
      rintro e w' ⟨A2, k2, rfl, hr, hb⟩
      have hb0 : ((b.toNat : Int) == 0) = false := by have := bound_nz hw.2.1; simp; omega
      rcases hr with hr | ⟨g, rfl, hg, hk2, hp⟩
      · omega
      obtain ⟨f0, f1, f2, e0, e1, e2, ht⟩ := hp 0 (by omega)
      obtain ⟨f3, f4, f5, e3, e4, e5, ht'⟩ := hp 1 (by omega)
      refine ⟨_, _, _, _, _, ?_, ⟨g, k2, f0, f1, f2, f3, f4, f5, Nat.zero_le _, rfl, hk2, by rw [mask_yes (.inr hg)]; exact e0, by rw [mask_yes (.inr hg)]; exact e1, by rw [mask_yes (.inr hg)]; exact e2, by rw [mask_yes (.inr hg)]; exact e3, by rw [mask_yes (.inr hg)]; exact e4, by rw [mask_yes (.inr hg)]; exact e5, ?_, ?_⟩, hb⟩
      · congr 3
        simp only [itB, Tm.gd, hcx, hb0]
        cases x.fb z <;> cases y.fb z <;> cases x.gd z u <;> cases y.gd z u <;> cases u.fb b <;> cases (b == z) <;> rfl
      · have ht : NdAt _ 0 _ _ := ht
        cases hf : x.fb z <;> simp [hf] at ht ⊢ <;> exact ht
      · have ht : NdAt _ 0 _ _ := ht'
        simp only [hcx] at ht
        by_cases hbz : b = z
        · cases hf : y.fb z <;> simp [hf, hbz] at ht ⊢ <;> exact ht
        · cases hf : y.fb z <;> simp [hf, hbz] at ht ⊢ <;> exact ht
theorem fb_pos {t : Tm} {z : UInt8} : t.fb z = true ↔ 0 < t.fc z := by unfold Tm.fb; simp
theorem fb_no {t : Tm} {z : UInt8} : t.fb z = false ↔ t.fc z = 0 := by unfold Tm.fb; simp
theorem pr_same (z : UInt8) (u : Tm) : ∀ (t : Tm), t.fc z = 0 → t.pr z u = t ∧ t.gd z u = true := by
  intro t
  induction t with
  | leaf c =>
    intro h
    simp only [Tm.fc] at h
    simp only [Tm.pr, Tm.gd]
    refine ⟨if_neg fun hh => ?_, trivial⟩
    rw [if_pos hh] at h; cases h
  | un c x ih =>
    intro h
    have h : x.fc z = 0 := h
    simp only [Tm.pr, Tm.gd, fb_no.2 h]
    exact ⟨rfl, rfl⟩
  | bin c x y ih1 ih2 =>
    intro h
    have h : x.fc z + y.fc z = 0 := h
    have h1 : x.fc z = 0 := by omega
    have h2 : y.fc z = 0 := by omega
    simp only [Tm.pr, Tm.gd, fb_no.2 h1, fb_no.2 h2]
    exact ⟨rfl, rfl⟩
  | loop c b x y ih1 ih2 =>
    intro h
    simp only [Tm.fc] at h
    have h1 : x.fc z = 0 := by omega
    simp only [Tm.pr, Tm.gd, fb_no.2 h1]
    by_cases hb : z = b
    · subst hb; simp
    · rw [if_neg hb] at h
      have h2 : y.fc z = 0 := by omega
      simp [fb_no.2 h2]
theorem pt_eq (z : UInt8) (u : Tm) : ∀ (t : Tm), t.pt z u = cond (t.gd z u) (some (t.pr z u)) none := by
  intro t
  induction t with
  | leaf c =>
    simp only [Tm.pt, Tm.gd, cond_true]
    by_cases h : (Tm.leaf c).fc z = 0
    · rw [if_pos h, (pr_same z u _ h).1]
    · rw [if_neg h]
      simp only [Tm.fc] at h
      simp only [Tm.pr]
      by_cases hh : isDig c = false ∧ z = c
      · rw [if_pos hh]
      · rw [if_neg hh] at h; exact absurd rfl h
  | un c x ih =>
    by_cases h : x.fc z = 0
    · have := pr_same z u (.un c x) h
      rw [this.1, this.2]
      simp only [Tm.pt]; rw [if_pos h]; rfl
    · simp only [Tm.pt, Tm.gd, Tm.pr, fb_pos.2 (by omega : 0 < x.fc z)]
      rw [if_neg h, ih]
      cases x.gd z u <;> rfl
  | bin c x y ih1 ih2 =>
    by_cases h : x.fc z + y.fc z = 0
    · have := pr_same z u (.bin c x y) h
      rw [this.1, this.2]
      simp only [Tm.pt]; rw [if_pos h]; rfl
    · simp only [Tm.pt, Tm.gd, Tm.pr]
      rw [if_neg h, ih1, ih2]
      have hx : x.fb z = false → x.gd z u = true ∧ x.pr z u = x := fun h => ⟨(pr_same z u x (fb_no.1 h)).2, (pr_same z u x (fb_no.1 h)).1⟩
      have hy : y.fb z = false → y.gd z u = true ∧ y.pr z u = y := fun h => ⟨(pr_same z u y (fb_no.1 h)).2, (pr_same z u y (fb_no.1 h)).1⟩
      cases hxf : x.fb z with
      | false =>
        rw [(hx hxf).1, (hx hxf).2]
        cases hyf : y.fb z with
        | false => rw [(hy hyf).1, (hy hyf).2]; rfl
        | true => cases y.gd z u <;> rfl
      | true =>
        cases hyf : y.fb z with
        | false => rw [(hy hyf).1, (hy hyf).2]; cases x.gd z u <;> rfl
        | true => cases x.gd z u <;> cases y.gd z u <;> rfl
  | loop c b x y ih1 ih2 =>
    by_cases h : (Tm.loop c b x y).fc z = 0
    · have := pr_same z u (.loop c b x y) h
      rw [this.1, this.2]
      simp only [Tm.pt]; rw [if_pos h]; rfl
    · simp only [Tm.pt, Tm.gd, Tm.pr]
      rw [if_neg h, ih1, ih2]
      have hx : x.fb z = false → x.gd z u = true ∧ x.pr z u = x := fun h => ⟨(pr_same z u x (fb_no.1 h)).2, (pr_same z u x (fb_no.1 h)).1⟩
      have hy : y.fb z = false → y.gd z u = true ∧ y.pr z u = y := fun h => ⟨(pr_same z u y (fb_no.1 h)).2, (pr_same z u y (fb_no.1 h)).1⟩
      by_cases hbz : b = z
      · simp only [if_pos hbz, if_pos (Or.inl hbz : b = z ∨ y.fb z = false)]
        have hbz' : (b == z) = true := by simp [hbz]
        rw [hbz']
        cases hxf : x.fb z with
        | false => rw [(hx hxf).1, (hx hxf).2]; rfl
        | true => cases x.gd z u <;> rfl
      · simp only [if_neg hbz]
        have hbz' : (b == z) = false := by simp [hbz]
        rw [hbz']
        cases hyf : y.fb z with
        | false =>
          have hy0 := fb_no.1 hyf
          have hcn : ¬ (0 < y.fc z ∧ 0 < u.fc b) := fun hh => by omega
          simp only [if_neg hcn]
          rw [(hy hyf).1, (hy hyf).2]
          cases hxf : x.fb z with
          | false => rw [(hx hxf).1, (hx hxf).2]; simp
          | true => cases x.gd z u <;> simp
        | true =>
          have hy0 := fb_pos.1 hyf
          have hbn : ¬ (b = z ∨ true = false) := fun hh => by rcases hh with hh | hh; exact hbz hh; cases hh
          simp only [if_neg hbn]
          cases hub : u.fb b with
          | true =>
            have hcn : 0 < y.fc z ∧ 0 < u.fc b := ⟨hy0, fb_pos.1 hub⟩
            simp only [if_pos hcn]
            cases x.gd z u <;> cases x.fb z <;> cases y.gd z u <;> simp
          | false =>
            have h0 := fb_no.1 hub
            have hcn : ¬ (0 < y.fc z ∧ 0 < u.fc b) := fun hh => by omega
            simp only [if_neg hcn]
            cases hxf : x.fb z with
            | false => rw [(hx hxf).1, (hx hxf).2]; cases y.gd z u <;> simp
            | true => cases x.gd z u <;> cases y.gd z u <;> simp
theorem pr_ok (z : UInt8) (u : Tm) (hu : u.ok) : ∀ t : Tm, t.ok → (t.pr z u).ok := by
  intro t
  induction t with
  | leaf c => intro h; simp only [Tm.pr]; split; exact hu; exact h
  | un c x ih => intro h; simp only [Tm.pr]; refine ⟨h.1, ?_⟩; split; exact ih h.2; exact h.2
  | bin c x y ih1 ih2 => intro h; simp only [Tm.pr]; refine ⟨h.1, ?_, ?_⟩; (split; exact ih1 h.2.1; exact h.2.1); (split; exact ih2 h.2.2; exact h.2.2)
  | loop c b x y ih1 ih2 => intro h; simp only [Tm.pr]; refine ⟨h.1, h.2.1, ?_, ?_⟩; (split; exact ih1 h.2.2.1; exact h.2.2.1); (split; exact h.2.2.2; exact ih2 h.2.2.2)
theorem pr_size (z : UInt8) (u : Tm) : ∀ (t : Tm), (t.pr z u).tx.size ≤ t.tx.size * u.tx.size := by
  have hp := tx_pos u
  have hs : ∀ n : Nat, n ≤ n * u.tx.size := fun n => Nat.le_mul_of_pos_right n hp
  have c1 : ∀ c : UInt8, (ch c).size = 1 := fun _ => rfl
  have e1 : ∀ x : UInt8, (⟨#[x]⟩ : ByteArray).size = 1 := fun _ => rfl
  intro t
  induction t with
  | leaf c =>
    simp only [Tm.pr]; split
    · show u.tx.size ≤ 1 * u.tx.size; omega
    · exact hs _
  | un c x ih =>
    have hx : (if x.fb z = true then x.pr z u else x).tx.size ≤ x.tx.size * u.tx.size := by split; exact ih; exact hs _
    simp only [Tm.pr, Tm.tx, ByteArray.size_append, c1, Nat.add_mul]; omega
  | bin c x y ih1 ih2 =>
    have hx : (if x.fb z = true then x.pr z u else x).tx.size ≤ x.tx.size * u.tx.size := by split; exact ih1; exact hs _
    have hy : (if y.fb z = true then y.pr z u else y).tx.size ≤ y.tx.size * u.tx.size := by split; exact ih2; exact hs _
    simp only [Tm.pr, Tm.tx, ByteArray.size_append, c1, e1, Nat.add_mul]; omega
  | loop c b x y ih1 ih2 =>
    have hx : (if x.fb z = true then x.pr z u else x).tx.size ≤ x.tx.size * u.tx.size := by split; exact ih1; exact hs _
    have hy : (if b = z ∨ y.fb z = false then y else y.pr z u).tx.size ≤ y.tx.size * u.tx.size := by split; exact hs _; exact ih2
    simp only [Tm.pr, Tm.tx, ByteArray.size_append, c1, e1, Nat.add_mul]; omega
theorem var_long {v : ByteArray} {X : ByteArray} (hx : v.data.toList = X.data.toList) (h : 2 ≤ X.size) : varIn v = none := by
  unfold varIn
  split
  · rename_i c hc
    exfalso
    rw [hx] at hc
    have := congrArg List.length hc
    rw [← size_list] at this
    simp at this; omega
  · rfl
/-- A variable is a term, and the reference sees it so. -/
theorem var_tm (v : ByteArray) : varIn v = (tmOf v.data.toList).bind fun t => match t with
    | .leaf c => if isDig c = true then none else some c
    | _ => none := by
  cases ht : tmOf v.data.toList with
  | none =>
    unfold varIn
    split
    · rename_i c hc
      split
      · rename_i hv
        rw [hc] at ht
        unfold tmOf at ht
        rw [if_pos (by simp)] at ht
        have : parse 1 [c] = some (.leaf c, []) := by unfold parse; rw [if_pos (by rw [hv]; rfl)]
        rw [show ([c] : List UInt8).length = 1 from rfl, this] at ht
        cases ht
      · rfl
    · rfl
  | some t =>
    have hx := (tmOf_tx ht).1
    have hok := tmOf_ok ht
    cases t with
    | leaf c =>
      have hl : v.data.toList = [c] := hx
      have hv : varIn v = if isVar c = true then some c else none := by unfold varIn; rw [hl]
      rw [hv]
      show _ = (if isDig c = true then none else some c)
      have hok : (isVar c || isDig c) = true := hok
      cases hd : isDig c with
      | true =>
        have : isVar c = false := by
          cases hvv : isVar c with
          | false => rfl
          | true =>
            exfalso
            simp only [isVar, List.contains_eq_mem, List.mem_cons, List.not_mem_nil, or_false, decide_eq_true_eq] at hvv
            rcases hvv with rfl | rfl | rfl | rfl | rfl | rfl | rfl <;> revert hd <;> decide
        rw [this]; rfl
      | false =>
        rw [hd, Bool.or_false] at hok
        rw [hok]; rfl
    | un c x => exact var_long hx (by have := tx_pos x; simp only [Tm.tx, ByteArray.size_append]; have : (ch c).size = 1 := rfl; omega)
    | bin c x y => exact var_long hx (by have := tx_pos x; simp only [Tm.tx, ByteArray.size_append]; have : (ch c).size = 1 := rfl; omega)
    | loop c b x y => exact var_long hx (by have := tx_pos x; simp only [Tm.tx, ByteArray.size_append]; have : (ch c).size = 1 := rfl; omega)
theorem nd_sgn {W : World} {lo : Nat} {a c : Int} {A : Option Addr} {m k : Nat} {t : Tm} (h : NdAt W lo (ndV a c A m k) t) (ht : t.ok) : (∃ z, t = .leaf z ∧ isDig z = false ∧ a = 97 ∧ c = (z.toNat : Int)) ∨ (¬ a = 97 ∧ ∀ z, t = .leaf z → isDig z = true) := by
  cases t with
  | leaf z =>
    obtain ⟨A', k', h⟩ := h
    unfold ndV at h
    simp only [Value.agg.injEq, Array.mk.injEq, List.cons.injEq, Value.int.injEq, true_and] at h
    cases hd : isDig z with
    | true => refine .inr ⟨?_, fun z' e => by cases e; exact hd⟩; rw [h.1, hd]; decide
    | false => exact .inl ⟨z, rfl, hd, by rw [h.1, hd]; rfl, h.2.1⟩
  | un x y =>
    obtain ⟨q, k', f0, f1, f2, h0, h, _⟩ := h
    unfold ndV at h
    simp only [Value.agg.injEq, Array.mk.injEq, List.cons.injEq, Value.int.injEq, true_and] at h
    exact .inr ⟨fun e => un_97 ht.1 (by rw [← h.1]; exact e), fun z e => by cases e⟩
  | bin x y z =>
    obtain ⟨q, k', f0, f1, f2, f3, f4, f5, h0, h, _⟩ := h
    unfold ndV at h
    simp only [Value.agg.injEq, Array.mk.injEq, List.cons.injEq, Value.int.injEq, true_and] at h
    exact .inr ⟨fun e => bin_97 ht.1 (by rw [← h.1]; exact e), fun z e => by cases e⟩
  | loop x u y z =>
    obtain ⟨q, k', f0, f1, f2, f3, f4, f5, h0, h, _⟩ := h
    unfold ndV at h
    simp only [Value.agg.injEq, Array.mk.injEq, List.cons.injEq, Value.int.injEq, true_and] at h
    exact .inr ⟨fun e => loop_97 ht.1 (by rw [← h.1]; exact e), fun z e => by cases e⟩
theorem var_nz {z : UInt8} (h : isVar z = true) : ¬ (z.toNat : Int) = 0 := by
  simp only [isVar, List.contains_eq_mem, List.mem_cons, List.not_mem_nil, or_false, decide_eq_true_eq] at h
  rcases h with rfl | rfl | rfl | rfl | rfl | rfl | rfl <;> decide
set_option maxHeartbeats 16000000 in
set_option maxRecDepth 100000 in
theorem spec_ReplaceVar_walk (t v u : ByteArray) (w : World) (ht : t.size ≤ 1048576) (hv : v.size ≤ 1048576) (hu : u.size ≤ 1048576) : Calls Try.prog 15 #[.string t, .string v, .string u] w fun e w' => e = .returned ((repl t v u).elim (.tuple #[.string ⟨#[]⟩, .bool false]) fun r => .tuple #[.string r, .bool true]) ∧ Below w.heap.size w w' := by
  have HS := Aside0.mk (And.intro ht (And.intro hv hu))
  clear ht hv hu
  go_enter Try.func15, Try.ntmps15
  go_wp2_with fail
  refine (l5Read_walk t _ HS.out.1).mono ?_
  rintro e w1 ⟨a1, c1, A1, m1, k1, rfl, hb, ht1, -⟩
  have HB1 := Aside0.mk hb
  have HT1 := Aside0.mk ht1
  clear hb ht1
  unfold ndV
  obtain ⟨W1, hW1⟩ : ∃ W1, W1 = w1.alloc (.cells #[.int .u8 a1, .int .u8 c1, .slice A1 m1 k1] 45) := ⟨_, rfl⟩
  have HBW1 := Aside0.mk (show Below w1.heap.size w1 W1 from by rw [hW1]; exact (Below.refl _ w1).alloc (Nat.le_refl _) _)
  have HL1 := Aside0.mk (show LB W1 w1.heap.size a1 c1 A1 m1 k1 from by rw [hW1]; exact LB.new w1 a1 c1 A1 m1 k1)
  have HW1 := Aside0.mk hW1
  clear hW1
  go_wp2_with fail
  rw [← HW1.out]
  refine (l5Read_walk u _ HS.out.2.2).mono ?_
  rintro e w2 ⟨a2, c2, A2, m2, k2, rfl, hb, ht2, -⟩
  have HB2 := Aside0.mk hb
  have HT2 := Aside0.mk ht2
  clear hb ht2
  unfold ndV
  obtain ⟨W2, hW2⟩ : ∃ W2, W2 = w2.alloc (.cells #[.int .u8 a2, .int .u8 c2, .slice A2 m2 k2] 45) := ⟨_, rfl⟩
  have HBW2 := Aside0.mk (show Below w2.heap.size w2 W2 from by rw [hW2]; exact (Below.refl _ w2).alloc (Nat.le_refl _) _)
  have HL2 := Aside0.mk (show LB W2 w2.heap.size a2 c2 A2 m2 k2 from by rw [hW2]; exact LB.new w2 a2 c2 A2 m2 k2)
  have HW2 := Aside0.mk hW2
  clear hW2
  go_wp2_with fail
  rw [← HW2.out]
  refine (l5Read_walk v _ HS.out.2.1).mono ?_
  rintro e w3 ⟨a3, c3, A3, m3, k3, rfl, hb, ht3, -⟩
  have HB3 := Aside0.mk hb
  have HT3 := Aside0.mk ht3
  clear hb ht3
  unfold ndV
  obtain ⟨W3, hW3⟩ : ∃ W3, W3 = w3.alloc (.cells #[.int .u8 a3, .int .u8 c3, .slice A3 m3 k3] 45) := ⟨_, rfl⟩
  have HBW3 := Aside0.mk (show Below w3.heap.size w3 W3 from by rw [hW3]; exact (Below.refl _ w3).alloc (Nat.le_refl _) _)
  have HL3 := Aside0.mk (show LB W3 w3.heap.size a3 c3 A3 m3 k3 from by rw [hW3]; exact LB.new w3 a3 c3 A3 m3 k3)
  have HW3 := Aside0.mk hW3
  clear hW3
  have HBA := Aside0.mk (show Below w.heap.size w w1 from HB1.out)
  have HBB := Aside0.mk (show Below w.heap.size w W3 from by
    have b1 := HB1.out
    have b2 := b1.trans (HBW1.out.mono b1.size)
    have b3 := b2.trans (HB2.out.mono b2.size)
    have b4 := b3.trans (HBW2.out.mono b3.size)
    have b5 := b4.trans (HB3.out.mono b4.size)
    exact b5.trans (HBW3.out.mono b5.size))
  have HB13 := Aside0.mk (show Below W1.heap.size W1 W3 from by
    have b3 := HB2.out
    have b4 := b3.trans (HBW2.out.mono b3.size)
    have b5 := b4.trans (HB3.out.mono b4.size)
    exact b5.trans (HBW3.out.mono b5.size))
  have HB23 := Aside0.mk (show Below W2.heap.size W2 W3 from HB3.out.trans (HBW3.out.mono HB3.out.size))
  have NON := Aside0.mk (show repl t v u = none → Ending.returned (Value.tuple #[.string ⟨#[]⟩, .bool false]) = .returned ((repl t v u).elim (.tuple #[.string ⟨#[]⟩, .bool false]) fun r => .tuple #[.string r, .bool true]) from fun h => by rw [h]; rfl)
  have hsg : W3.cell? ⟨w3.heap.size, 0, none⟩ = some (.int .u8 a3) := by rw [blk_cell HL3.out]; rfl
  have hnm : W3.cell? ⟨w3.heap.size, 1, none⟩ = some (.int .u8 c3) := by rw [blk_cell HL3.out]; rfl
  have l10 : W3.cell? ⟨w1.heap.size, 0, none⟩ = some (.int .u8 a1) := by rw [blk_cell (blk_below HL1.out HB13.out)]; rfl
  have l11 : W3.cell? ⟨w1.heap.size, 1, none⟩ = some (.int .u8 c1) := by rw [blk_cell (blk_below HL1.out HB13.out)]; rfl
  have l12 : W3.cell? ⟨w1.heap.size, 2, none⟩ = some (.slice A1 m1 k1) := by rw [blk_cell (blk_below HL1.out HB13.out)]; rfl
  have l20 : W3.cell? ⟨w2.heap.size, 0, none⟩ = some (.int .u8 a2) := by rw [blk_cell (blk_below HL2.out HB23.out)]; rfl
  have l21 : W3.cell? ⟨w2.heap.size, 1, none⟩ = some (.int .u8 c2) := by rw [blk_cell (blk_below HL2.out HB23.out)]; rfl
  have l22 : W3.cell? ⟨w2.heap.size, 2, none⟩ = some (.slice A2 m2 k2) := by rw [blk_cell (blk_below HL2.out HB23.out)]; rfl
  rw [HW3.out] at hsg hnm l10 l11 l12 l20 l21 l22
  cases h1 : tmOf t.data.toList with
  | none =>
    have HR := Aside0.mk (show repl t v u = none from by unfold repl; rw [h1]; rfl)
    clear h1 hsg hnm l10 l11 l12 l20 l21 l22
    rw [show (none : Option Tm).isSome = false from rfl]
    go_wp2
    refine bodyPost_ret (results_tmp2 rfl _ _ _) rfl ⟨by exact NON.out HR.out, by rw [← HW3.out]; exact HBB.out⟩
  | some n =>
  cases h2 : tmOf u.data.toList with
  | none =>
    have HR := Aside0.mk (show repl t v u = none from by unfold repl; rw [h1, h2]; rfl)
    clear h1 h2 hsg hnm l10 l11 l12 l20 l21 l22
    rw [show (none : Option Tm).isSome = false from rfl, show (some n : Option Tm).isSome = true from rfl]
    go_wp2
    refine bodyPost_ret (results_tmp2 rfl _ _ _) rfl ⟨by exact NON.out HR.out, by rw [← HW3.out]; exact HBB.out⟩
  | some x =>
  cases h3 : tmOf v.data.toList with
  | none =>
    have HR := Aside0.mk (show repl t v u = none from by unfold repl; rw [h1, h2, var_tm, h3]; rfl)
    clear h1 h2 h3 hsg hnm l10 l11 l12 l20 l21 l22
    rw [show (none : Option Tm).isSome = false from rfl, show (some n : Option Tm).isSome = true from rfl, show (some x : Option Tm).isSome = true from rfl]
    go_wp2
    refine bodyPost_ret (results_tmp2 rfl _ _ _) rfl ⟨by exact NON.out HR.out, by rw [← HW3.out]; exact HBB.out⟩
  | some y =>
  rw [show (some n : Option Tm).isSome = true from rfl, show (some x : Option Tm).isSome = true from rfl, show (some y : Option Tm).isSome = true from rfl]
  rcases nd_sgn (HT3.out y h3) (tmOf_ok h3) with ⟨z, rfl, hdz, rfl, rfl⟩ | ⟨ha, hz⟩
  case inr =>
    have a0 : (a3 != 97) = true := by simp [ha]
    have hvn : varIn v = none := by
      rw [var_tm, h3]
      cases y with
      | leaf z => show (if isDig z = true then none else some z) = none; rw [hz z rfl]; rfl
      | un _ _ => rfl
      | bin _ _ _ => rfl
      | loop _ _ _ _ => rfl
    have HR := Aside0.mk (show repl t v u = none from by unfold repl; rw [h1, h2, hvn]; rfl)
    clear h1 h2 h3 hnm l10 l11 l12 l20 l21 l22 ha hz hvn
    go_wp2
    refine bodyPost_ret (results_tmp2 rfl _ _ _) rfl ⟨by exact NON.out HR.out, by rw [← HW3.out]; exact HBB.out⟩
  have hvz : varIn v = some z := by rw [var_tm, h3]; show (if isDig z = true then none else some z) = some z; rw [hdz]; rfl
  have HVZ := Aside0.mk hvz
  have HNX := Aside0.mk (And.intro h1 h2)
  have hvar : isVar z = true := by
    unfold varIn at hvz
    split at hvz
    · split at hvz
      · rename_i h; cases hvz; exact h
      · cases hvz
    · cases hvz
  have hb01 := HBA.out
  have n1 := nd_below HB13.out (nd_below HBW1.out (HT1.out n h1))
  have n2 := nd_below HB23.out (nd_below HBW2.out (HT2.out x h2))
  have hrw := l5rep_walk z (var_nz hvar) x (tmOf_ok h2) a2 c2 A2 m2 k2 n _ W3 (fun k => k < W3.heap.size) (tmOf_ok h1) (fun k hk => hk) (nd_in n1) (nd_in n2)
  have HRW := Aside0.mk hrw
  clear h1 h2 h3 hdz hvz hvar hb01 n1 n2 hrw
  go_wp2_with fail
  rw [← HW3.out]
  have hrw := HRW.out
  unfold ndV at hrw
  refine hrw.mono ?_
  rintro e w4 ⟨ra, rc, rA, rm, rk, rfl, hin, hb4⟩
  clear hrw hsg hnm l10 l11 l12 l20 l21 l22
  have HIN := Aside0.mk hin.at
  have HB4 := Aside0.mk (HBB.out.trans (hb4.mono HBB.out.size))
  clear hin hb4
  unfold ndV
  go_wp2_with fail
  have htx := l5Text_walk 0 (n.pr z x) (ndV ra rc rA rm rk) (w4.alloc (.cells #[.int .u8 ra, .int .u8 rc, .slice rA rm rk] 45)) (pr_ok z x (tmOf_ok HNX.out.2) n (tmOf_ok HNX.out.1)).wf (Nat.le_trans (pr_size z x n) (Nat.le_trans (Nat.mul_le_mul (tmOf_tx HNX.out.1).2 (tmOf_tx HNX.out.2).2) (by decide))) (nd_below ((Below.refl _ w4).alloc (Nat.le_refl _) _) HIN.out)
  unfold ndV at htx
  refine htx.mono ?_
  rintro e w5 ⟨rfl, hb5⟩
  have HB5 := Aside0.mk (show Below w.heap.size w w5 from (HB4.out.alloc HB4.out.size _).trans (hb5.mono (Nat.le_trans HB4.out.size (by simp))))
  clear htx hb5
  have hrep : repl t v u = cond (n.gd z x) (if (n.pr z x).tx.size ≤ 80 then some (n.pr z x).tx else none) none := by
    unfold repl
    rw [HNX.out.1, HNX.out.2, HVZ.out]
    show (n.pt z x).bind _ = _
    rw [pt_eq]
    cases n.gd z x <;> rfl
  obtain ⟨R, hR⟩ : ∃ R, R = (n.pr z x).tx := ⟨_, rfl⟩
  rw [← hR] at hrep ⊢
  have HREP := Aside0.mk hrep
  clear hrep hR
  cases hg : n.gd z x with
  | false =>
    have HG := Aside0.mk hg
    clear hg
    go_wp2
    refine bodyPost_ret (results_tmp2 rfl _ _ _) rfl ⟨by exact NON.out (by rw [HREP.out, HG.out]; rfl), HB5.out⟩
  | true =>
    have HG := Aside0.mk hg
    clear hg
    by_cases h80 : R.size ≤ 80
    · have h80' : ¬ (80 : Int) < (R.size : Int) := by omega
      have H80 := Aside0.mk h80
      clear h80
      go_wp2
      refine bodyPost_ret (results_tmp2 rfl _ _ _) rfl ⟨by rw [HREP.out, HG.out, cond_true, if_pos H80.out]; rfl, HB5.out⟩
    · have h80' : (80 : Int) < (R.size : Int) := by omega
      have H80 := Aside0.mk h80
      clear h80
      go_wp2
      refine bodyPost_ret (results_tmp2 rfl _ _ _) rfl ⟨by exact NON.out (by rw [HREP.out, HG.out, cond_true, if_neg (by have := H80.out; omega)]), HB5.out⟩
end Go.Proofs.YtpklhagedifglaaW.PrintMore
