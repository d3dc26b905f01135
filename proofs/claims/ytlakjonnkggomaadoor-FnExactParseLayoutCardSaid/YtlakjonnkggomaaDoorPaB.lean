/-
  A layout whose rows bear colours, and its marks.
-/
import Derived.BigRegion
import Derived.Deep.QuietTactic
import Derived.Test.YtlakjonnkggomaaDoorPaA
import Derived.Test.YtlakjonnkggomaaDoorWLast
namespace Go.Proofs.YtlakjonnkggomaaDoorW.PrintMore
set_option linter.unusedVariables false
set_option linter.unusedSimpArgs false
open Go.Proofs Go.Deep
open Go.RowKit Go.Proofs.YtlakjonnkggomaaDoorW.PrintWords Go.Proofs.YtlakjonnkggomaaDoorW.PrintLast Go.Proofs.YtlakjonnkggomaaDoorW.PrintMore
abbrev kI : Kd Int := Kd.int .i64
theorem int_info : (Tryd.prog.info? 3).map (fun i => (i.zero, i.size, i.bytes)) = some (some (.int .i64 0), 1, 8) := by kernel_rfl
theorem ne_tag {W : World} {g b t t' : Nat} {cs cs' : Array Value} (h : W.heap[g]? = some (.cells cs t (0, 0))) (h' : W.heap[b]? = some (.cells cs' t' (0, 0))) (ht : t ≠ t') : g ≠ b := by
  rintro rfl
  rw [h] at h'
  injection h' with h1
  injection h1 with _ h2 _
  exact ht h2
/-- A layout in a variable. -/
def OBL (W : World) (o : Nat) (a b : Value) : Prop := W.heap[o]? = some (.cells #[a, b] 28 (0, 0))
/-- A layout of a list, whose rows bear colours: (i, j) the j-th row of lengths of the i-th layout, the data the last. -/
def LayV (W : World) (base : Nat) (f : Nat → Nat × Nat) (i : Nat) (a b : Value) (Ms : List (List Int)) (E : List Int) : Prop :=
  ∃ us : List Value, W.ownsRow base 23 1 a Ms.length us ∧ (∀ j, j < Ms.length → ∃ u, us[j]? = some u ∧ Kd.R kI 3 W base (fun k => f k = (i, j)) u (Ms.getD j [])) ∧ Kd.R kI 3 W base (fun k => f k = (i, Ms.length)) b E
/-- What is neither a list of layouts nor an int row of another colour stays. -/
theorem LayV.keep {W W' : World} {base : Nat} {f : Nat → Nat × Nat} {i : Nat} {a b : Value} {Ms : List (List Int)} {E : List Int} (h : LayV W base f i a b Ms E)
    (hm : ∀ k cs t, W.heap[k]? = some (.cells cs t (0, 0)) → t = 23 ∨ (t = 3 ∧ (f k).1 = i ∧ base ≤ k) → W'.heap[k]? = W.heap[k]?) : LayV W' base f i a b Ms E := by
  obtain ⟨us, h1, h2, h3⟩ := h
  have hR : ∀ (j : Nat) (v : Value) (xs : List Int), Kd.R kI 3 W base (fun k => f k = (i, j)) v xs → Kd.R kI 3 W' base (fun k => f k = (i, j)) v xs := fun j v xs hv => by
    refine Kd.R_mono (Kd.R_move (Kd.R_bound hv) (fun k hk => ?_)) (fun k hk => hk.1)
    obtain ⟨hk1, hkb, _, q, hq, cs, hcs⟩ := hk
    have : q = 3 := by simpa [kI, Kd.int, Kd.scalar] using hq
    subst this
    exact hm k cs _ hcs (.inr ⟨rfl, by rw [hk1], hkb⟩)
  refine ⟨us, own_move h1 (fun k hk => ?_), fun j hj => ?_, hR _ _ _ h3⟩
  · obtain ⟨cs, hcs⟩ := own_typed h1 k hk
    exact hm k cs _ hcs (.inl rfl)
  · obtain ⟨u, hu, hv⟩ := h2 j hj
    exact ⟨u, hu, hR _ _ _ hv⟩
theorem LayV.recol {W : World} {base : Nat} {f f' : Nat → Nat × Nat} {i : Nat} {a b : Value} {Ms : List (List Int)} {E : List Int} (h : LayV W base f i a b Ms E) (hf : ∀ k, k < W.heap.size → f' k = f k) : LayV W base f' i a b Ms E := by
  obtain ⟨us, h1, h2, h3⟩ := h
  have hR : ∀ (j : Nat) (v : Value) (xs : List Int), Kd.R kI 3 W base (fun k => f k = (i, j)) v xs → Kd.R kI 3 W base (fun k => f' k = (i, j)) v xs := fun j v xs hv => Kd.R_mono (Kd.R_bound hv) (fun k hk => by rw [hf k hk.2.2.1]; exact hk.1)
  refine ⟨us, h1, fun j hj => ?_, hR _ _ _ h3⟩
  obtain ⟨u, hu, hv⟩ := h2 j hj
  exact ⟨u, hu, hR _ _ _ hv⟩
/-- All blocks of w's but g stay. -/
def KB (w W : World) (g : Nat) : Prop := w.heap.size ≤ W.heap.size ∧ ∀ k, k ≠ g ∧ k < w.heap.size → W.heap[k]? = w.heap[k]?
theorem KB.below {w W W' : World} {g : Nat} (h : KB w W g) (hb : Below W.heap.size W W') : KB w W' g := ⟨Nat.le_trans h.1 hb.size, fun k hk => (hb.block k (by have := h.1; omega)).trans (h.2 k hk)⟩
theorem KB.grown {w W W' : World} {g : Nat} {row : Option Nat} (h : KB w W g) (hg : W.grownBy W' row) (hs : W.heap.size ≤ W'.heap.size) (hr : ∀ k, row = some k → k = g ∨ w.heap.size ≤ k) : KB w W' g :=
  ⟨Nat.le_trans h.1 hs, fun k hk => (hg.block k (by have := h.1; omega) (fun e => by have := hr k e.symm; omega)).trans (h.2 k hk)⟩
/-- The cells of a row whose first cells are marked. -/
def mkC (cur : Array Value) (k : Int) : Nat → Array Value
  | 0 => cur
  | i + 1 => (mkC cur k i).setIfInBounds i (.int .i64 (k + i))
theorem mkC_size (cur : Array Value) (k : Int) : ∀ i, (mkC cur k i).size = cur.size
  | 0 => rfl
  | i + 1 => by unfold mkC; rw [Array.size_setIfInBounds, mkC_size cur k i]
theorem mkC_far (cur : Array Value) (k : Int) : ∀ n i, n ≤ i → (mkC cur k n)[i]? = cur[i]?
  | 0, _, _ => rfl
  | n + 1, i, h => by unfold mkC; rw [Array.getElem?_setIfInBounds_ne (by omega), mkC_far cur k n i (by omega)]
theorem mkC_at (cur : Array Value) (k : Int) : ∀ n i, i < n → n ≤ cur.size → (mkC cur k n)[i]? = some (.int .i64 (k + i))
  | 0, i, h, _ => absurd h (Nat.not_lt_zero i)
  | n + 1, i, h, hs => by
    unfold mkC
    by_cases hi : i = n
    · rw [hi, Array.getElem?_setIfInBounds_self_of_lt (by rw [mkC_size]; omega)]
    · rw [Array.getElem?_setIfInBounds_ne (fun e => hi e.symm)]
      exact mkC_at cur k n i (by omega) (by omega)
theorem grown_set (W : World) (b i : Nat) (v : Value) : W.grownBy (W.setCell ⟨b, i, none⟩ v) (some b) :=
  ⟨rfl, rfl, rfl, by simp [World.setCell], fun k _ hk => Below.heap_setCell _ _ _ k (fun e => hk (by rw [e]))⟩
theorem grown_tr {w W W' : World} {row : Option Nat} (h : w.grownBy W row) (h' : W.grownBy W' row) : w.grownBy W' row :=
  ⟨h'.os.trans h.os, h'.tape.trans h.tape, h'.output.trans h.output, Nat.le_trans h.size h'.size, fun k hk hr => (h'.block k (Nat.lt_of_lt_of_le hk h.size) hr).trans (h.block k hk hr)⟩
set_option maxHeartbeats 8000000 in
set_option maxRecDepth 100000 in
theorem markS_walk (w : World) (g n cap : Nat) (cur : Array Value) (k : Int) (hg : w.heap[g]? = some (.cells cur 3 (0, 0))) (hn : n ≤ cur.size) (hk0 : 0 ≤ k) (hk : k + n ≤ 8000000000000) :
    Calls Tryd.prog 32 #[.slice (some ⟨g, 0, none⟩) n cap, .int .i64 k] w fun e w' => e = .returned (.int .i64 (k + n)) ∧ w'.heap[g]? = some (.cells (mkC cur k n) 3 (0, 0)) ∧ w.grownBy w' (some g) := by
  have HN := Aside0.mk hn
  have HK0 := Aside0.mk hk0
  have HK := Aside0.mk hk
  have HG := Aside0.mk hg
  clear hn hk0 hk hg
  go_enter Tryd.func32, Tryd.ntmps32
  go_wp2
  go_loopg [1, 5] n (fun kq v1 v5 w' => ∃ (i : Nat) (z : Int), v1 = .int .i64 z ∧ v5 = .int .i64 (i : Int) ∧ Aside0 (z = k + i) ∧ Aside0 (kq + i = n) ∧ Aside0 (w'.heap[g]? = some (.cells (mkC cur k i) 3 (0, 0))) ∧ Aside0 (w.grownBy w' (some g)))
  case atStart => exact ⟨0, k, rfl, rfl, ⟨by omega⟩, ⟨by omega⟩, ⟨HG.out⟩, ⟨World.grownBy.refl _ _⟩⟩
  case round =>
    obtain ⟨i, z, rfl, rfl, HZ, HI, HGi, HGR⟩ := hrel
    by_cases hi : i < n
    · have h1 : (i : Int) < (n : Int) := by omega
      have h0 : (0 : Int) ≤ (i : Int) := by omega
      have HH := Aside0.mk hi
      have HWI := Aside0.mk (show wrap64 ((i : Int) + 1) = ((i + 1 : Nat) : Int) from by have := HK.out; have := HK0.out; rw [wrap64]; omega)
      have HWZ := Aside0.mk (show wrap64 (z + 1) = z + 1 from by have := HK.out; have := HK0.out; have := HZ.out; rw [wrap64]; omega)
      obtain ⟨u, hu⟩ : ∃ u, (mkC cur k i)[i]? = some u := ⟨_, Array.getElem?_eq_getElem (by rw [mkC_size]; have := HN.out; omega)⟩
      have hc : wr.cell? ⟨g, i, none⟩ = some u := (blk_cell HGi.out i).trans hu
      have hf := blk_frozen HGi.out i
      clear hi hu
      go_wp2_with fail
      go_roundg (gk - 1)
      case measure => have := HI.out; have := HH.out; omega
      case rel =>
        refine ⟨i + 1, z + 1, by rw [HWZ.out], by rw [HWI.out], ⟨by have := HZ.out; omega⟩, ⟨by have := HI.out; have := HH.out; omega⟩, ⟨?_⟩, ⟨grown_tr HGR.out (grown_set _ _ _ _)⟩⟩
        exact blk_put HGi.out i _ (by rw [HZ.out]; rfl)
    · have h1 : (n : Int) ≤ (i : Int) := by omega
      have HE := Aside0.mk (show i = n from by have := HI.out; omega)
      clear hi
      go_wp2_with fail
      go_ret
      have h2 := HGi.out
      have h3 := HZ.out
      rw [HE.out] at h2 h3
      exact ⟨by first | rfl | (rw [h3]; rfl), h2, HGR.out⟩
theorem markS_nil (w : World) (A : Option Addr) (cap : Nat) (k : Int) :
    Calls Tryd.prog 32 #[.slice A 0 cap, .int .i64 k] w fun e w' => e = .returned (.int .i64 k) ∧ w' = w := by
  go_enter Tryd.func32, Tryd.ntmps32
  go_wp2
  go_loopg [1, 5] 0 (fun kq v1 v5 w' => v1 = .int .i64 k ∧ v5 = .int .i64 0 ∧ w' = w)
  case atStart => exact ⟨rfl, rfl, rfl⟩
  case round =>
    obtain ⟨rfl, rfl, rfl⟩ := hrel
    go_wp2
    go_ret
    exact ⟨rfl, rfl⟩
/-- A row of ints that may be marked. -/
def RowI (W : World) (P : Nat → Prop) (v : Value) (n : Nat) : Prop := (∃ A c, v = .slice A 0 c ∧ n = 0) ∨ ∃ g cap cur, v = .slice (some ⟨g, 0, none⟩) n cap ∧ P g ∧ W.heap[g]? = some (.cells cur 3 (0, 0)) ∧ n ≤ cur.size
/-- What the marking of a row does. -/
def MS (v : Value) (n : Nat) (k : Int) (w w' : World) : Prop := ((∃ A c, v = .slice A 0 c) ∧ n = 0 ∧ w' = w) ∨ ∃ g cap cur, v = .slice (some ⟨g, 0, none⟩) n cap ∧ w.heap[g]? = some (.cells cur 3 (0, 0)) ∧ n ≤ cur.size ∧ w'.heap[g]? = some (.cells (mkC cur k n) 3 (0, 0)) ∧ w.grownBy w' (some g)
theorem mark_walk (w : World) (P : Nat → Prop) (v : Value) (n : Nat) (k : Int) (h : RowI w P v n) (hk0 : 0 ≤ k) (hk : k + n ≤ 8000000000000) : Calls Tryd.prog 32 #[v, .int .i64 k] w fun e w' => e = .returned (.int .i64 (k + n)) ∧ MS v n k w w' := by
  rcases h with ⟨A, c, rfl, rfl⟩ | ⟨g, cap, cur, rfl, hp, hg, hn⟩
  · refine (markS_nil w A c k).mono ?_
    rintro e w' ⟨rfl, rfl⟩
    exact ⟨by simp, .inl ⟨⟨A, c, rfl⟩, rfl, rfl⟩⟩
  · refine (markS_walk w g n cap cur k hg hn hk0 hk).mono ?_
    rintro e w' ⟨rfl, h1, h2⟩
    exact ⟨rfl, .inr ⟨g, cap, cur, rfl, hg, hn, h1, h2⟩⟩
/-- The int rows keep their sizes, all else stays. -/
structure TS (w w' : World) (P : Nat → Prop) : Prop where
  row : ∀ (g : Nat) (cur : Array Value), w.heap[g]? = some (.cells cur 3 (0, 0)) → ∃ cur', w'.heap[g]? = some (.cells cur' 3 (0, 0)) ∧ cur'.size = cur.size
  keep : ∀ (g : Nat) (cs : Array Value) (t : TypeId), w.heap[g]? = some (.cells cs t (0, 0)) → t ≠ 3 ∨ ¬ P g → w'.heap[g]? = w.heap[g]?
  below : ∀ (base : Nat) (W0 : World), Below base W0 w → base ≤ w.heap.size → (∀ g, P g → base ≤ g) → Below base W0 w'
  size : w.heap.size ≤ w'.heap.size
theorem TS.refl (w : World) (P : Nat → Prop) : TS w w P := ⟨fun g cur h => ⟨cur, h, rfl⟩, fun _ _ _ _ _ => rfl, fun _ _ h _ _ => h, Nat.le_refl _⟩
theorem TS.trans {w w1 w2 : World} {P : Nat → Prop} (h : TS w w1 P) (h' : TS w1 w2 P) : TS w w2 P := by
  refine ⟨fun g cur hg => ?_, fun g cs t hg ht => ?_, fun base W0 hb hs hp => h'.below base W0 (h.below base W0 hb hs hp) (Nat.le_trans hs h.size) hp, Nat.le_trans h.size h'.size⟩
  · obtain ⟨c1, h1, e1⟩ := h.row g cur hg
    obtain ⟨c2, h2, e2⟩ := h'.row g c1 h1
    exact ⟨c2, h2, by rw [e2, e1]⟩
  · have h1 := h.keep g cs t hg ht
    rw [h'.keep g cs t (by rw [h1]; exact hg) ht, h1]
theorem TS.mono {w w1 : World} {P Q : Nat → Prop} (h : TS w w1 P) (hq : ∀ g, P g → Q g) : TS w w1 Q :=
  ⟨h.row, fun g cs t hg ht => h.keep g cs t hg (ht.imp_right (fun hn hp => hn (hq g hp))), fun base W0 hb hs hp => h.below base W0 hb hs (fun g hg => hp g (hq g hg)), h.size⟩
theorem MS.ts {v : Value} {n : Nat} {k : Int} {w w' : World} {P : Nat → Prop} (h : MS v n k w w') (hr : RowI w P v n) : TS w w' P := by
  rcases h with ⟨_, _, rfl⟩ | ⟨g, cap, cur, rfl, hg, hn, hg', hgr⟩
  · exact TS.refl _ _
  have hP : n = 0 ∨ P g := by
    rcases hr with ⟨A, c, _, h0⟩ | ⟨g2, cap2, cur2, e, hp, _⟩
    · exact .inl h0
    · cases e; exact .inr hp
  have hcur : n = 0 → w'.heap[g]? = w.heap[g]? := fun h0 => by rw [hg', hg, h0]; rfl
  refine ⟨fun q c hq => ?_, fun q cs t hq ht => ?_, fun base W0 hb hs hp => ?_, hgr.size⟩
  · by_cases e : q = g
    · subst e
      rw [hg] at hq
      cases hq
      exact ⟨_, hg', mkC_size _ _ _⟩
    · exact ⟨c, (hgr.block q (blk_lt hq) (fun h => e (Option.some.inj h))).trans hq, rfl⟩
  · by_cases e : q = g
    · subst e
      rcases hP with h0 | hP
      · exact hcur h0
      · rw [hg] at hq
        cases hq
        rcases ht with ht | ht
        · exact absurd rfl ht
        · exact absurd hP ht
    · exact hgr.block q (blk_lt hq) (fun h => e (Option.some.inj h))
  · rcases hP with h0 | hP
    · exact hb.trans ⟨hgr.os, hgr.tape, hgr.output, hgr.size, fun q hq => by
        by_cases e : q = g
        · rw [e]; exact hcur h0
        · exact hgr.block q (by omega) (fun h => e (Option.some.inj h))⟩
    · exact hb.grown hgr hs (fun q e => by cases e; exact hp g hP)
theorem RowI.ts {v : Value} {n : Nat} {w w' : World} {P Q : Nat → Prop} (h : RowI w P v n) (ht : TS w w' Q) : RowI w' P v n := by
  rcases h with h | ⟨g, cap, cur, rfl, hp, hg, hn⟩
  · exact .inl h
  · obtain ⟨c', hc, e⟩ := ht.row g cur hg
    exact .inr ⟨g, cap, c', rfl, hp, hc, by omega⟩
/-- What the marking of rows does, one behind the other. -/
def MSS : List (Value × Nat) → Int → World → World → Prop
  | [], _, w, w' => w' = w
  | (v, n) :: l, k, w, w' => ∃ w1, MS v n k w w1 ∧ MSS l (k + n) w1 w'
def totV (l : List (Value × Nat)) : Nat := (l.map (·.2)).sum
theorem MSS.snoc : ∀ {l : List (Value × Nat)} {k : Int} {w w1 w2 : World} {v : Value} {n : Nat}, MSS l k w w1 → MS v n (k + totV l) w1 w2 → MSS (l ++ [(v, n)]) k w w2
  | [], k, w, w1, w2, v, n, h, h2 => by
    have e : w1 = w := h
    subst e
    exact ⟨w2, by simpa [totV] using h2, rfl⟩
  | (u, m) :: l, k, w, w1, w2, v, n, ⟨w3, h1, h3⟩, h2 => ⟨w3, h1, MSS.snoc h3 (by
    have e : k + totV ((u, m) :: l) = k + m + totV l := by unfold totV; simp; omega
    rw [← e]; exact h2)⟩
theorem MSS.ts : ∀ {l : List (Value × Nat)} {k : Int} {w w1 : World} {P : Nat → Prop}, MSS l k w w1 → (∀ p ∈ l, RowI w P p.1 p.2) → TS w w1 P
  | [], _, w, w1, P, h, _ => by
    have e : w1 = w := h
    subst e
    exact TS.refl _ _
  | (v, n) :: l, k, w, w1, P, ⟨w2, h1, h2⟩, hr => by
    have t1 := h1.ts (hr _ List.mem_cons_self)
    exact t1.trans (MSS.ts h2 (fun p hp => (hr p (List.mem_cons_of_mem _ hp)).ts t1))
/-- A row of rows that may be marked. -/
def RwS (W : World) (P : Nat → Prop) (a : Value) (l : List (Value × Nat)) : Prop := (∃ A c, a = .slice A l.length c) ∧ (0 < l.length → ∃ g c rs, a = .slice (some ⟨g, 0, none⟩) l.length c ∧ W.heap[g]? = some (.cells rs 23 (0, 0)) ∧ ∀ j (hj : j < l.length), rs[j]? = some l[j].1) ∧ ∀ p ∈ l, RowI W P p.1 p.2
theorem totV_take {l : List (Value × Nat)} {i : Nat} (hi : i < l.length) : totV (l.take (i + 1)) = totV (l.take i) + l[i].2 := by
  unfold totV
  rw [List.take_add_one, List.getElem?_eq_getElem hi, List.map_append, List.sum_append]
  simp
theorem totV_le (l : List (Value × Nat)) : ∀ i, totV (l.take i) ≤ totV l := by
  induction l with
  | nil => intro i; simp [totV]
  | cons p l ih => intro i; cases i with
    | zero => simp [totV]
    | succ i =>
      show (List.map (·.2) (p :: l.take i)).sum ≤ (List.map (·.2) (p :: l)).sum
      rw [List.map_cons, List.map_cons, List.sum_cons, List.sum_cons]
      exact Nat.add_le_add_left (ih i) _
set_option maxHeartbeats 8000000 in
set_option maxRecDepth 100000 in
theorem markSS_walk (w : World) (P : Nat → Prop) (a : Value) (l : List (Value × Nat)) (k : Int) (h : RwS w P a l) (hl : l.length ≤ 2000000) (hk0 : 0 ≤ k) (hk : k + totV l ≤ 8000000000000) :
    Calls Tryd.prog 31 #[a, .int .i64 k] w fun e w' => e = .returned (.int .i64 (k + totV l)) ∧ MSS l k w w' := by
  obtain ⟨⟨A, c, ha⟩, h2, h3⟩ := h
  subst ha
  have H2 := Aside0.mk h2
  have H3 := Aside0.mk h3
  have HL := Aside0.mk hl
  have HK0 := Aside0.mk hk0
  have HK := Aside0.mk hk
  obtain ⟨n, hn⟩ : ∃ n, n = l.length := ⟨_, rfl⟩
  have HN := Aside0.mk hn
  rw [← hn]
  clear h2 h3 hl hk0 hk hn
  go_enter Tryd.func31, Tryd.ntmps31
  go_wp2
  go_loopg [1, 5] n (fun kq v1 v5 w' => ∃ (i : Nat) (z : Int), v1 = .int .i64 z ∧ v5 = .int .i64 (i : Int) ∧ Aside0 (z = k + totV (l.take i)) ∧ Aside0 (kq + i = n) ∧ Aside0 (MSS (l.take i) k w w'))
  case atStart => exact ⟨0, k, rfl, rfl, ⟨by simp [totV]⟩, ⟨by omega⟩, ⟨rfl⟩⟩
  case round =>
    obtain ⟨i, z, rfl, rfl, HZ, HI, HM⟩ := hrel
    by_cases hi : i < n
    · have h1 : (i : Int) < (n : Int) := by omega
      have h0 : (0 : Int) ≤ (i : Int) := by omega
      have HH := Aside0.mk hi
      have hil : i < l.length := by rw [← HN.out]; exact hi
      have ht : TS w wr P := HM.out.ts (fun p hp => H3.out p (List.mem_of_mem_take hp))
      obtain ⟨g, c', rs, e, hg, hrs⟩ := H2.out (by omega)
      have hA : A = some ⟨g, 0, none⟩ := by injection e
      subst hA
      have hc : wr.cell? ⟨g, i, none⟩ = some l[i].1 := (blk_cell ((ht.keep g rs _ hg (.inl (by decide))).trans hg) i).trans (hrs i hil)
      have hRI : RowI wr P l[i].1 l[i].2 := (H3.out _ (List.getElem_mem hil)).ts ht
      have hkk := HK.out
      have hlt := totV_le l (i + 1)
      have htt := totV_take hil
      obtain ⟨u, hu⟩ : ∃ u, u = l[i].1 := ⟨_, rfl⟩
      obtain ⟨m, hm⟩ : ∃ m, m = l[i].2 := ⟨_, rfl⟩
      rw [← hu] at hc hRI
      rw [← hm] at hRI htt
      have HUM := Aside0.mk (show l[i]? = some (u, m) from by rw [List.getElem?_eq_getElem hil, hu, hm])
      have HTT := Aside0.mk htt
      have hcall := mark_walk wr P u m z hRI (by have := HK0.out; have := HZ.out; omega) (by have := HZ.out; omega)
      have HCA := Aside0.mk hcall
      have HWI := Aside0.mk (show wrap64 ((i : Int) + 1) = ((i + 1 : Nat) : Int) from by have := HL.out; rw [wrap64]; omega)
      clear hi hil ht e hg hrs hRI hkk hlt htt hu hm hcall
      go_wp2_with fail
      refine HCA.out.mono ?_
      rintro e w2 ⟨rfl, hms⟩
      have HMS := Aside0.mk hms
      clear hms
      go_wp2_with fail
      go_roundg (gk - 1)
      case measure => have := HI.out; have := HH.out; omega
      case rel =>
        refine ⟨i + 1, z + m, rfl, by rw [HWI.out], ⟨by have := HZ.out; have := HTT.out; omega⟩, ⟨by have := HI.out; have := HH.out; omega⟩, ⟨?_⟩⟩
        have e : l.take (i + 1) = l.take i ++ [(u, m)] := by
          rw [List.take_add_one, HUM.out]; rfl
        rw [e]
        exact MSS.snoc HM.out (by rw [← HZ.out]; exact HMS.out)
    · have h1 : (n : Int) ≤ (i : Int) := by omega
      have HE := Aside0.mk (show l.take i = l from List.take_of_length_le (by have := HI.out; have := HN.out; omega))
      clear hi
      go_wp2_with fail
      go_ret
      have h2 := HM.out
      have h3 := HZ.out
      rw [HE.out] at h2 h3
      exact ⟨by first | rfl | (rw [h3]; rfl), h2⟩
theorem TS.alloc (w : World) (o : Obj) (P : Nat → Prop) : TS w (w.alloc o) P := by
  have hb : Below w.heap.size w (w.alloc o) := (Below.refl _ w).alloc (Nat.le_refl _) _
  exact ⟨fun g cur h => ⟨cur, blk_below h hb, rfl⟩, fun g cs t h _ => hb.block g (blk_lt h), fun base W0 h hs _ => h.alloc hs _, hb.size⟩
theorem RwS.ts {w w' : World} {P Q : Nat → Prop} {a : Value} {l : List (Value × Nat)} (h : RwS w P a l) (ht : TS w w' Q) : RwS w' P a l := by
  obtain ⟨h1, h2, h3⟩ := h
  refine ⟨h1, fun hp => ?_, fun p hp => (h3 p hp).ts ht⟩
  obtain ⟨g, c, rs, e, hg, hrs⟩ := h2 hp
  exact ⟨g, c, rs, e, (ht.keep g rs _ hg (.inl (by decide))).trans hg, hrs⟩
theorem RowI.slice {w : World} {P : Nat → Prop} {v : Value} {n : Nat} (h : RowI w P v n) : ∃ A c, v = .slice A n c := by
  rcases h with ⟨A, c, rfl, rfl⟩ | ⟨g, cap, cur, rfl, _⟩
  · exact ⟨A, c, rfl⟩
  · exact ⟨_, _, rfl⟩
set_option maxHeartbeats 8000000 in
set_option maxRecDepth 100000 in
theorem markL_walk (w : World) (P : Nat → Prop) (a b : Value) (l : List (Value × Nat)) (m : Nat) (k : Int) (h : RwS w P a l) (hb : RowI w P b m) (hl : l.length ≤ 2000000) (hk0 : 0 ≤ k) (hk : k + totV l + m ≤ 8000000000000) :
    Calls Tryd.prog 13 #[.agg #[a, b], .int .i64 k] w fun e w' => e = .returned (.int .i64 (k + totV l + m)) ∧ TS w w' P := by
  have hul := Tryd.underlying28
  obtain ⟨⟨A, c, ha⟩, _⟩ := id h
  obtain ⟨B, cb, hbb⟩ := hb.slice
  subst ha
  subst hbb
  obtain ⟨n, hn⟩ : ∃ n, n = l.length := ⟨_, rfl⟩
  rw [← hn] at h ⊢
  obtain ⟨W1, hW1⟩ : ∃ W1, W1 = w.alloc (.cells #[.slice A n c, .slice B m cb] 28) := ⟨_, rfl⟩
  have ht1 : TS w W1 P := by rw [hW1]; exact TS.alloc _ _ _
  have hO1 : W1.heap[w.heap.size]? = some (.cells #[.slice A n c, .slice B m cb] 28 (0, 0)) := by rw [hW1]; exact blk_new w _
  have HC1 := Aside0.mk (markSS_walk W1 P _ l k (h.ts ht1) hl hk0 (by omega))
  have HT1 := Aside0.mk ht1
  have HO1 := Aside0.mk hO1
  have HR1 := Aside0.mk (h.ts ht1)
  have HB1 := Aside0.mk (hb.ts ht1)
  have HK := Aside0.mk hk
  have HK0 := Aside0.mk hk0
  have HW1 := Aside0.mk hW1
  have hx0 : W1.cell? ⟨w.heap.size, 0, none⟩ = some (.slice A n c) := (blk_cell hO1 0).trans rfl
  clear h hb hl hk0 hk ht1 hO1 hW1 hn
  go_enter Tryd.func13, Tryd.ntmps13
  go_upto_region 1 with (fail)
  rw [← HW1.out]
  go_wp2_with fail
  refine HC1.out.mono ?_
  rintro e w2 ⟨rfl, hms⟩
  have ht2 : TS W1 w2 P := hms.ts HR1.out.2.2
  have HT2 := Aside0.mk (HT1.out.trans ht2)
  have hO2 := (ht2.keep _ _ _ HO1.out (.inl (by decide))).trans HO1.out
  have hx1 : w2.cell? ⟨w.heap.size, 1, none⟩ = some (.slice B m cb) := (blk_cell hO2 1).trans rfl
  have HB2 := Aside0.mk (HB1.out.ts ht2)
  have HC2 := Aside0.mk (mark_walk w2 P (.slice B m cb) m (k + totV l) (HB1.out.ts ht2) (by have := HK0.out; omega) (by have := HK.out; omega))
  clear hms ht2 hO2 hx0
  go_wp2_with fail
  refine HC2.out.mono ?_
  rintro e w3 ⟨rfl, hms⟩
  have HT3 := Aside0.mk (HT2.out.trans (hms.ts HB2.out))
  clear hms
  go_wp2
  go_ret
  exact ⟨rfl, HT3.out⟩
def marks (k : Int) (n : Nat) : List Int := (List.range n).map fun i => k + (i : Nat)
theorem marks_len (k : Int) (n : Nat) : (marks k n).length = n := by unfold marks; rw [List.length_map, List.length_range]
theorem R_rowI {w : World} {base : Nat} {Q P : Nat → Prop} {v : Value} {xs : List Int} (h : Kd.R kI 3 w base Q v xs) (hp : ∀ k, Q k → base ≤ k → P k) : RowI w P v xs.length := by
  have ho := Kd.own_of_R h
  rcases ho.2 with ⟨rfl, h0⟩ | ⟨g, cap, cur, rfl, hb, hg, hn, _, hs, _⟩
  · exact .inl ⟨none, 0, rfl, h0⟩
  · exact .inr ⟨g, cap, cur, rfl, hp g (h.1 g rfl) hb, hg, by omega⟩
theorem MS.self {w w' : World} {base : Nat} {Q : Nat → Prop} {v : Value} {xs : List Int} {k : Int} (h : Kd.R kI 3 w base Q v xs) (hm : MS v xs.length k w w') : Kd.R kI 3 w' base Q v (marks k xs.length) := by
  rcases hm with ⟨_, h0, rfl⟩ | ⟨g, cap, cur, rfl, hg, hn, hg', hgr⟩
  · have : xs = [] := List.eq_nil_of_length_eq_zero h0
    subst this
    exact h
  · have ho := Kd.own_of_R h
    refine Kd.R_of_own ?_ h.1
    rcases ho.2 with ⟨e, _⟩ | ⟨g2, cap2, cur2, e, hb, hg2, hn2, hm2, hs2, ht2⟩
    · cases e
    · cases e
      rw [hg] at hg2
      cases hg2
      refine ⟨by rw [marks_len]; simp [encs, marks_len], .inr ⟨g, cap, mkC cur k xs.length, by rw [marks_len], hb, hg', by rw [marks_len]; exact hn2, hm2, by rw [mkC_size]; exact hs2, ?_⟩⟩
      rw [marks_len, Nat.mul_one]
      apply List.ext_getElem?
      intro i
      by_cases hi : i < xs.length
      · rw [List.getElem?_take_of_lt hi, Array.getElem?_toList, mkC_at cur k _ i hi hn]
        unfold encs marks
        rw [List.getElem?_map, List.getElem?_map, List.getElem?_range hi]
        rfl
      · rw [List.getElem?_take_eq_none (by omega), List.getElem?_eq_none (by unfold encs; rw [List.length_map, marks_len]; omega)]
theorem MS.other {w w' : World} {base n : Nat} {f : Nat → Nat × Nat} {c c' : Nat × Nat} {u v : Value} {ys xs : List Int} {k : Int} (hu : Kd.R kI 3 w base (fun k => f k = c) u ys) (hv : Kd.R kI 3 w base (fun k => f k = c') v xs) (hc : c ≠ c') (hm : MS v n k w w') : Kd.R kI 3 w' base (fun k => f k = c) u ys := by
  rcases hm with ⟨_, _, rfl⟩ | ⟨g, cap, cur, rfl, hg, hn, hg', hgr⟩
  · exact hu
  · exact Kd.R_grown hu hgr (fun q hq e => by
      cases e
      have h1 : f g = c' := hv.1 g rfl
      exact hc (hq.symm.trans h1))
/-- Rows that bear colours, and what marking makes of them. -/
def RL (w : World) (base : Nat) (f : Nat → Nat × Nat) (L : List (Value × List Int × (Nat × Nat))) : Prop := ∀ p ∈ L, Kd.R kI 3 w base (fun k => f k = p.2.2) p.1 p.2.1
def mkR : List (Value × List Int × (Nat × Nat)) → Int → List (Value × List Int × (Nat × Nat))
  | [], _ => []
  | (v, xs, c) :: l, k => (v, marks k xs.length, c) :: mkR l (k + xs.length)
def rlL (L : List (Value × List Int × (Nat × Nat))) : List (Value × Nat) := L.map fun p => (p.1, p.2.1.length)
theorem MSS.rows {base : Nat} {f : Nat → Nat × Nat} : ∀ {L : List (Value × List Int × (Nat × Nat))} {k : Int} {w w' : World}, (L.map (fun p => p.2.2)).Nodup → RL w base f L → MSS (rlL L) k w w' → RL w' base f (mkR L k) ∧ ∀ (u : Value) (ys : List Int) (c : Nat × Nat), c ∉ L.map (fun p => p.2.2) → Kd.R kI 3 w base (fun k => f k = c) u ys → Kd.R kI 3 w' base (fun k => f k = c) u ys
  | [], k, w, w', _, _, h => by
    have e : w' = w := h
    subst e
    exact ⟨fun p hp => absurd hp (by simp [mkR]), fun _ _ _ _ h => h⟩
  | (v, xs, c) :: L, k, w, w', hn, hR, ⟨w1, h1, h2⟩ => by
    rw [List.map_cons, List.nodup_cons] at hn
    have hv := hR _ List.mem_cons_self
    have hR1 : RL w1 base f L := fun p hp => (hR p (List.mem_cons_of_mem _ hp)) |> fun hp' => MS.other hp' hv (fun e => hn.1 (e ▸ List.mem_map.2 ⟨p, hp, rfl⟩)) h1
    obtain ⟨h3, h4⟩ := MSS.rows hn.2 hR1 h2
    refine ⟨fun p hp => ?_, fun u ys c' hc' hu => ?_⟩
    · rcases List.mem_cons.1 (show p ∈ (v, marks k xs.length, c) :: mkR L (k + xs.length) from hp) with rfl | hp
      · exact h4 v _ c hn.1 (MS.self hv h1)
      · exact h3 p hp
    · rw [List.map_cons, List.mem_cons, not_or] at hc'
      exact h4 u ys c' hc'.2 (MS.other hu hv hc'.1 h1)
theorem mkR_at : ∀ (L : List (Value × List Int × (Nat × Nat))) (k : Int) (q : Nat) (p : Value × List Int × (Nat × Nat)), L[q]? = some p → (p.1, marks (k + totV (rlL (L.take q))) p.2.1.length, p.2.2) ∈ mkR L k
  | [], _, _, _, h => by simp at h
  | (v, xs, c) :: l, k, 0, p, h => by
    have e : (v, xs, c) = p := by simpa using h
    subst e
    unfold mkR
    refine List.mem_cons.2 (.inl ?_)
    simp [totV, rlL]
  | (v, xs, c) :: l, k, q + 1, p, h => by
    unfold mkR
    have h' : l[q]? = some p := by simpa using h
    have := mkR_at l (k + xs.length) q p h'
    refine List.mem_cons.2 (.inr ?_)
    have e : k + (totV (rlL (((v, xs, c) :: l).take (q + 1))) : Int) = k + xs.length + totV (rlL (l.take q)) := by
      show k + ((totV ((v, xs.length) :: rlL (l.take q)) : Nat) : Int) = _
      unfold totV
      rw [List.map_cons, List.sum_cons]
      simp only [Int.natCast_add]
      omega
    rw [e]
    exact this
/-- The numbers of rows ahead of one. -/
def preL (Ms : List (List Int)) (j : Nat) : Nat := ((Ms.take j).map List.length).sum
/-- A layout that is marked. -/
def mkLay (Ms : List (List Int)) (E : List Int) (k : Int) : List (List Int) × List Int :=
  ((List.range Ms.length).map (fun j => marks (k + preL Ms j) (Ms.getD j []).length), marks (k + preL Ms Ms.length) E.length)
theorem lay_open {w : World} {base : Nat} {f : Nat → Nat × Nat} {i : Nat} {a b : Value} {Ms : List (List Int)} {E : List Int} (h : LayV w base f i a b Ms E) : ∃ l, RwS w (fun g => base ≤ g ∧ (f g).1 = i) a l ∧ RowI w (fun g => base ≤ g ∧ (f g).1 = i) b E.length ∧ l.length = Ms.length ∧ totV l = preL Ms Ms.length ∧
    ∀ k w', MSS (l ++ [(b, E.length)]) k w w' → LayV w' base f i a b (mkLay Ms E k).1 (mkLay Ms E k).2 := by
  obtain ⟨us, h1, h2, h3⟩ := h
  obtain ⟨n, hn⟩ : ∃ n, n = Ms.length := ⟨_, rfl⟩
  have hul : us.length = n := by rw [hn]; have := h1.1; omega
  obtain ⟨R, hR⟩ : ∃ R : Nat → Value × List Int × (Nat × Nat), R = fun j => (us.getD j (.slice none 0 0), Ms.getD j [], (i, j)) := ⟨_, rfl⟩
  have hrow : ∀ j, j < n → Kd.R kI 3 w base (fun k => f k = (i, j)) (R j).1 (R j).2.1 := fun j hj => by
    obtain ⟨u, hu, hr⟩ := h2 j (by omega)
    rw [hR]
    show Kd.R kI 3 w base (fun k => f k = (i, j)) (us.getD j (.slice none 0 0)) (Ms.getD j [])
    rw [List.getD_eq_getElem?_getD, hu]
    exact hr
  obtain ⟨L0, hL0⟩ : ∃ L0, L0 = (List.range n).map R := ⟨_, rfl⟩
  have hL0l : L0.length = n := by rw [hL0, List.length_map, List.length_range]
  have hL0a : ∀ j, j < n → L0[j]? = some (R j) := fun j hj => by rw [hL0, List.getElem?_map, List.getElem?_range hj]; rfl
  have hlen : ∀ j, j ≤ n → totV (rlL (L0.take j)) = preL Ms j := by
    intro j hj
    induction j with
    | zero => rfl
    | succ j ih =>
      have e1 : L0.take (j + 1) = L0.take j ++ [R j] := by rw [List.take_add_one, hL0a j (by omega)]; rfl
      have e2 : Ms.take (j + 1) = Ms.take j ++ [Ms.getD j []] := by
        rw [List.take_add_one, List.getElem?_eq_getElem (by omega), List.getD_eq_getElem?_getD, List.getElem?_eq_getElem (by omega)]; rfl
      unfold preL
      rw [e1, e2]
      have ih' := ih (by omega)
      unfold totV rlL preL at ih'
      unfold totV rlL
      rw [List.map_append, List.map_append, List.sum_append, List.map_append, List.sum_append, ih', hR]
      simp
  have hRI : ∀ j, j < n → RowI w (fun g => base ≤ g ∧ (f g).1 = i) (R j).1 (R j).2.1.length := fun j hj => R_rowI (hrow j hj) (fun g hg hb => ⟨hb, by rw [hg]⟩)
  have hmem : ∀ p ∈ rlL L0, ∃ j, j < n ∧ p = ((R j).1, (R j).2.1.length) := fun p hp => by
    unfold rlL at hp
    rw [hL0, List.map_map] at hp
    obtain ⟨j, hj, rfl⟩ := List.mem_map.1 hp
    exact ⟨j, List.mem_range.1 hj, rfl⟩
  refine ⟨rlL L0, ⟨?_, fun hp => ?_, fun p hp => ?_⟩, R_rowI h3 (fun g hg hb => ⟨hb, by rw [hg]⟩), by unfold rlL; rw [List.length_map, hL0l, hn], by rw [← hn, ← hlen n (Nat.le_refl _), List.take_of_length_le (by omega)], fun k w' hm => ?_⟩
  · obtain ⟨A, c, e⟩ := own_slice h1
    refine ⟨A, c, ?_⟩
    unfold rlL
    rw [List.length_map, hL0l, hn]
    exact e
  · unfold rlL at hp ⊢
    rw [List.length_map, hL0l] at hp
    rcases h1.2 with ⟨_, h0⟩ | ⟨g, cap, cur, e, hb, hg, hc, _, hs, ht⟩
    · omega
    · refine ⟨g, cap, cur, by rw [List.length_map, hL0l, hn]; exact e, hg, fun j hj => ?_⟩
      rw [List.length_map, hL0l] at hj
      have e1 : (List.map (fun p : Value × List Int × (Nat × Nat) => (p.1, p.2.1.length)) L0)[j]? = some ((R j).1, (R j).2.1.length) := by rw [List.getElem?_map, hL0a j hj]; rfl
      rw [List.getElem?_eq_getElem (by rw [List.length_map, hL0l]; exact hj)] at e1
      rw [Option.some.inj e1, hR]
      show cur[j]? = some (us.getD j (.slice none 0 0))
      have e2 : us[j]? = cur[j]? := by
        rw [← ht, List.getElem?_take_of_lt (by omega), Array.getElem?_toList]
      rw [← e2, List.getD_eq_getElem?_getD, List.getElem?_eq_getElem (by omega)]
      rfl
  · obtain ⟨j, hj, rfl⟩ := hmem p hp
    exact hRI j hj
  · have happ : rlL L0 ++ [(b, E.length)] = rlL (L0 ++ [(b, E, (i, n))]) := by unfold rlL; rw [List.map_append]; rfl
    have hall : ∀ p ∈ rlL L0 ++ [(b, E.length)], RowI w (fun g => base ≤ g ∧ (f g).1 = i) p.1 p.2 := fun p hp => by
      rcases List.mem_append.1 hp with hp | hp
      · obtain ⟨j, hj, rfl⟩ := hmem p hp
        exact hRI j hj
      · rw [List.mem_singleton.1 hp]
        exact R_rowI h3 (fun g hg hb => ⟨hb, by rw [hg]⟩)
    have hts := hm.ts hall
    rw [happ] at hm
    have hnd : ((L0 ++ [(b, E, (i, n))]).map (fun p => p.2.2)).Nodup := by
      have e : (L0 ++ [(b, E, (i, n))]).map (fun p => p.2.2) = (List.range (n + 1)).map (fun j => (i, j)) := by
        rw [List.range_succ, List.map_append, List.map_append, hL0, List.map_map]
        congr 1
        apply List.map_congr_left
        intro j _
        rw [hR]
        rfl
      rw [e]
      exact List.Pairwise.map _ (fun x y hxy e => hxy (Prod.mk.inj e).2) List.nodup_range
    have hRL : RL w base f (L0 ++ [(b, E, (i, n))]) := fun p hp => by
      rcases List.mem_append.1 hp with hp | hp
      · rw [hL0] at hp
        obtain ⟨j, hj, rfl⟩ := List.mem_map.1 hp
        have := hrow j (List.mem_range.1 hj)
        have e : (R j).2.2 = (i, j) := by rw [hR]
        rw [e]
        exact this
      · rw [List.mem_singleton.1 hp, hn]
        exact h3
    obtain ⟨h5, _⟩ := MSS.rows hnd hRL hm
    refine ⟨us, ?_, fun j hj => ?_, ?_⟩
    · unfold mkLay
      rw [List.length_map, List.length_range]
      exact own_move h1 (fun g hg => by
        obtain ⟨cs, hcs⟩ := own_typed h1 g hg
        exact hts.keep g cs _ hcs (.inl (by decide)))
    · have hj' : j < n := by
        have e : (mkLay Ms E k).1.length = Ms.length := by unfold mkLay; rw [List.length_map, List.length_range]
        omega
      have hq := h5 _ (mkR_at (L0 ++ [(b, E, (i, n))]) k j (R j) (by rw [List.getElem?_append_left (by omega)]; exact hL0a j hj'))
      rw [List.take_append_of_le_length (by omega), hlen j (by omega)] at hq
      refine ⟨us[j]'(by omega), List.getElem?_eq_getElem (by omega), ?_⟩
      have e1 : (R j).1 = us[j]'(by omega) := by rw [hR]; show us.getD j _ = _; rw [List.getD_eq_getElem?_getD, List.getElem?_eq_getElem (by omega)]; rfl
      have e2 : (R j).2 = (Ms.getD j [], (i, j)) := by rw [hR]
      have e3 : (mkLay Ms E k).1.getD j [] = marks (k + preL Ms j) (Ms.getD j []).length := by
        unfold mkLay
        rw [List.getD_eq_getElem?_getD, List.getElem?_map, List.getElem?_range (by omega)]
        rfl
      rw [e1, e2] at hq
      rw [e3]
      exact hq
    · have hq := h5 _ (mkR_at (L0 ++ [(b, E, (i, n))]) k n (b, E, (i, n)) (by rw [← hL0l]; exact List.getElem?_concat_length))
      rw [List.take_append_of_le_length (by omega), hlen n (Nat.le_refl _)] at hq
      unfold mkLay
      rw [List.length_map, List.length_range, ← hn]
      exact hq
def szL (x : List (List Int) × List Int) : Nat := preL x.1 x.1.length + x.2.length
set_option maxHeartbeats 8000000 in
set_option maxRecDepth 100000 in
/-- A layout of one's own is marked, and reads so. -/
theorem markLV_walk (w : World) (base i : Nat) (f : Nat → Nat × Nat) (a b : Value) (Ms : List (List Int)) (E : List Int) (k : Int) (h : LayV w base f i a b Ms E) (hl : Ms.length ≤ 2000000) (hk0 : 0 ≤ k) (hk : k + szL (Ms, E) ≤ 8000000000000) :
    Calls Tryd.prog 13 #[.agg #[a, b], .int .i64 k] w fun e w' => e = .returned (.int .i64 (k + szL (Ms, E))) ∧ LayV w' base f i a b (mkLay Ms E k).1 (mkLay Ms E k).2 ∧ TS w w' (fun g => base ≤ g) := by
  obtain ⟨l, hRw, hRo, hll, hlt, hmk⟩ := lay_open h
  have hul := Tryd.underlying28
  obtain ⟨⟨A, c, ha⟩, _⟩ := id hRw
  obtain ⟨B, cb, hbb⟩ := hRo.slice
  subst ha
  subst hbb
  obtain ⟨n, hn⟩ : ∃ n, n = l.length := ⟨_, rfl⟩
  obtain ⟨m, hm⟩ : ∃ m, m = E.length := ⟨_, rfl⟩
  have hsz : szL (Ms, E) = totV l + m := by unfold szL; rw [hlt, hm]
  rw [← hn] at hRw ⊢
  rw [← hm] at hRo hmk ⊢
  rw [hsz] at hk ⊢
  obtain ⟨P, hP⟩ : ∃ P : Nat → Prop, P = fun g => base ≤ g ∧ (f g).1 = i := ⟨_, rfl⟩
  rw [← hP] at hRw hRo
  have HPB := Aside0.mk (show ∀ g, P g → base ≤ g from fun g hg => by rw [hP] at hg; exact hg.1)
  obtain ⟨W1, hW1⟩ : ∃ W1, W1 = w.alloc (.cells #[.slice A n c, .slice B m cb] 28) := ⟨_, rfl⟩
  have ht1 : TS w W1 P := by rw [hW1]; exact TS.alloc _ _ _
  have hb1 : Below w.heap.size w W1 := by rw [hW1]; exact (Below.refl _ w).alloc (Nat.le_refl _) _
  have hO1 : W1.heap[w.heap.size]? = some (.cells #[.slice A n c, .slice B m cb] 28 (0, 0)) := by rw [hW1]; exact blk_new w _
  have hl1 := h.keep (W' := W1) (fun k cs t hk _ => hb1.block k (blk_lt hk))
  obtain ⟨l1, hRw1, hRo1, hll1, hlt1, hmk1⟩ := lay_open hl1
  rw [← hm] at hRo1 hmk1
  have hl1n : l1.length = n := by rw [hll1, hn, hll]
  have hlt1' : totV l1 = totV l := by rw [hlt1, hlt]
  rw [← hn, ← hP] at hRw1
  rw [← hP] at hRo1
  have HC1 := Aside0.mk (markSS_walk W1 P _ l1 k hRw1 (by rw [hll1]; exact hl) hk0 (by omega))
  have HT1 := Aside0.mk ht1
  have HO1 := Aside0.mk hO1
  have HR1 := Aside0.mk hRw1
  have HB1 := Aside0.mk hRo1
  have HMK := Aside0.mk (show ∀ (k : Int) (w' : World), MSS (l1 ++ [(.slice B m cb, m)]) k W1 w' → LayV w' base f i (.slice A n c) (.slice B m cb) (mkLay Ms E k).1 (mkLay Ms E k).2 from by rw [hn]; exact hmk1)
  have HK := Aside0.mk hk
  have HK0 := Aside0.mk hk0
  have HW1 := Aside0.mk hW1
  have HTT := Aside0.mk hlt1'
  have hx0 : W1.cell? ⟨w.heap.size, 0, none⟩ = some (.slice A n c) := (blk_cell hO1 0).trans rfl
  clear h hl hk0 hk ht1 hO1 hW1 hn hm hsz hP hRw hRo hll hlt hmk hb1 hl1 hRw1 hRo1 hll1 hlt1 hmk1 hl1n hlt1'
  go_enter Tryd.func13, Tryd.ntmps13
  go_upto_region 1 with (fail)
  rw [← HW1.out]
  go_wp2_with fail
  refine HC1.out.mono ?_
  rintro e w2 ⟨rfl, hms⟩
  have ht2 : TS W1 w2 P := hms.ts HR1.out.2.2
  have HT2 := Aside0.mk (HT1.out.trans ht2)
  have HMS := Aside0.mk hms
  have hO2 := (ht2.keep _ _ _ HO1.out (.inl (by decide))).trans HO1.out
  have hx1 : w2.cell? ⟨w.heap.size, 1, none⟩ = some (.slice B m cb) := (blk_cell hO2 1).trans rfl
  have HB2 := Aside0.mk (HB1.out.ts ht2)
  have HC2 := Aside0.mk (mark_walk w2 P (.slice B m cb) m (k + totV l1) (HB1.out.ts ht2) (by have := HK0.out; omega) (by have := HK.out; have := HTT.out; omega))
  clear hms ht2 hO2 hx0
  go_wp2_with fail
  refine HC2.out.mono ?_
  rintro e w3 ⟨rfl, hms⟩
  have HT3 := Aside0.mk (HT2.out.trans (hms.ts HB2.out))
  have HM3 := Aside0.mk (MSS.snoc HMS.out hms)
  clear hms
  go_wp2
  go_ret
  refine ⟨?_, HMK.out k _ HM3.out, HT3.out.mono HPB.out⟩
  have e : (k + totV l1 + m : Int) = k + ((totV l + m : Nat) : Int) := by have := HTT.out; omega
  rw [e]
  rfl
end Go.Proofs.YtlakjonnkggomaaDoorW.PrintMore
