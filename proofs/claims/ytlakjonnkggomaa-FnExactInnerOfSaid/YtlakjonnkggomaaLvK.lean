/-
  The marks: a layout, a list of layouts.
-/
import Derived.Test.YtlakjonnkggomaaLvJ
namespace Go.Proofs.YtlakjonnkggomaaW.PrintMore
set_option linter.unusedVariables false
set_option linter.unusedSimpArgs false
open Go.Proofs Go.Deep
open Go.RowKit Go.Proofs.YtlakjonnkggomaaW.PrintWords Go.Proofs.YtlakjonnkggomaaW.PrintLast Go.Proofs.YtlakjonnkggomaaW.PrintMore
theorem TS.alloc (w : World) (o : Obj) (P : Nat → Prop) : TS w (w.alloc o) P := by
  have hb : Below w.heap.size w (w.alloc o) := (Below.refl _ w).alloc (Nat.le_refl _) _
  exact ⟨fun g cur h => ⟨cur, blk_below h hb, rfl⟩, fun g cs t h _ => hb.block g (blk_lt h), fun base W0 h hs _ => h.alloc hs _, hb.size⟩
theorem RwS.ts {w w' : World} {P Q : Nat → Prop} {a : Value} {l : List (Value × Nat)} (h : RwS w P a l) (ht : TS w w' Q) : RwS w' P a l := by
  obtain ⟨h1, h2, h3⟩ := h
  refine ⟨h1, fun hp => ?_, fun p hp => (h3 p hp).ts ht⟩
  obtain ⟨g, c, rs, e, hg, hrs⟩ := h2 hp
  exact ⟨g, c, rs, e, (ht.keep g rs _ hg (.inl (by decide))).trans hg, hrs⟩
theorem RowI.slice {w : World} {P : Nat → Prop} {v : Value} {n : Nat} (h : RowI w P v n) : ∃ A c, v = .slice A n c := by
  rcases h with ⟨A, c, rfl, rfl⟩ | ⟨g, cap, cur, rfl, _⟩
  · exact ⟨A, c, rfl⟩
  · exact ⟨_, _, rfl⟩
set_option maxHeartbeats 8000000 in
set_option maxRecDepth 100000 in
theorem markL_walk (w : World) (P : Nat → Prop) (a b : Value) (l : List (Value × Nat)) (m : Nat) (k : Int) (h : RwS w P a l) (hb : RowI w P b m) (hl : l.length ≤ 2000000) (hk0 : 0 ≤ k) (hk : k + tot l + m ≤ 8000000000000) :
    Calls Try.prog 10 #[.agg #[a, b], .int .i64 k] w fun e w' => e = .returned (.int .i64 (k + tot l + m)) ∧ TS w w' P := by
  have hul := Try.underlying30
  obtain ⟨⟨A, c, ha⟩, _⟩ := id h
  obtain ⟨B, cb, hbb⟩ := hb.slice
  subst ha
  subst hbb
  obtain ⟨n, hn⟩ : ∃ n, n = l.length := ⟨_, rfl⟩
  rw [← hn] at h ⊢
  obtain ⟨W1, hW1⟩ : ∃ W1, W1 = w.alloc (.cells #[.slice A n c, .slice B m cb] 30) := ⟨_, rfl⟩
  have ht1 : TS w W1 P := by rw [hW1]; exact TS.alloc _ _ _
  have hO1 : W1.heap[w.heap.size]? = some (.cells #[.slice A n c, .slice B m cb] 30 (0, 0)) := by rw [hW1]; exact blk_new w _
  have HC1 := Aside0.mk (markSS_walk W1 P _ l k (h.ts ht1) hl hk0 (by omega))
  have HT1 := Aside0.mk ht1
  have HO1 := Aside0.mk hO1
  have HR1 := Aside0.mk (h.ts ht1)
  have HB1 := Aside0.mk (hb.ts ht1)
  have HK := Aside0.mk hk
  have HK0 := Aside0.mk hk0
  have HW1 := Aside0.mk hW1
  have hx0 : W1.cell? ⟨w.heap.size, 0, none⟩ = some (.slice A n c) := (blk_cell hO1 0).trans rfl
  clear h hb hl hk0 hk ht1 hO1 hW1 hn
  go_enter Try.func10, Try.ntmps10
  go_upto_region 1 with (fail)
  rw [← HW1.out]
  go_wp2_with fail
  refine HC1.out.mono ?_
  rintro e w2 ⟨rfl, hms⟩
  have ht2 : TS W1 w2 P := hms.ts HR1.out.2.2
  have HT2 := Aside0.mk (HT1.out.trans ht2)
  have hO2 := (ht2.keep _ _ _ HO1.out (.inl (by decide))).trans HO1.out
  have hx1 : w2.cell? ⟨w.heap.size, 1, none⟩ = some (.slice B m cb) := (blk_cell hO2 1).trans rfl
  have HB2 := Aside0.mk (HB1.out.ts ht2)
  have HC2 := Aside0.mk (mark_walk w2 P (.slice B m cb) m (k + tot l) (HB1.out.ts ht2) (by have := HK0.out; omega) (by have := HK.out; omega))
  clear hms ht2 hO2 hx0
  go_wp2_with fail
  refine HC2.out.mono ?_
  rintro e w3 ⟨rfl, hms⟩
  have HT3 := Aside0.mk (HT2.out.trans (hms.ts HB2.out))
  clear hms
  go_wp2
  go_ret
  exact ⟨rfl, HT3.out⟩
def marks (k : Int) (n : Nat) : List Int := (List.range n).map fun i => k + (i : Nat)
theorem marks_len (k : Int) (n : Nat) : (marks k n).length = n := by unfold marks; rw [List.length_map, List.length_range]
theorem R_rowI {w : World} {base : Nat} {Q P : Nat → Prop} {v : Value} {xs : List Int} (h : Kd.R kI 3 w base Q v xs) (hp : ∀ k, Q k → base ≤ k → P k) : RowI w P v xs.length := by
  have ho := Kd.own_of_R h
  rcases ho.2 with ⟨rfl, h0⟩ | ⟨g, cap, cur, rfl, hb, hg, hn, _, hs, _⟩
  · exact .inl ⟨none, 0, rfl, h0⟩
  · exact .inr ⟨g, cap, cur, rfl, hp g (h.1 g rfl) hb, hg, by omega⟩
theorem MS.self {w w' : World} {base : Nat} {Q : Nat → Prop} {v : Value} {xs : List Int} {k : Int} (h : Kd.R kI 3 w base Q v xs) (hm : MS v xs.length k w w') : Kd.R kI 3 w' base Q v (marks k xs.length) := by
  rcases hm with ⟨_, h0, rfl⟩ | ⟨g, cap, cur, rfl, hg, hn, hg', hgr⟩
  · have : xs = [] := List.eq_nil_of_length_eq_zero h0
    subst this
    exact h
  · have ho := Kd.own_of_R h
    refine Kd.R_of_own ?_ h.1
    rcases ho.2 with ⟨e, _⟩ | ⟨g2, cap2, cur2, e, hb, hg2, hn2, hm2, hs2, ht2⟩
    · cases e
    · cases e
      rw [hg] at hg2
      cases hg2
      refine ⟨by rw [marks_len]; simp [encs, marks_len], .inr ⟨g, cap, mkC cur k xs.length, by rw [marks_len], hb, hg', by rw [marks_len]; exact hn2, hm2, by rw [mkC_size]; exact hs2, ?_⟩⟩
      rw [marks_len, Nat.mul_one]
      apply List.ext_getElem?
      intro i
      by_cases hi : i < xs.length
      · rw [List.getElem?_take_of_lt hi, Array.getElem?_toList, mkC_at cur k _ i hi hn]
        unfold encs marks
        rw [List.getElem?_map, List.getElem?_map, List.getElem?_range hi]
        rfl
      · rw [List.getElem?_take_eq_none (by omega), List.getElem?_eq_none (by unfold encs; rw [List.length_map, marks_len]; omega)]
theorem MS.other {w w' : World} {base n : Nat} {f : Nat → Nat × Nat} {c c' : Nat × Nat} {u v : Value} {ys xs : List Int} {k : Int} (hu : Kd.R kI 3 w base (fun k => f k = c) u ys) (hv : Kd.R kI 3 w base (fun k => f k = c') v xs) (hc : c ≠ c') (hm : MS v n k w w') : Kd.R kI 3 w' base (fun k => f k = c) u ys := by
  rcases hm with ⟨_, _, rfl⟩ | ⟨g, cap, cur, rfl, hg, hn, hg', hgr⟩
  · exact hu
  · exact Kd.R_grown hu hgr (fun q hq e => by
      cases e
      have h1 : f g = c' := hv.1 g rfl
      exact hc (hq.symm.trans h1))
/-- Rows that bear colours, and what marking makes of them. -/
def RL (w : World) (base : Nat) (f : Nat → Nat × Nat) (L : List (Value × List Int × (Nat × Nat))) : Prop := ∀ p ∈ L, Kd.R kI 3 w base (fun k => f k = p.2.2) p.1 p.2.1
def mkR : List (Value × List Int × (Nat × Nat)) → Int → List (Value × List Int × (Nat × Nat))
  | [], _ => []
  | (v, xs, c) :: l, k => (v, marks k xs.length, c) :: mkR l (k + xs.length)
def rlL (L : List (Value × List Int × (Nat × Nat))) : List (Value × Nat) := L.map fun p => (p.1, p.2.1.length)
theorem MSS.rows {base : Nat} {f : Nat → Nat × Nat} : ∀ {L : List (Value × List Int × (Nat × Nat))} {k : Int} {w w' : World}, (L.map (fun p => p.2.2)).Nodup → RL w base f L → MSS (rlL L) k w w' → RL w' base f (mkR L k) ∧ ∀ (u : Value) (ys : List Int) (c : Nat × Nat), c ∉ L.map (fun p => p.2.2) → Kd.R kI 3 w base (fun k => f k = c) u ys → Kd.R kI 3 w' base (fun k => f k = c) u ys
  | [], k, w, w', _, _, h => by
    have e : w' = w := h
    subst e
    exact ⟨fun p hp => absurd hp (by simp [mkR]), fun _ _ _ _ h => h⟩
  | (v, xs, c) :: L, k, w, w', hn, hR, ⟨w1, h1, h2⟩ => by
    rw [List.map_cons, List.nodup_cons] at hn
    have hv := hR _ List.mem_cons_self
    have hR1 : RL w1 base f L := fun p hp => (hR p (List.mem_cons_of_mem _ hp)) |> fun hp' => MS.other hp' hv (fun e => hn.1 (e ▸ List.mem_map.2 ⟨p, hp, rfl⟩)) h1
    obtain ⟨h3, h4⟩ := MSS.rows hn.2 hR1 h2
    refine ⟨fun p hp => ?_, fun u ys c' hc' hu => ?_⟩
    · rcases List.mem_cons.1 (show p ∈ (v, marks k xs.length, c) :: mkR L (k + xs.length) from hp) with rfl | hp
      · exact h4 v _ c hn.1 (MS.self hv h1)
      · exact h3 p hp
    · rw [List.map_cons, List.mem_cons, not_or] at hc'
      exact h4 u ys c' hc'.2 (MS.other hu hv hc'.1 h1)
theorem mkR_at : ∀ (L : List (Value × List Int × (Nat × Nat))) (k : Int) (q : Nat) (p : Value × List Int × (Nat × Nat)), L[q]? = some p → (p.1, marks (k + tot (rlL (L.take q))) p.2.1.length, p.2.2) ∈ mkR L k
  | [], _, _, _, h => by simp at h
  | (v, xs, c) :: l, k, 0, p, h => by
    have e : (v, xs, c) = p := by simpa using h
    subst e
    unfold mkR
    refine List.mem_cons.2 (.inl ?_)
    simp [tot, rlL]
  | (v, xs, c) :: l, k, q + 1, p, h => by
    unfold mkR
    have h' : l[q]? = some p := by simpa using h
    have := mkR_at l (k + xs.length) q p h'
    refine List.mem_cons.2 (.inr ?_)
    have e : k + (tot (rlL (((v, xs, c) :: l).take (q + 1))) : Int) = k + xs.length + tot (rlL (l.take q)) := by
      show k + ((tot ((v, xs.length) :: rlL (l.take q)) : Nat) : Int) = _
      unfold tot
      rw [List.map_cons, List.sum_cons]
      simp only [Int.natCast_add]
      omega
    rw [e]
    exact this
/-- The numbers of rows ahead of one. -/
def preL (Ms : List (List Int)) (j : Nat) : Nat := ((Ms.take j).map List.length).sum
/-- A layout that is marked. -/
def mkLay (Ms : List (List Int)) (E : List Int) (k : Int) : List (List Int) × List Int :=
  ((List.range Ms.length).map (fun j => marks (k + preL Ms j) (Ms.getD j []).length), marks (k + preL Ms Ms.length) E.length)
theorem lay_open {w : World} {base : Nat} {f : Nat → Nat × Nat} {i : Nat} {a b : Value} {Ms : List (List Int)} {E : List Int} (h : LayV w base f i a b Ms E) : ∃ l, RwS w (fun g => base ≤ g ∧ (f g).1 = i) a l ∧ RowI w (fun g => base ≤ g ∧ (f g).1 = i) b E.length ∧ l.length = Ms.length ∧ tot l = preL Ms Ms.length ∧
    ∀ k w', MSS (l ++ [(b, E.length)]) k w w' → LayV w' base f i a b (mkLay Ms E k).1 (mkLay Ms E k).2 := by
  obtain ⟨us, h1, h2, h3⟩ := h
  obtain ⟨n, hn⟩ : ∃ n, n = Ms.length := ⟨_, rfl⟩
  have hul : us.length = n := by rw [hn]; have := h1.1; omega
  obtain ⟨R, hR⟩ : ∃ R : Nat → Value × List Int × (Nat × Nat), R = fun j => (us.getD j (.slice none 0 0), Ms.getD j [], (i, j)) := ⟨_, rfl⟩
  have hrow : ∀ j, j < n → Kd.R kI 3 w base (fun k => f k = (i, j)) (R j).1 (R j).2.1 := fun j hj => by
    obtain ⟨u, hu, hr⟩ := h2 j (by omega)
    rw [hR]
    show Kd.R kI 3 w base (fun k => f k = (i, j)) (us.getD j (.slice none 0 0)) (Ms.getD j [])
    rw [List.getD_eq_getElem?_getD, hu]
    exact hr
  obtain ⟨L0, hL0⟩ : ∃ L0, L0 = (List.range n).map R := ⟨_, rfl⟩
  have hL0l : L0.length = n := by rw [hL0, List.length_map, List.length_range]
  have hL0a : ∀ j, j < n → L0[j]? = some (R j) := fun j hj => by rw [hL0, List.getElem?_map, List.getElem?_range hj]; rfl
  have hlen : ∀ j, j ≤ n → tot (rlL (L0.take j)) = preL Ms j := by
    intro j hj
    induction j with
    | zero => rfl
    | succ j ih =>
      have e1 : L0.take (j + 1) = L0.take j ++ [R j] := by rw [List.take_add_one, hL0a j (by omega)]; rfl
      have e2 : Ms.take (j + 1) = Ms.take j ++ [Ms.getD j []] := by
        rw [List.take_add_one, List.getElem?_eq_getElem (by omega), List.getD_eq_getElem?_getD, List.getElem?_eq_getElem (by omega)]; rfl
      unfold preL
      rw [e1, e2]
      have ih' := ih (by omega)
      unfold tot rlL preL at ih'
      unfold tot rlL
      rw [List.map_append, List.map_append, List.sum_append, List.map_append, List.sum_append, ih', hR]
      simp
  have hRI : ∀ j, j < n → RowI w (fun g => base ≤ g ∧ (f g).1 = i) (R j).1 (R j).2.1.length := fun j hj => R_rowI (hrow j hj) (fun g hg hb => ⟨hb, by rw [hg]⟩)
  have hmem : ∀ p ∈ rlL L0, ∃ j, j < n ∧ p = ((R j).1, (R j).2.1.length) := fun p hp => by
    unfold rlL at hp
    rw [hL0, List.map_map] at hp
    obtain ⟨j, hj, rfl⟩ := List.mem_map.1 hp
    exact ⟨j, List.mem_range.1 hj, rfl⟩
  refine ⟨rlL L0, ⟨?_, fun hp => ?_, fun p hp => ?_⟩, R_rowI h3 (fun g hg hb => ⟨hb, by rw [hg]⟩), by unfold rlL; rw [List.length_map, hL0l, hn], by rw [← hn, ← hlen n (Nat.le_refl _), List.take_of_length_le (by omega)], fun k w' hm => ?_⟩
  · obtain ⟨A, c, e⟩ := own_slice h1
    refine ⟨A, c, ?_⟩
    unfold rlL
    rw [List.length_map, hL0l, hn]
    exact e
  · unfold rlL at hp ⊢
    rw [List.length_map, hL0l] at hp
    rcases h1.2 with ⟨_, h0⟩ | ⟨g, cap, cur, e, hb, hg, hc, _, hs, ht⟩
    · omega
    · refine ⟨g, cap, cur, by rw [List.length_map, hL0l, hn]; exact e, hg, fun j hj => ?_⟩
      rw [List.length_map, hL0l] at hj
      have e1 : (List.map (fun p : Value × List Int × (Nat × Nat) => (p.1, p.2.1.length)) L0)[j]? = some ((R j).1, (R j).2.1.length) := by rw [List.getElem?_map, hL0a j hj]; rfl
      rw [List.getElem?_eq_getElem (by rw [List.length_map, hL0l]; exact hj)] at e1
      rw [Option.some.inj e1, hR]
      show cur[j]? = some (us.getD j (.slice none 0 0))
      have e2 : us[j]? = cur[j]? := by
        rw [← ht, List.getElem?_take_of_lt (by omega), Array.getElem?_toList]
      rw [← e2, List.getD_eq_getElem?_getD, List.getElem?_eq_getElem (by omega)]
      rfl
  · obtain ⟨j, hj, rfl⟩ := hmem p hp
    exact hRI j hj
  · have happ : rlL L0 ++ [(b, E.length)] = rlL (L0 ++ [(b, E, (i, n))]) := by unfold rlL; rw [List.map_append]; rfl
    have hall : ∀ p ∈ rlL L0 ++ [(b, E.length)], RowI w (fun g => base ≤ g ∧ (f g).1 = i) p.1 p.2 := fun p hp => by
      rcases List.mem_append.1 hp with hp | hp
      · obtain ⟨j, hj, rfl⟩ := hmem p hp
        exact hRI j hj
      · rw [List.mem_singleton.1 hp]
        exact R_rowI h3 (fun g hg hb => ⟨hb, by rw [hg]⟩)
    have hts := hm.ts hall
    rw [happ] at hm
    have hnd : ((L0 ++ [(b, E, (i, n))]).map (fun p => p.2.2)).Nodup := by
      have e : (L0 ++ [(b, E, (i, n))]).map (fun p => p.2.2) = (List.range (n + 1)).map (fun j => (i, j)) := by
        rw [List.range_succ, List.map_append, List.map_append, hL0, List.map_map]
        congr 1
        apply List.map_congr_left
        intro j _
        rw [hR]
        rfl
      rw [e]
      exact List.Pairwise.map _ (fun x y hxy e => hxy (Prod.mk.inj e).2) List.nodup_range
    have hRL : RL w base f (L0 ++ [(b, E, (i, n))]) := fun p hp => by
      rcases List.mem_append.1 hp with hp | hp
      · rw [hL0] at hp
        obtain ⟨j, hj, rfl⟩ := List.mem_map.1 hp
        have := hrow j (List.mem_range.1 hj)
        have e : (R j).2.2 = (i, j) := by rw [hR]
        rw [e]
        exact this
      · rw [List.mem_singleton.1 hp, hn]
        exact h3
    obtain ⟨h5, _⟩ := MSS.rows hnd hRL hm
    refine ⟨us, ?_, fun j hj => ?_, ?_⟩
    · unfold mkLay
      rw [List.length_map, List.length_range]
      exact own_move h1 (fun g hg => by
        obtain ⟨cs, hcs⟩ := own_typed h1 g hg
        exact hts.keep g cs _ hcs (.inl (by decide)))
    · have hj' : j < n := by
        have e : (mkLay Ms E k).1.length = Ms.length := by unfold mkLay; rw [List.length_map, List.length_range]
        omega
      have hq := h5 _ (mkR_at (L0 ++ [(b, E, (i, n))]) k j (R j) (by rw [List.getElem?_append_left (by omega)]; exact hL0a j hj'))
      rw [List.take_append_of_le_length (by omega), hlen j (by omega)] at hq
      refine ⟨us[j]'(by omega), List.getElem?_eq_getElem (by omega), ?_⟩
      have e1 : (R j).1 = us[j]'(by omega) := by rw [hR]; show us.getD j _ = _; rw [List.getD_eq_getElem?_getD, List.getElem?_eq_getElem (by omega)]; rfl
      have e2 : (R j).2 = (Ms.getD j [], (i, j)) := by rw [hR]
      have e3 : (mkLay Ms E k).1.getD j [] = marks (k + preL Ms j) (Ms.getD j []).length := by
        unfold mkLay
        rw [List.getD_eq_getElem?_getD, List.getElem?_map, List.getElem?_range (by omega)]
        rfl
      rw [e1, e2] at hq
      rw [e3]
      exact hq
    · have hq := h5 _ (mkR_at (L0 ++ [(b, E, (i, n))]) k n (b, E, (i, n)) (by rw [← hL0l]; exact List.getElem?_concat_length))
      rw [List.take_append_of_le_length (by omega), hlen n (Nat.le_refl _)] at hq
      unfold mkLay
      rw [List.length_map, List.length_range, ← hn]
      exact hq
end Go.Proofs.YtlakjonnkggomaaW.PrintMore
