/-
  The marks: a row, rows, a layout, a list of layouts are written anew with running numbers.
-/
import Derived.Test.YtlakjonnkggomaaLvI
namespace Go.Proofs.YtlakjonnkggomaaW.PrintMore
set_option linter.unusedVariables false
set_option linter.unusedSimpArgs false
open Go.Proofs Go.Deep
open Go.RowKit Go.Proofs.YtlakjonnkggomaaW.PrintWords Go.Proofs.YtlakjonnkggomaaW.PrintLast Go.Proofs.YtlakjonnkggomaaW.PrintMore
/-- The cells of a row whose first cells are marked. -/
def mkC (cur : Array Value) (k : Int) : Nat → Array Value
  | 0 => cur
  | i + 1 => (mkC cur k i).setIfInBounds i (.int .i64 (k + i))
theorem mkC_size (cur : Array Value) (k : Int) : ∀ i, (mkC cur k i).size = cur.size
  | 0 => rfl
  | i + 1 => by unfold mkC; rw [Array.size_setIfInBounds, mkC_size cur k i]
theorem mkC_far (cur : Array Value) (k : Int) : ∀ n i, n ≤ i → (mkC cur k n)[i]? = cur[i]?
  | 0, _, _ => rfl
  | n + 1, i, h => by unfold mkC; rw [Array.getElem?_setIfInBounds_ne (by omega), mkC_far cur k n i (by omega)]
theorem mkC_at (cur : Array Value) (k : Int) : ∀ n i, i < n → n ≤ cur.size → (mkC cur k n)[i]? = some (.int .i64 (k + i))
  | 0, i, h, _ => absurd h (Nat.not_lt_zero i)
  | n + 1, i, h, hs => by
    unfold mkC
    by_cases hi : i = n
    · rw [hi, Array.getElem?_setIfInBounds_self_of_lt (by rw [mkC_size]; omega)]
    · rw [Array.getElem?_setIfInBounds_ne (fun e => hi e.symm)]
      exact mkC_at cur k n i (by omega) (by omega)
theorem grown_set (W : World) (b i : Nat) (v : Value) : W.grownBy (W.setCell ⟨b, i, none⟩ v) (some b) :=
  ⟨rfl, rfl, rfl, by simp [World.setCell], fun k _ hk => Below.heap_setCell _ _ _ k (fun e => hk (by rw [e]))⟩
theorem grown_tr {w W W' : World} {row : Option Nat} (h : w.grownBy W row) (h' : W.grownBy W' row) : w.grownBy W' row :=
  ⟨h'.os.trans h.os, h'.tape.trans h.tape, h'.output.trans h.output, Nat.le_trans h.size h'.size, fun k hk hr => (h'.block k (Nat.lt_of_lt_of_le hk h.size) hr).trans (h.block k hk hr)⟩
set_option maxHeartbeats 8000000 in
set_option maxRecDepth 100000 in
theorem markS_walk (w : World) (g n cap : Nat) (cur : Array Value) (k : Int) (hg : w.heap[g]? = some (.cells cur 3 (0, 0))) (hn : n ≤ cur.size) (hk0 : 0 ≤ k) (hk : k + n ≤ 8000000000000) :
    Calls Try.prog 25 #[.slice (some ⟨g, 0, none⟩) n cap, .int .i64 k] w fun e w' => e = .returned (.int .i64 (k + n)) ∧ w'.heap[g]? = some (.cells (mkC cur k n) 3 (0, 0)) ∧ w.grownBy w' (some g) := by
  have HN := Aside0.mk hn
  have HK0 := Aside0.mk hk0
  have HK := Aside0.mk hk
  have HG := Aside0.mk hg
  clear hn hk0 hk hg
  go_enter Try.func25, Try.ntmps25
  go_wp2
  go_loopg [1, 5] n (fun kq v1 v5 w' => ∃ (i : Nat) (z : Int), v1 = .int .i64 z ∧ v5 = .int .i64 (i : Int) ∧ Aside0 (z = k + i) ∧ Aside0 (kq + i = n) ∧ Aside0 (w'.heap[g]? = some (.cells (mkC cur k i) 3 (0, 0))) ∧ Aside0 (w.grownBy w' (some g)))
  case atStart => exact ⟨0, k, rfl, rfl, ⟨by omega⟩, ⟨by omega⟩, ⟨HG.out⟩, ⟨World.grownBy.refl _ _⟩⟩
  case round =>
    obtain ⟨i, z, rfl, rfl, HZ, HI, HGi, HGR⟩ := hrel
    by_cases hi : i < n
    · have h1 : (i : Int) < (n : Int) := by omega
      have h0 : (0 : Int) ≤ (i : Int) := by omega
      have HH := Aside0.mk hi
      have HWI := Aside0.mk (show wrap64 ((i : Int) + 1) = ((i + 1 : Nat) : Int) from by have := HK.out; have := HK0.out; rw [wrap64]; omega)
      have HWZ := Aside0.mk (show wrap64 (z + 1) = z + 1 from by have := HK.out; have := HK0.out; have := HZ.out; rw [wrap64]; omega)
      obtain ⟨u, hu⟩ : ∃ u, (mkC cur k i)[i]? = some u := ⟨_, Array.getElem?_eq_getElem (by rw [mkC_size]; have := HN.out; omega)⟩
      have hc : wr.cell? ⟨g, i, none⟩ = some u := (blk_cell HGi.out i).trans hu
      have hf := blk_frozen HGi.out i
      clear hi hu
      go_wp2_with fail
      go_roundg (gk - 1)
      case measure => have := HI.out; have := HH.out; omega
      case rel =>
        refine ⟨i + 1, z + 1, by rw [HWZ.out], by rw [HWI.out], ⟨by have := HZ.out; omega⟩, ⟨by have := HI.out; have := HH.out; omega⟩, ⟨?_⟩, ⟨grown_tr HGR.out (grown_set _ _ _ _)⟩⟩
        exact blk_put HGi.out i _ (by rw [HZ.out]; rfl)
    · have h1 : (n : Int) ≤ (i : Int) := by omega
      have HE := Aside0.mk (show i = n from by have := HI.out; omega)
      clear hi
      go_wp2_with fail
      go_ret
      have h2 := HGi.out
      have h3 := HZ.out
      rw [HE.out] at h2 h3
      exact ⟨by first | rfl | (rw [h3]; rfl), h2, HGR.out⟩
theorem markS_nil (w : World) (A : Option Addr) (cap : Nat) (k : Int) :
    Calls Try.prog 25 #[.slice A 0 cap, .int .i64 k] w fun e w' => e = .returned (.int .i64 k) ∧ w' = w := by
  go_enter Try.func25, Try.ntmps25
  go_wp2
  go_loopg [1, 5] 0 (fun kq v1 v5 w' => v1 = .int .i64 k ∧ v5 = .int .i64 0 ∧ w' = w)
  case atStart => exact ⟨rfl, rfl, rfl⟩
  case round =>
    obtain ⟨rfl, rfl, rfl⟩ := hrel
    go_wp2
    go_ret
    exact ⟨rfl, rfl⟩
/-- A row of ints that may be marked. -/
def RowI (W : World) (P : Nat → Prop) (v : Value) (n : Nat) : Prop := (∃ A c, v = .slice A 0 c ∧ n = 0) ∨ ∃ g cap cur, v = .slice (some ⟨g, 0, none⟩) n cap ∧ P g ∧ W.heap[g]? = some (.cells cur 3 (0, 0)) ∧ n ≤ cur.size
/-- What the marking of a row does. -/
def MS (v : Value) (n : Nat) (k : Int) (w w' : World) : Prop := ((∃ A c, v = .slice A 0 c) ∧ n = 0 ∧ w' = w) ∨ ∃ g cap cur, v = .slice (some ⟨g, 0, none⟩) n cap ∧ w.heap[g]? = some (.cells cur 3 (0, 0)) ∧ n ≤ cur.size ∧ w'.heap[g]? = some (.cells (mkC cur k n) 3 (0, 0)) ∧ w.grownBy w' (some g)
theorem mark_walk (w : World) (P : Nat → Prop) (v : Value) (n : Nat) (k : Int) (h : RowI w P v n) (hk0 : 0 ≤ k) (hk : k + n ≤ 8000000000000) : Calls Try.prog 25 #[v, .int .i64 k] w fun e w' => e = .returned (.int .i64 (k + n)) ∧ MS v n k w w' := by
  rcases h with ⟨A, c, rfl, rfl⟩ | ⟨g, cap, cur, rfl, hp, hg, hn⟩
  · refine (markS_nil w A c k).mono ?_
    rintro e w' ⟨rfl, rfl⟩
    exact ⟨by simp, .inl ⟨⟨A, c, rfl⟩, rfl, rfl⟩⟩
  · refine (markS_walk w g n cap cur k hg hn hk0 hk).mono ?_
    rintro e w' ⟨rfl, h1, h2⟩
    exact ⟨rfl, .inr ⟨g, cap, cur, rfl, hg, hn, h1, h2⟩⟩
/-- The int rows keep their sizes, all else stays. -/
structure TS (w w' : World) (P : Nat → Prop) : Prop where
  row : ∀ (g : Nat) (cur : Array Value), w.heap[g]? = some (.cells cur 3 (0, 0)) → ∃ cur', w'.heap[g]? = some (.cells cur' 3 (0, 0)) ∧ cur'.size = cur.size
  keep : ∀ (g : Nat) (cs : Array Value) (t : TypeId), w.heap[g]? = some (.cells cs t (0, 0)) → t ≠ 3 ∨ ¬ P g → w'.heap[g]? = w.heap[g]?
  below : ∀ (base : Nat) (W0 : World), Below base W0 w → base ≤ w.heap.size → (∀ g, P g → base ≤ g) → Below base W0 w'
  size : w.heap.size ≤ w'.heap.size
theorem TS.refl (w : World) (P : Nat → Prop) : TS w w P := ⟨fun g cur h => ⟨cur, h, rfl⟩, fun _ _ _ _ _ => rfl, fun _ _ h _ _ => h, Nat.le_refl _⟩
theorem TS.trans {w w1 w2 : World} {P : Nat → Prop} (h : TS w w1 P) (h' : TS w1 w2 P) : TS w w2 P := by
  refine ⟨fun g cur hg => ?_, fun g cs t hg ht => ?_, fun base W0 hb hs hp => h'.below base W0 (h.below base W0 hb hs hp) (Nat.le_trans hs h.size) hp, Nat.le_trans h.size h'.size⟩
  · obtain ⟨c1, h1, e1⟩ := h.row g cur hg
    obtain ⟨c2, h2, e2⟩ := h'.row g c1 h1
    exact ⟨c2, h2, by rw [e2, e1]⟩
  · have h1 := h.keep g cs t hg ht
    rw [h'.keep g cs t (by rw [h1]; exact hg) ht, h1]
theorem TS.mono {w w1 : World} {P Q : Nat → Prop} (h : TS w w1 P) (hq : ∀ g, P g → Q g) : TS w w1 Q :=
  ⟨h.row, fun g cs t hg ht => h.keep g cs t hg (ht.imp_right (fun hn hp => hn (hq g hp))), fun base W0 hb hs hp => h.below base W0 hb hs (fun g hg => hp g (hq g hg)), h.size⟩
theorem MS.ts {v : Value} {n : Nat} {k : Int} {w w' : World} {P : Nat → Prop} (h : MS v n k w w') (hr : RowI w P v n) : TS w w' P := by
  rcases h with ⟨_, _, rfl⟩ | ⟨g, cap, cur, rfl, hg, hn, hg', hgr⟩
  · exact TS.refl _ _
  have hP : n = 0 ∨ P g := by
    rcases hr with ⟨A, c, _, h0⟩ | ⟨g2, cap2, cur2, e, hp, _⟩
    · exact .inl h0
    · cases e; exact .inr hp
  have hcur : n = 0 → w'.heap[g]? = w.heap[g]? := fun h0 => by rw [hg', hg, h0]; rfl
  refine ⟨fun q c hq => ?_, fun q cs t hq ht => ?_, fun base W0 hb hs hp => ?_, hgr.size⟩
  · by_cases e : q = g
    · subst e
      rw [hg] at hq
      cases hq
      exact ⟨_, hg', mkC_size _ _ _⟩
    · exact ⟨c, (hgr.block q (blk_lt hq) (fun h => e (Option.some.inj h))).trans hq, rfl⟩
  · by_cases e : q = g
    · subst e
      rcases hP with h0 | hP
      · exact hcur h0
      · rw [hg] at hq
        cases hq
        rcases ht with ht | ht
        · exact absurd rfl ht
        · exact absurd hP ht
    · exact hgr.block q (blk_lt hq) (fun h => e (Option.some.inj h))
  · rcases hP with h0 | hP
    · exact hb.trans ⟨hgr.os, hgr.tape, hgr.output, hgr.size, fun q hq => by
        by_cases e : q = g
        · rw [e]; exact hcur h0
        · exact hgr.block q (by omega) (fun h => e (Option.some.inj h))⟩
    · exact hb.grown hgr hs (fun q e => by cases e; exact hp g hP)
theorem RowI.ts {v : Value} {n : Nat} {w w' : World} {P Q : Nat → Prop} (h : RowI w P v n) (ht : TS w w' Q) : RowI w' P v n := by
  rcases h with h | ⟨g, cap, cur, rfl, hp, hg, hn⟩
  · exact .inl h
  · obtain ⟨c', hc, e⟩ := ht.row g cur hg
    exact .inr ⟨g, cap, c', rfl, hp, hc, by omega⟩
/-- What the marking of rows does, one behind the other. -/
def MSS : List (Value × Nat) → Int → World → World → Prop
  | [], _, w, w' => w' = w
  | (v, n) :: l, k, w, w' => ∃ w1, MS v n k w w1 ∧ MSS l (k + n) w1 w'
def tot (l : List (Value × Nat)) : Nat := (l.map (·.2)).sum
theorem MSS.snoc : ∀ {l : List (Value × Nat)} {k : Int} {w w1 w2 : World} {v : Value} {n : Nat}, MSS l k w w1 → MS v n (k + tot l) w1 w2 → MSS (l ++ [(v, n)]) k w w2
  | [], k, w, w1, w2, v, n, h, h2 => by
    have e : w1 = w := h
    subst e
    exact ⟨w2, by simpa [tot] using h2, rfl⟩
  | (u, m) :: l, k, w, w1, w2, v, n, ⟨w3, h1, h3⟩, h2 => ⟨w3, h1, MSS.snoc h3 (by
    have e : k + tot ((u, m) :: l) = k + m + tot l := by unfold tot; simp; omega
    rw [← e]; exact h2)⟩
theorem MSS.ts : ∀ {l : List (Value × Nat)} {k : Int} {w w1 : World} {P : Nat → Prop}, MSS l k w w1 → (∀ p ∈ l, RowI w P p.1 p.2) → TS w w1 P
  | [], _, w, w1, P, h, _ => by
    have e : w1 = w := h
    subst e
    exact TS.refl _ _
  | (v, n) :: l, k, w, w1, P, ⟨w2, h1, h2⟩, hr => by
    have t1 := h1.ts (hr _ List.mem_cons_self)
    exact t1.trans (MSS.ts h2 (fun p hp => (hr p (List.mem_cons_of_mem _ hp)).ts t1))
/-- A row of rows that may be marked. -/
def RwS (W : World) (P : Nat → Prop) (a : Value) (l : List (Value × Nat)) : Prop := (∃ A c, a = .slice A l.length c) ∧ (0 < l.length → ∃ g c rs, a = .slice (some ⟨g, 0, none⟩) l.length c ∧ W.heap[g]? = some (.cells rs 23 (0, 0)) ∧ ∀ j (hj : j < l.length), rs[j]? = some l[j].1) ∧ ∀ p ∈ l, RowI W P p.1 p.2
theorem tot_take {l : List (Value × Nat)} {i : Nat} (hi : i < l.length) : tot (l.take (i + 1)) = tot (l.take i) + l[i].2 := by
  unfold tot
  rw [List.take_add_one, List.getElem?_eq_getElem hi, List.map_append, List.sum_append]
  simp
theorem tot_le (l : List (Value × Nat)) : ∀ i, tot (l.take i) ≤ tot l := by
  induction l with
  | nil => intro i; simp [tot]
  | cons p l ih => intro i; cases i with
    | zero => simp [tot]
    | succ i =>
      show (List.map (·.2) (p :: l.take i)).sum ≤ (List.map (·.2) (p :: l)).sum
      rw [List.map_cons, List.map_cons, List.sum_cons, List.sum_cons]
      exact Nat.add_le_add_left (ih i) _
set_option maxHeartbeats 8000000 in
set_option maxRecDepth 100000 in
theorem markSS_walk (w : World) (P : Nat → Prop) (a : Value) (l : List (Value × Nat)) (k : Int) (h : RwS w P a l) (hl : l.length ≤ 2000000) (hk0 : 0 ≤ k) (hk : k + tot l ≤ 8000000000000) :
    Calls Try.prog 24 #[a, .int .i64 k] w fun e w' => e = .returned (.int .i64 (k + tot l)) ∧ MSS l k w w' := by
  obtain ⟨⟨A, c, ha⟩, h2, h3⟩ := h
  subst ha
  have H2 := Aside0.mk h2
  have H3 := Aside0.mk h3
  have HL := Aside0.mk hl
  have HK0 := Aside0.mk hk0
  have HK := Aside0.mk hk
  obtain ⟨n, hn⟩ : ∃ n, n = l.length := ⟨_, rfl⟩
  have HN := Aside0.mk hn
  rw [← hn]
  clear h2 h3 hl hk0 hk hn
  go_enter Try.func24, Try.ntmps24
  go_wp2
  go_loopg [1, 5] n (fun kq v1 v5 w' => ∃ (i : Nat) (z : Int), v1 = .int .i64 z ∧ v5 = .int .i64 (i : Int) ∧ Aside0 (z = k + tot (l.take i)) ∧ Aside0 (kq + i = n) ∧ Aside0 (MSS (l.take i) k w w'))
  case atStart => exact ⟨0, k, rfl, rfl, ⟨by simp [tot]⟩, ⟨by omega⟩, ⟨rfl⟩⟩
  case round =>
    obtain ⟨i, z, rfl, rfl, HZ, HI, HM⟩ := hrel
    by_cases hi : i < n
    · have h1 : (i : Int) < (n : Int) := by omega
      have h0 : (0 : Int) ≤ (i : Int) := by omega
      have HH := Aside0.mk hi
      have hil : i < l.length := by rw [← HN.out]; exact hi
      have ht : TS w wr P := HM.out.ts (fun p hp => H3.out p (List.mem_of_mem_take hp))
      obtain ⟨g, c', rs, e, hg, hrs⟩ := H2.out (by omega)
      have hA : A = some ⟨g, 0, none⟩ := by injection e
      subst hA
      have hc : wr.cell? ⟨g, i, none⟩ = some l[i].1 := (blk_cell ((ht.keep g rs _ hg (.inl (by decide))).trans hg) i).trans (hrs i hil)
      have hRI : RowI wr P l[i].1 l[i].2 := (H3.out _ (List.getElem_mem hil)).ts ht
      have hkk := HK.out
      have hlt := tot_le l (i + 1)
      have htt := tot_take hil
      obtain ⟨u, hu⟩ : ∃ u, u = l[i].1 := ⟨_, rfl⟩
      obtain ⟨m, hm⟩ : ∃ m, m = l[i].2 := ⟨_, rfl⟩
      rw [← hu] at hc hRI
      rw [← hm] at hRI htt
      have HUM := Aside0.mk (show l[i]? = some (u, m) from by rw [List.getElem?_eq_getElem hil, hu, hm])
      have HTT := Aside0.mk htt
      have hcall := mark_walk wr P u m z hRI (by have := HK0.out; have := HZ.out; omega) (by have := HZ.out; omega)
      have HCA := Aside0.mk hcall
      have HWI := Aside0.mk (show wrap64 ((i : Int) + 1) = ((i + 1 : Nat) : Int) from by have := HL.out; rw [wrap64]; omega)
      clear hi hil ht e hg hrs hRI hkk hlt htt hu hm hcall
      go_wp2_with fail
      refine HCA.out.mono ?_
      rintro e w2 ⟨rfl, hms⟩
      have HMS := Aside0.mk hms
      clear hms
      go_wp2_with fail
      go_roundg (gk - 1)
      case measure => have := HI.out; have := HH.out; omega
      case rel =>
        refine ⟨i + 1, z + m, rfl, by rw [HWI.out], ⟨by have := HZ.out; have := HTT.out; omega⟩, ⟨by have := HI.out; have := HH.out; omega⟩, ⟨?_⟩⟩
        have e : l.take (i + 1) = l.take i ++ [(u, m)] := by
          rw [List.take_add_one, HUM.out]; rfl
        rw [e]
        exact MSS.snoc HM.out (by rw [← HZ.out]; exact HMS.out)
    · have h1 : (n : Int) ≤ (i : Int) := by omega
      have HE := Aside0.mk (show l.take i = l from List.take_of_length_le (by have := HI.out; have := HN.out; omega))
      clear hi
      go_wp2_with fail
      go_ret
      have h2 := HM.out
      have h3 := HZ.out
      rw [HE.out] at h2 h3
      exact ⟨by first | rfl | (rw [h3]; rfl), h2⟩
end Go.Proofs.YtlakjonnkggomaaW.PrintMore
