/-
  InnerOf of the program: a list of layouts, each with rows of its own.
-/
import Derived.Test.YtlakjonnkggomaaLvF
import Derived.Test.YtlakjonnkggomaaWLast
namespace Go.Proofs.YtlakjonnkggomaaW.PrintMore
set_option linter.unusedVariables false
set_option linter.unusedSimpArgs false
open Go.Proofs Go.Deep
open Go.RowKit Go.Proofs.YtlakjonnkggomaaW.PrintWords Go.Proofs.YtlakjonnkggomaaW.PrintLast Go.Proofs.YtlakjonnkggomaaW.PrintMore
def toN (l : List Int) : List Nat := l.map Int.toNat
def natL (l : List Int) : Bool := l.all fun n => decide (0 ≤ n) && decide (n ≤ 400)
def vdB : Nat → List (List Nat) → List Int → Bool
  | e, [], D => D.length == e
  | e, L :: Ls, D => L.length == e && vdB L.sum Ls D
/-- The layout is one of which InnerOf speaks. -/
def inOk (Ls : List (List Int)) (D : List Int) : Bool := Ls.all natL && vdB 1 (Ls.map toN) D && decide (Ls.length ≤ 3) && Ls.all (fun r => decide (r.length ≤ 1048576)) && decide (D.length ≤ 1048576)
theorem vdN_of : ∀ (Ls : List (List Nat)) (e : Nat) (D : List Int), vdB e Ls D = true → VdN e Ls D
  | [], e, D, h => (by simpa [vdB] using h : D.length = e)
  | L :: Ls, e, D, h => by
    unfold vdB at h
    rw [Bool.and_eq_true] at h
    exact ⟨by simpa using h.1, vdN_of Ls _ D h.2⟩
theorem vdN_sum : ∀ (Ls : List (List Nat)) (e : Nat) (D : List Int), VdN e Ls D → (∀ L ∈ Ls, L.length ≤ 1048576) → D.length ≤ 1048576 → ∀ L ∈ Ls, L.sum ≤ 1048576
  | [], _, _, _, _, _, L, hL => by cases hL
  | M :: Ls, e, D, h, hl, hd, L, hL => by
    rcases List.mem_cons.1 hL with rfl | hL
    · have h2 := h.2
      cases Ls with
      | nil => have : D.length = L.sum := h2; omega
      | cons K Ks => have h3 : K.length = L.sum := h2.1; have := hl K (List.mem_cons_of_mem _ List.mem_cons_self); omega
    · exact vdN_sum Ls _ D h.2 (fun K hK => hl K (List.mem_cons_of_mem _ hK)) hd L hL
theorem nts_toN (l : List Int) (h : natL l = true) : lv_nts (toN l) = l := by
  unfold lv_nts toN
  rw [List.map_map]
  conv => rhs; rw [← List.map_id l]
  apply List.map_congr_left
  intro n hn
  have := List.all_eq_true.1 h n hn
  simp at this
  show ((n.toNat : Nat) : Int) = n
  omega
structure InOk (Ls : List (List Int)) (D : List Int) : Prop where
  nts : (Ls.map toN).map lv_nts = Ls
  vd : VdN 1 (Ls.map toN) D
  lsz : Lsz (Ls.map toN)
  l400 : ∀ L ∈ Ls.map toN, ∀ n ∈ L, n ≤ 400
  sums : ∀ L ∈ Ls.map toN, L.sum ≤ 1048576
  dl : D.length ≤ 1048576
theorem inOk_of {Ls : List (List Int)} {D : List Int} (h : inOk Ls D = true) : InOk Ls D := by
  unfold inOk at h
  simp only [Bool.and_eq_true, decide_eq_true_eq] at h
  obtain ⟨⟨⟨⟨h1, h2⟩, h3⟩, h4⟩, h5⟩ := h
  have hn : ∀ r ∈ Ls, natL r = true := fun r hr => List.all_eq_true.1 h1 r hr
  have hl : ∀ L ∈ Ls.map toN, L.length ≤ 1048576 := by
    intro L hL
    obtain ⟨r, hr, rfl⟩ := List.mem_map.1 hL
    have := List.all_eq_true.1 h4 r hr
    unfold toN
    rw [List.length_map]
    simpa using this
  have hv := vdN_of _ _ _ h2
  refine ⟨?_, hv, ⟨by rw [List.length_map]; exact h3, hl⟩, ?_, vdN_sum _ _ _ hv hl h5, h5⟩
  · rw [List.map_map]
    conv => rhs; rw [← List.map_id Ls]
    apply List.map_congr_left
    intro r hr
    exact nts_toN r (hn r hr)
  · intro L hL n hL2
    obtain ⟨r, hr, rfl⟩ := List.mem_map.1 hL
    obtain ⟨z, hz, rfl⟩ := List.mem_map.1 hL2
    have := List.all_eq_true.1 (hn r hr) z hz
    simp at this
    omega
def LVc (f : FuncId) (A0 : Option Addr) (n c0 : Nat) (A1 : Option Addr) (m c1 : Nat) (b : Bool) (w : World) : Prop := ∀ W, Below w.heap.size w W → Calls Try.prog f #[.agg #[.slice A0 n c0, .slice A1 m c1]] W fun e w' => e = .returned (.bool b) ∧ Below W.heap.size W w'
/-- A layout in a variable. -/
def OBL (W : World) (o : Nat) (a b : Value) : Prop := W.heap[o]? = some (.cells #[a, b] 30 (0, 0))
/-- A layout of a list, whose rows bear colours: (i, j) the j-th row of lengths of the i-th layout, the data the last. -/
def LayV (W : World) (base : Nat) (f : Nat → Nat × Nat) (i : Nat) (a b : Value) (Ms : List (List Int)) (E : List Int) : Prop :=
  ∃ us : List Value, W.ownsRow base 23 1 a Ms.length us ∧ (∀ j, j < Ms.length → ∃ u, us[j]? = some u ∧ Kd.R kI 3 W base (fun k => f k = (i, j)) u (Ms.getD j [])) ∧ Kd.R kI 3 W base (fun k => f k = (i, Ms.length)) b E
/-- What is neither a list of layouts nor an int row of another colour stays. -/
theorem LayV.keep {W W' : World} {base : Nat} {f : Nat → Nat × Nat} {i : Nat} {a b : Value} {Ms : List (List Int)} {E : List Int} (h : LayV W base f i a b Ms E)
    (hm : ∀ k cs t, W.heap[k]? = some (.cells cs t (0, 0)) → t = 23 ∨ (t = 3 ∧ (f k).1 = i ∧ base ≤ k) → W'.heap[k]? = W.heap[k]?) : LayV W' base f i a b Ms E := by
  obtain ⟨us, h1, h2, h3⟩ := h
  have hR : ∀ (j : Nat) (v : Value) (xs : List Int), Kd.R kI 3 W base (fun k => f k = (i, j)) v xs → Kd.R kI 3 W' base (fun k => f k = (i, j)) v xs := fun j v xs hv => by
    refine Kd.R_mono (Kd.R_move (Kd.R_bound hv) (fun k hk => ?_)) (fun k hk => hk.1)
    obtain ⟨hk1, hkb, _, q, hq, cs, hcs⟩ := hk
    have : q = 3 := by simpa [kI, Kd.int, Kd.scalar] using hq
    subst this
    exact hm k cs _ hcs (.inr ⟨rfl, by rw [hk1], hkb⟩)
  refine ⟨us, own_move h1 (fun k hk => ?_), fun j hj => ?_, hR _ _ _ h3⟩
  · obtain ⟨cs, hcs⟩ := own_typed h1 k hk
    exact hm k cs _ hcs (.inl rfl)
  · obtain ⟨u, hu, hv⟩ := h2 j hj
    exact ⟨u, hu, hR _ _ _ hv⟩
theorem LayV.recol {W : World} {base : Nat} {f f' : Nat → Nat × Nat} {i : Nat} {a b : Value} {Ms : List (List Int)} {E : List Int} (h : LayV W base f i a b Ms E) (hf : ∀ k, k < W.heap.size → f' k = f k) : LayV W base f' i a b Ms E := by
  obtain ⟨us, h1, h2, h3⟩ := h
  have hR : ∀ (j : Nat) (v : Value) (xs : List Int), Kd.R kI 3 W base (fun k => f k = (i, j)) v xs → Kd.R kI 3 W base (fun k => f' k = (i, j)) v xs := fun j v xs hv => Kd.R_mono (Kd.R_bound hv) (fun k hk => by rw [hf k hk.2.2.1]; exact hk.1)
  refine ⟨us, h1, fun j hj => ?_, hR _ _ _ h3⟩
  obtain ⟨u, hu, hv⟩ := h2 j hj
  exact ⟨u, hu, hR _ _ _ hv⟩
theorem LayV.of {W : World} {base base' gL cL i : Nat} {vD : Value} {Ms : List (List Int)} {E : List Int} {n : Nat} (h : LSR W base' gL cL vD Ms E) (hb : base ≤ base') (hg : base ≤ gL) (hn : n = Ms.length) (hc : n ≤ cL) (hc3 : cL ≤ maxLen) (f : Nat → Nat × Nat) :
    ∃ f', (∀ k, k < base' → f' k = f k) ∧ LayV W base f' i (.slice (some ⟨gL, 0, none⟩) n cL) vD Ms E := by
  obtain ⟨rs, g, hrs, hz, hrow, hdat⟩ := h
  obtain ⟨f', hf1, hf2⟩ : ∃ f' : Nat → Nat × Nat, (∀ k, base' ≤ k → f' k = (i, g k)) ∧ ∀ k, k < base' → f' k = f k := ⟨fun k => if k < base' then f k else (i, g k), fun k hk => if_neg (by omega), fun k hk => if_pos hk⟩
  have hR : ∀ (j : Nat) (v : Value) (xs : List Int), Kd.R kI 3 W base' (fun k => g k = j) v xs → Kd.R kI 3 W base (fun k => f' k = (i, j)) v xs := fun j v xs hv => Kd.R_lower (Kd.R_mono (Kd.R_bound hv) (fun k hk => by rw [hf1 k hk.2.1, hk.1])) hb
  refine ⟨f', hf2, rs.toList.take (Ms.length * 1), ⟨?_, .inr ⟨gL, cL, rs, by rw [hn], hg, hrs, by omega, hc3, by rw [Nat.mul_one]; exact hz, rfl⟩⟩, fun j hj => ?_, hR _ _ _ hdat⟩
  · have hz2 : rs.toList.length = cL := by rw [Array.length_toList]; exact hz
    rw [List.length_take, hz2]
    show min (Ms.length * 1) cL = Ms.length * 1
    omega
  · obtain ⟨v, hv, hR2⟩ := hrow j hj
    refine ⟨v, ?_, hR _ _ _ hR2⟩
    rw [List.getElem?_take_of_lt (by omega), Array.getElem?_toList]
    exact hv
def GS (W : World) (base : Nat) (v : Value) (xs : List (List (List Int) × List Int)) : Prop :=
  ∃ (f : Nat → Nat × Nat) (ps : List (Value × Value)), ps.length = xs.length ∧ Kd.R kPair 30 W base (fun _ => True) v ps ∧ ∀ i, i < xs.length → LayV W base f i (ps.getD i pD).1 (ps.getD i pD).2 (xs.getD i ([], [])).1 (xs.getD i ([], [])).2
theorem GS.below {W W' : World} {base : Nat} {v : Value} {xs : List (List (List Int) × List Int)} (h : GS W base v xs) (hb : Below W.heap.size W W') : GS W' base v xs := by
  obtain ⟨f, ps, h1, h2, h3⟩ := h
  exact ⟨f, ps, h1, Kd.R_below h2 hb, fun i hi => (h3 i hi).keep (fun k cs t hk _ => hb.block k (blk_lt hk))⟩
theorem GS.nil {W : World} {base : Nat} (h : base ≤ W.heap.size) : GS (W.alloc (.cells #[] 30)) base (.slice (some ⟨W.heap.size, 0, none⟩) 0 0) [] :=
  ⟨fun _ => (0, 0), [], rfl, ⟨fun _ _ => trivial, [], ⟨rfl, .inr ⟨W.heap.size, 0, #[], rfl, h, blk_new W _, Nat.le_refl _, by unfold maxLen; omega, rfl, rfl⟩⟩, Reps.none _ _⟩, fun i hi => absurd hi (Nat.not_lt_zero i)⟩
/-- The inner layouts. -/
def inZ (L : List Int) (Ls : List (List Int)) (D : List Int) : List (List (List Int) × List Int) := (List.range ((toN L).getD 0 0)).map (fun c => ldA (Ls.map toN) D (((toN L).take 0).sum + c))
theorem GS.snoc {W W1 : World} {base : Nat} {v v1 a b : Value} {xs : List (List (List Int) × List Int)} {x : List (List Int) × List Int} {ps : List (Value × Value)} {f : Nat → Nat × Nat} (hl : ps.length = xs.length) (hR : Kd.R kPair 30 W base (fun _ => True) v ps)
    (hx : ∀ i, i < xs.length → LayV W base f i (ps.getD i pD).1 (ps.getD i pD).2 (xs.getD i ([], [])).1 (xs.getD i ([], [])).2) (hn : LayV W base f xs.length a b x.1 x.2) (hR1 : Kd.R kPair 30 W1 base (fun _ => True) v1 (ps ++ [(a, b)])) (hg : W.grownBy W1 v.ownBlock) : GS W1 base v1 (xs ++ [x]) := by
  have hk : ∀ (k : Nat) (cs : Array Value) (t : TypeId), W.heap[k]? = some (.cells cs t (0, 0)) → t = 23 ∨ t = 3 → W1.heap[k]? = W.heap[k]? := by
    rintro k cs t hk (rfl | rfl)
    · exact hg.block k (blk_lt hk) (Kd.R_ne hR hk (by decide))
    · exact hg.block k (blk_lt hk) (Kd.R_ne hR hk (by decide))
  refine ⟨f, ps ++ [(a, b)], by rw [List.length_append, List.length_append, hl]; rfl, hR1, fun i hi => ?_⟩
  rw [List.length_append, List.length_singleton] at hi
  by_cases h : i < xs.length
  · have h1 : (ps ++ [(a, b)]).getD i pD = ps.getD i pD := by
      rw [List.getD_eq_getElem?_getD, List.getElem?_append_left (by omega), ← List.getD_eq_getElem?_getD]
    have h2 : (xs ++ [x]).getD i ([], []) = xs.getD i ([], []) := by
      rw [List.getD_eq_getElem?_getD, List.getElem?_append_left h, ← List.getD_eq_getElem?_getD]
    rw [h1, h2]
    exact (hx i h).keep (fun k cs t hk1 ht => hk k cs t hk1 (ht.imp_right (fun h => h.1)))
  · obtain rfl : i = xs.length := by omega
    have h1 : (ps ++ [(a, b)]).getD xs.length pD = (a, b) := by
      rw [List.getD_eq_getElem?_getD, ← hl, List.getElem?_concat_length]; rfl
    have h2 : (xs ++ [x]).getD xs.length ([], []) = x := by
      rw [List.getD_eq_getElem?_getD, List.getElem?_concat_length]; rfl
    rw [h1, h2]
    exact hn.keep (fun k cs t hk1 ht => hk k cs t hk1 (ht.imp_right (fun h => h.1)))
theorem layout_info : (Try.prog.info? 30).map (fun i => (i.zero, i.size, i.bytes)) = some (some (.agg #[.slice none 0 0, .slice none 0 0]), 2, 48) := by kernel_rfl
/-- All blocks of w's but g stay. -/
def KB (w W : World) (g : Nat) : Prop := w.heap.size ≤ W.heap.size ∧ ∀ k, k ≠ g ∧ k < w.heap.size → W.heap[k]? = w.heap[k]?
theorem KB.below {w W W' : World} {g : Nat} (h : KB w W g) (hb : Below W.heap.size W W') : KB w W' g := ⟨Nat.le_trans h.1 hb.size, fun k hk => (hb.block k (by have := h.1; omega)).trans (h.2 k hk)⟩
theorem KB.grown {w W W' : World} {g : Nat} {row : Option Nat} (h : KB w W g) (hg : W.grownBy W' row) (hs : W.heap.size ≤ W'.heap.size) (hr : ∀ k, row = some k → k = g ∨ w.heap.size ≤ k) : KB w W' g :=
  ⟨Nat.le_trans h.1 hs, fun k hk => (hg.block k (by have := h.1; omega) (fun e => by have := hr k e.symm; omega)).trans (h.2 k hk)⟩
theorem pair_ne {W : World} {A : Option Addr} {n g t : Nat} {xs : List (Value × Value)} (h : Kd.C kPair W A n xs) (hg : W.heap[g]? = some (.cells #[] t (0, 0))) : ∀ ad, A = some ad → 0 < n → ad.block ≠ g ∧ ad.block < W.heap.size := by
  intro ad hA hn
  obtain ⟨ad', hA', hc, _⟩ := pair_at2 h 0 hn
  rw [hA] at hA'
  cases hA'
  rw [Nat.zero_mul] at hc
  have hb : (ad.add 0).block = ad.block := add_block ad 0
  refine ⟨fun e => ?_, by rw [← hb]; exact World.block_lt_of_cell? W _ hc⟩
  rw [← e, ← hb] at hg
  simp [World.cell?, hg] at hc
theorem nd_ne {W : World} {g t : Nat} (hg : W.heap[g]? = some (.cells #[] t (0, 0))) : ∀ (Ls : List (List Nat)) (D : List Int) (a : Nat) (v : Value), NdT W Ls D a v → Nd W (fun k => k ≠ g ∧ k < W.heap.size) Ls D a v
  | [], _, _, _, hn => hn
  | L :: Ls, D, a, v, ⟨A, k, xs, e, h1, hc, ho, hx⟩ => ⟨A, k, xs, e, h1, hc, fun ad ha hp => ⟨pair_ne hc hg ad ha hp, (ho ad ha hp).2⟩, fun c hcl => nd_ne hg Ls D _ _ (hx c hcl)⟩
theorem nd_up {W : World} {ok : Nat → Prop} : ∀ {Ls : List (List Nat)} {D : List Int} {a : Nat} {v : Value}, Nd W ok Ls D a v → NdT W Ls D a v
  | [], _, _, _, hn => hn
  | L :: Ls, D, a, v, ⟨A, k, xs, e, h1, hc, ho, hx⟩ => ⟨A, k, xs, e, h1, hc, fun ad ha hp => ⟨trivial, (ho ad ha hp).2⟩, fun c hcl => nd_up (hx c hcl)⟩
theorem nd_kb {w W : World} {g t : Nat} (hg : w.heap[g]? = some (.cells #[] t (0, 0))) (h : KB w W g) {Ls : List (List Nat)} {D : List Int} {a : Nat} {v : Value} (hn : NdT w Ls D a v) : NdT W Ls D a v :=
  nd_up (nd_move (fun k hk => h.2 k hk) Ls D a v (nd_ne hg Ls D a v hn))
set_option maxHeartbeats 8000000 in
set_option maxRecDepth 100000 in
theorem impl_inner_no (w : World) (A0 : Option Addr) (n c0 : Nat) (A1 : Option Addr) (m c1 : Nat) (t : Bool) (ht : t = false ∨ n = 0) (hn : n ≤ 1048576) (hv : LVc 19 A0 n c0 A1 m c1 t w) :
    Calls Try.prog 7 #[.agg #[.slice A0 n c0, .slice A1 m c1]] w fun e w' => e = .returned (.tuple #[.slice none 0 0, .bool false]) ∧ Below w.heap.size w w' := by
  have hul := Try.underlying30
  have hb1 : Below w.heap.size w (w.alloc (.cells #[.slice A0 n c0, .slice A1 m c1] 30)) := (Below.refl _ w).alloc (Nat.le_refl _) _
  have HV := Aside0.mk (hv _ hb1)
  have HB1 := Aside0.mk hb1
  have HBX := Aside0.mk (show OBL (w.alloc (.cells #[.slice A0 n c0, .slice A1 m c1] 30)) w.heap.size (.slice A0 n c0) (.slice A1 m c1) from blk_new w _)
  clear hv hb1
  go_enter Try.func7, Try.ntmps7
  go_wp2_with fail
  refine HV.out.mono ?_
  rintro e w2 ⟨rfl, hb⟩
  have HB2 := Aside0.mk (HB1.out.trans (hb.mono HB1.out.size))
  have HX2 := Aside0.mk (show OBL w2 w.heap.size (.slice A0 n c0) (.slice A1 m c1) from (hb.block _ (blk_lt HBX.out)).trans HBX.out)
  have hx0 : w2.cell? ⟨w.heap.size, 0, none⟩ = some (.slice A0 n c0) := (blk_cell HX2.out 0).trans rfl
  have hx1 : w2.cell? ⟨w.heap.size, 1, none⟩ = some (.slice A1 m c1) := (blk_cell HX2.out 1).trans rfl
  clear hb
  cases t with
  | false =>
    go_wp2
    go_ret2
    exact ⟨rfl, HB2.out⟩
  | true =>
    obtain rfl : n = 0 := by simpa using ht
    go_wp2
    go_ret2
    exact ⟨rfl, HB2.out⟩
set_option maxHeartbeats 16000000 in
set_option maxRecDepth 100000 in
theorem impl_inner_yes (w : World) (A0 : Option Addr) (n c0 : Nat) (A1 : Option Addr) (m c1 : Nat) (L : List Int) (Ls : List (List Int)) (D : List Int) (hn : n = Ls.length + 1) (hm : m = D.length) (hok : InOk (L :: Ls) D)
    (hr : Kd.C (Kd.slice 3 (Kd.int .i64)) w A0 n (L :: Ls)) (hd : Kd.C (Kd.int .i64) w A1 m D) (hv : LVc 19 A0 n c0 A1 m c1 true w) :
    Calls Try.prog 7 #[.agg #[.slice A0 n c0, .slice A1 m c1]] w fun e w' => ∃ v, e = .returned (.tuple #[v, .bool true]) ∧ GS w' w.heap.size v (inZ L Ls D) ∧ Below w.heap.size w w' := by
  have hul := Try.underlying30
  have hun := Try.underlying45
  have hb1 : Below w.heap.size w (w.alloc (.cells #[.slice A0 n c0, .slice A1 m c1] 30)) := (Below.refl _ w).alloc (Nat.le_refl _) _
  have HV := Aside0.mk (hv _ hb1)
  have HB1 := Aside0.mk hb1
  obtain ⟨Ns, hNs⟩ : ∃ Ns, Ns = Ls.map toN := ⟨_, rfl⟩
  obtain ⟨N0, hN0⟩ : ∃ N0, N0 = toN L := ⟨_, rfl⟩
  have hlen : Ns.length = Ls.length := by rw [hNs, List.length_map]
  have hcons : (L :: Ls).map toN = N0 :: Ns := by rw [hN0, hNs]; rfl
  have hr' : Kd.C (Kd.slice 3 (Kd.int .i64)) w A0 n ((N0 :: Ns).map lv_nts) := by rw [← hcons, hok.nts]; exact hr
  have HBX := Aside0.mk (show OBL (w.alloc (.cells #[.slice A0 n c0, .slice A1 m c1] 30)) w.heap.size (.slice A0 n c0) (.slice A1 m c1) from blk_new w _)
  have HR := Aside0.mk hr'
  have HD := Aside0.mk hd
  have HOK := Aside0.mk hok
  have HN := Aside0.mk (show n = (N0 :: Ns).length from by rw [List.length_cons, hlen]; exact hn)
  have HM := Aside0.mk hm
  have HINZ := Aside0.mk (show inZ L Ls D = (List.range (N0.getD 0 0)).map (fun c => ldA Ns D ((N0.take 0).sum + c)) from by unfold inZ; rw [← hN0, ← hNs])
  have HLS := Aside0.mk (show Lsz (N0 :: Ns) from by rw [← hcons]; exact hok.lsz)
  have HVD := Aside0.mk (show VdN 1 (N0 :: Ns) D from by rw [← hcons]; exact hok.vd)
  have HL4 := Aside0.mk (show ∀ M ∈ N0 :: Ns, ∀ q ∈ M, q ≤ 400 from by rw [← hcons]; exact hok.l400)
  have hn1 : ((n : Int) == 0) = false := beq_eq_false_iff_ne.2 (by omega)
  have HN1 := Aside0.mk (show n = Ns.length + 1 from by omega)
  have HWD := Aside0.mk (show wrap64 ((n : Int) - 1) = (Ns.length : Int) from by have h5 := hok.lsz.1; rw [List.length_map, List.length_cons] at h5; rw [wrap64]; omega)
  have HLL := Aside0.mk (show Ns.length ≤ 3 from by have h5 := hok.lsz.1; rw [List.length_map, List.length_cons] at h5; omega)
  have HL44 := Aside0.mk (show ∀ M ∈ Ns, ∀ q ∈ M, q ≤ 400 from fun M hM => HL4.out M (List.mem_cons_of_mem _ hM))
  clear hv hb1 hr hr' hd hok hn hm hNs hN0 hlen hcons
  go_enter Try.func7, Try.ntmps7
  go_wp2_with fail
  refine HV.out.mono ?_
  rintro e w2 ⟨rfl, hb⟩
  have HB2 := Aside0.mk (HB1.out.trans (hb.mono HB1.out.size))
  have HX2 := Aside0.mk (show OBL w2 w.heap.size (.slice A0 n c0) (.slice A1 m c1) from (hb.block _ (blk_lt HBX.out)).trans HBX.out)
  have HSZ2 := Aside0.mk (show w.heap.size < w2.heap.size from by have := hb.size; have h := blk_lt HBX.out; omega)
  have hx0 : w2.cell? ⟨w.heap.size, 0, none⟩ = some (.slice A0 n c0) := (blk_cell HX2.out 0).trans rfl
  have hx1 : w2.cell? ⟨w.heap.size, 1, none⟩ = some (.slice A1 m c1) := (blk_cell HX2.out 1).trans rfl
  clear hb
  go_upto_region 4 with (fail)
  have HG0 := Aside0.mk (show GS (w2.alloc (.cells #[] 30)) w.heap.size (.slice (some ⟨w2.heap.size, 0, none⟩) 0 0) [] from GS.nil HB2.out.size)
  have HB3 := Aside0.mk (show Below w.heap.size w (w2.alloc (.cells #[] 30)) from HB2.out.alloc HB2.out.size _)
  have HX3 := Aside0.mk (show OBL (w2.alloc (.cells #[] 30)) w.heap.size (.slice A0 n c0) (.slice A1 m c1) from blk_below HX2.out ((Below.refl _ w2).alloc (Nat.le_refl _) _))
  have HE3 := Aside0.mk (show (w2.alloc (.cells #[] 30)).heap[w2.heap.size]? = some (.cells #[] 30 (0, 0)) from blk_new w2 _)
  have HSZ3 := Aside0.mk (show w2.heap.size ≠ w.heap.size from by have := HSZ2.out; omega)
  have HSG := Aside0.mk (show w.heap.size < (w2.alloc (.cells #[] 30)).heap.size from by have := HSZ2.out; simp; omega)
  obtain ⟨g9, hg9⟩ : ∃ g9, g9 = w2.heap.size := ⟨_, rfl⟩
  rw [← hg9] at HG0 HE3 HSZ3 ⊢
  generalize w2.alloc (.cells #[] 30) = w3 at HG0 HB3 HX3 HE3 HSG ⊢
  clear hx0 hx1 hg9 HSZ2 HX2 HB2
  have hx0 : w3.cell? ⟨w.heap.size, 0, none⟩ = some (.slice A0 n c0) := (blk_cell HX3.out 0).trans rfl
  have hx1 : w3.cell? ⟨w.heap.size, 1, none⟩ = some (.slice A1 m c1) := (blk_cell HX3.out 1).trans rfl
  go_wp2_with fail
  have hcall := raised_walk w3 A0 c0 (N0 :: Ns) A1 c1 D 1 1 (by rw [← HN.out]; exact lv_CS_below HR.out (HB3.out)) (by rw [← HM.out]; exact lv_C_below HD.out HB3.out) HVD.out HLS.out HOK.out.dl
  rw [← HN.out, ← HM.out] at hcall
  refine hcall.mono ?_
  clear hcall
  rintro e w4 ⟨A, k, rfl, hk, ⟨xs, hC, hP, hNd⟩, hb4⟩
  obtain ⟨ad, hA, hc1, hc2⟩ := pair_at2 hC 0 (by omega)
  cases hA
  have hN0 := hNd 0 (by omega)
  have hpl2 := hP A rfl
  obtain ⟨x1, x2, hxx⟩ : ∃ x1 x2, xs.getD 0 pD = (x1, x2) := ⟨_, _, rfl⟩
  rw [hxx] at hc1 hc2 hN0
  obtain ⟨A9, k9, xs9, e, h1, hC9, ho9, hx9⟩ := hN0
  obtain ⟨rfl, rfl⟩ : x1 = .int .i64 0 ∧ x2 = .slice A9 (N0.getD 0 0) k9 := by
    injection e with e
    have e2 := congrArg Array.toList e
    simp at e2
    exact ⟨e2.1, by simpa [List.getD_eq_getElem?_getD] using e2.2⟩
  have hc1' : w4.cell? A = some (.int .i64 0) := by
    rw [hpl2.add] at hc1
    have e : A = ⟨A.block, A.off + 0 * 2, none⟩ := by rw [Nat.zero_mul, Nat.add_zero]; exact hpl2
    rw [e]; exact hc1
  have hc2' : w4.cell? ⟨A.block, A.off + 1, none⟩ = some (.slice A9 (N0.getD 0 0) k9) := by
    rw [hpl2.add] at hc2
    rw [Nat.zero_mul, Nat.zero_add] at hc2
    exact hc2
  obtain ⟨nn, hnn⟩ : ∃ nn, nn = N0.getD 0 0 := ⟨_, rfl⟩
  rw [← hnn] at hc2' h1 hC9 ho9 hx9
  have HNN := Aside0.mk hnn
  have HC9 := Aside0.mk hC9
  have HO9 := Aside0.mk ho9
  have HX9 := Aside0.mk hx9
  have HN4 := Aside0.mk (show nn ≤ 400 from by
    rw [hnn, List.getD_eq_getElem?_getD]
    cases hi : N0[0]? with
    | none => exact Nat.zero_le _
    | some q => exact HL4.out N0 List.mem_cons_self q (List.mem_of_getElem? hi))
  have HX4 := Aside0.mk (show OBL w4 w.heap.size (.slice A0 n c0) (.slice A1 m c1) from (hb4.block _ (blk_lt HX3.out)).trans HX3.out)
  have HB4 := Aside0.mk (HB3.out.trans (hb4.mono HB3.out.size))
  have HG4 := Aside0.mk (HG0.out.below hb4)
  have HE4 := Aside0.mk (show w4.heap[g9]? = some (.cells #[] 30 (0, 0)) from blk_below HE3.out hb4)
  have HSG4 := Aside0.mk (show w.heap.size < w4.heap.size from by have := HSG.out; have := hb4.size; omega)
  have HW4 := Aside0.mk (show KB w4 w4 g9 from ⟨Nat.le_refl _, fun _ _ => rfl⟩)
  clear hC hP hNd hc1 hc2 hpl2 hxx hx0 hx1 hb4 hk e hnn h1 hC9 ho9 hx9
  have hnn0 : nn ≤ 400 := HN4.out
  obtain ⟨F, hF⟩ : ∃ F : Nat → List (List Int) × List Int, F = fun c => ldA Ns D ((N0.take 0).sum + c) := ⟨_, rfl⟩
  have HF := Aside0.mk hF
  clear hF
  go_wp2_with fail
  go_loopg [4, 23] nn (fun kq v4 v23 w' => ∃ i : Nat, v23 = .int .i64 (i : Int) ∧ Aside0 (kq + i = nn) ∧ Aside0 (GS w' w.heap.size v4 ((List.range i).map F)) ∧ Aside0 (Below w.heap.size w w') ∧ Aside0 (KB w4 w' g9) ∧ Aside0 (∀ k, v4.ownBlock = some k → k = g9 ∨ w4.heap.size ≤ k) ∧ Aside0 (OBL w' w.heap.size (.slice A0 n c0) (.slice A1 m c1)))
  case atStart => exact ⟨0, rfl, ⟨by omega⟩, HG4, HB4, HW4, ⟨fun k hk => .inl (by simpa [Value.ownBlock] using hk.symm)⟩, HX4⟩
  case round =>
    obtain ⟨i, rfl, HI, HG, HB, HW, HON, HX⟩ := hrel
    by_cases hi : i < nn
    · have h1 : (i : Int) < (nn : Int) := by omega
      have h0 : (0 : Int) ≤ (i : Int) := by omega
      obtain ⟨ad, rfl, hc1, hc2⟩ := pair_at2 (pair_move HC9.out (fun ad ha hp => HW.out.2 _ (pair_ne HC9.out HE4.out ad ha hp))) i hi
      have hNd := nd_kb HE4.out HW.out (HX9.out i hi)
      obtain ⟨x1, x2, hxx⟩ : ∃ x1 x2, xs9.getD i pD = (x1, x2) := ⟨_, _, rfl⟩
      rw [hxx] at hc1 hc2 hNd
      have hpl2 := (HO9.out ad rfl (by omega)).2
      have hc2' : wr.cell? ⟨(ad.add (i * 2)).block, (ad.add (i * 2)).off + 1, none⟩ = some x2 := by
        rw [hpl2.add] at hc2 ⊢
        exact hc2
      clear hpl2
      obtain ⟨z9, A8, n8, k8, e1, e2⟩ := nd_form (show Nd wr (fun _ => True) Ns D _ (.agg #[x1, x2]) from hNd)
      subst e1
      subst e2
      have HND := Aside0.mk hNd
      have HH := Aside0.mk hi
      have HWR := Aside0.mk (show wrap64 ((i : Int) + 1) = ((i + 1 : Nat) : Int) from by rw [wrap64]; omega)
      have hx0 : wr.cell? ⟨w.heap.size, 0, none⟩ = some (.slice A0 n c0) := (blk_cell HX.out 0).trans rfl
      clear hi hxx hNd hnn0
      go_upto_region 7 with (fail)
      have hbA : Below wr.heap.size wr (wr.alloc (.cells #[.int .i64 z9, .slice A8 n8 k8] 45)) := (Below.refl _ _).alloc (Nat.le_refl _) _
      have HX5 := Aside0.mk (show OBL (wr.alloc (.cells #[.int .i64 z9, .slice A8 n8 k8] 45)) w.heap.size (.slice A0 n c0) (.slice A1 m c1) from blk_below HX.out hbA)
      have HO5 := Aside0.mk (show OA (wr.alloc (.cells #[.int .i64 z9, .slice A8 n8 k8] 45)) wr.heap.size (.int .i64 z9) (.slice A8 n8 k8) from blk_new wr _)
      have HG5 := Aside0.mk (HG.out.below hbA)
      have HB5 := Aside0.mk (HB.out.trans (hbA.mono HB.out.size))
      have HW5 := Aside0.mk (HW.out.below hbA)
      have HN5 := Aside0.mk (nd_below hbA _ _ _ _ HND.out)
      obtain ⟨g5, hg5⟩ : ∃ g5, g5 = wr.heap.size := ⟨_, rfl⟩
      rw [← hg5] at HO5 ⊢
      generalize wr.alloc (.cells #[.int .i64 z9, .slice A8 n8 k8] 45) = W5 at HX5 HO5 HG5 HB5 HW5 HN5 ⊢
      clear hbA hg5 hx0 hc1 hc2 hc2' HX HG HB HW HND
      have hx0 : W5.cell? ⟨w.heap.size, 0, none⟩ = some (.slice A0 n c0) := (blk_cell HX5.out 0).trans rfl
      have hy0 : W5.cell? ⟨g5, 0, none⟩ = some (.int .i64 z9) := (blk_cell HO5.out 0).trans rfl
      have hy1 : W5.cell? ⟨g5, 1, none⟩ = some (.slice A8 n8 k8) := (blk_cell HO5.out 1).trans rfl
      have hx7 : (W5.alloc (.cells #[.int .i64 z9, .slice A8 n8 k8] 45)).cell? ⟨w.heap.size, 0, none⟩ = some (.slice A0 n c0) := cell?_keep_alloc _ _ _ _ hx0
      go_wp2_with fail
      rw [HWD.out]
      have hb7 : Below W5.heap.size W5 (W5.alloc (.cells #[.int .i64 z9, .slice A8 n8 k8] 45)) := (Below.refl _ _).alloc (Nat.le_refl _) _
      have HX7 := Aside0.mk (show OBL (W5.alloc (.cells #[.int .i64 z9, .slice A8 n8 k8] 45)) w.heap.size (.slice A0 n c0) (.slice A1 m c1) from blk_below HX5.out hb7)
      have HP7 := Aside0.mk (show OA (W5.alloc (.cells #[.int .i64 z9, .slice A8 n8 k8] 45)) W5.heap.size (.int .i64 z9) (.slice A8 n8 k8) from blk_new W5 _)
      have HG7 := Aside0.mk (HG5.out.below hb7)
      have HB7 := Aside0.mk (HB5.out.trans (hb7.mono HB5.out.size))
      have HW7 := Aside0.mk (HW5.out.below hb7)
      have HN7 := Aside0.mk (nd_below hb7 _ _ _ _ HN5.out)
      clear hx7 hb7 HX5 HG5 HB5 HW5 HN5 HO5 hx0 hy0 hy1
      obtain ⟨g7, hg7⟩ : ∃ g7, g7 = W5.heap.size := ⟨_, rfl⟩
      rw [← hg7] at HP7 ⊢
      generalize W5.alloc (.cells #[.int .i64 z9, .slice A8 n8 k8] 45) = W7 at HX7 HP7 HG7 HB7 HW7 HN7 ⊢
      clear hg7
      refine (laid_walk W7 g7 z9 A8 n8 k8 Ns.length Ns D _ rfl HLL.out HP7.out HN7.out HL44.out).mono ?_
      rintro e w8 ⟨gL, cL, vD, rfl, hgL, hcL, hc3, hLS, hb8⟩
      obtain ⟨AD, kD, hvD, _, _⟩ := Kd.R_reads hLS.choose_spec.choose_spec.2.2.2
      obtain ⟨eD, heD⟩ : ∃ eD, eD = (ldA Ns D ((N0.take 0).sum + i)).2.length := ⟨_, rfl⟩
      rw [← heD] at hvD
      subst hvD
      have HX8 := Aside0.mk (show OBL w8 w.heap.size (.slice A0 n c0) (.slice A1 m c1) from blk_below HX7.out hb8)
      have HB8 := Aside0.mk (HB7.out.trans (hb8.mono HB7.out.size))
      have HW8 := Aside0.mk (HW7.out.below hb8)
      obtain ⟨f, ps, hl, hRp, hxs⟩ := HG7.out
      have hlx : ((List.range i).map F).length = i := by rw [List.length_map, List.length_range]
      obtain ⟨f', hf', hlay⟩ := LayV.of (base := w.heap.size) (i := i) hLS HB7.out.size (Nat.le_trans HB7.out.size hgL) (ldA_len Ns D _).symm hcL (by unfold maxLen; omega) f
      have hxs8 : ∀ q, q < ((List.range i).map F).length → LayV w8 w.heap.size f' q (ps.getD q pD).1 (ps.getD q pD).2 (((List.range i).map F).getD q ([], [])).1 (((List.range i).map F).getD q ([], [])).2 := fun q hq => ((hxs q hq).recol hf').keep (fun k cs t hk _ => hb8.block k (blk_lt hk))
      have HLP := Aside0.mk hl
      have HLP4 := Aside0.mk (show ps.length ≤ 400 from by have h3 := HH.out; have h4 := HN4.out; omega)
      have HRP := Aside0.mk (Kd.R_below hRp hb8)
      have HXS := Aside0.mk hxs8
      have HLAY := Aside0.mk hlay
      have HLI := Aside0.mk hlx
      clear hgL hcL hc3 hLS hb8 hl hRp hxs hxs8 hlay hlx hf' HX7 HP7 HG7 HB7 HW7 HN7 heD
      go_wp2_with (first | ((with_reducible refine gate_builtin (b := .append) (xs := #[.tmp 27, .tmp 35]) rfl ?_); at_builtin; refine Kd.R_append kPair (w0 := w) w.heap.size rfl (.tmp 27) (.tmp 35) 27 30 (.agg #[.slice none 0 0, .slice none 0 0]) 48 rfl Try.underlying27 layout_info rfl (by decide) (by omega) _ ps (.slice (some ⟨gL, 0, none⟩) Ns.length cL, .slice AD eD kD) [.slice (some ⟨gL, 0, none⟩) Ns.length cL, .slice AD eD kD] (fun _ => True) (fun _ => False) rfl ?aX ?aP (fun _ hk => hk.elim) ?aF ?aO ?aB ?aS ?aL ?_; (case aX => first | rfl | (simp [Act.eval]; done)); (case aP => exact pair_M _ _ _ _ _ rfl rfl); (case aF => exact fun _ _ => trivial); (case aO => exact HRP.out); (case aB => exact HB8.out); (case aS => exact HB8.out.size); (case aL => have := HLP4.out; omega); intro v1 w9 ho hb9 hg9 hat9; have HR1 := Aside0.mk ho; have HB9 := Aside0.mk hb9; have HGR := Aside0.mk hg9; have HAT := Aside0.mk hat9; clear ho hb9 hg9 hat9))
      have HG9 := Aside0.mk (show GS w9 w.heap.size v1 ((List.range i).map F ++ [F i]) from GS.snoc HLP.out HRP.out HXS.out (by rw [HLI.out, HF.out]; exact HLAY.out) HR1.out HGR.out)
      have HSW9 : w8.heap.size ≤ w9.heap.size := HGR.out.size
      have HW9 := Aside0.mk (show KB w4 w9 g9 from HW8.out.grown HGR.out HSW9 HON.out)
      have HX9 := Aside0.mk (show OBL w9 w.heap.size (.slice A0 n c0) (.slice A1 m c1) from blk_grown HX8.out HGR.out (fun e => by
        have h1 := HON.out _ e.symm
        have h2 := HSG4.out
        have h3 := HSZ3.out
        omega))
      have HON9 := Aside0.mk (show ∀ k, v1.ownBlock = some k → k = g9 ∨ w4.heap.size ≤ k from fun k hk => by
        rcases HAT.out with e | ⟨b, e, hb⟩
        · exact HON.out k (Eq.trans e.symm hk)
        · rw [e] at hk
          cases hk
          exact .inr (Nat.le_trans HW8.out.1 hb))
      go_roundg (gk - 1)
      case measure => have := HI.out; have := HH.out; omega
      case rel =>
        refine ⟨i + 1, by rw [HWR.out], ⟨by have := HI.out; have := HH.out; omega⟩, ⟨?_⟩, HB9, HW9, HON9, HX9⟩
        rw [List.range_succ, List.map_append]
        exact HG9.out
    · have h1 : (nn : Int) ≤ (i : Int) := by omega
      have HE := Aside0.mk (show i = nn from by have := HI.out; omega)
      clear hi hnn0
      go_wp2_with fail
      go_ret2
      refine ⟨_, rfl, ?_, HB.out⟩
      have h2 := HG.out
      rw [HE.out] at h2
      rw [HINZ.out, ← HNN.out, ← HF.out]
      exact h2
end Go.Proofs.YtlakjonnkggomaaW.PrintMore
