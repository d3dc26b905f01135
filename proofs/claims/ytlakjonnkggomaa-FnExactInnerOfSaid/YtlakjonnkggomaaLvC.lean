/-
  The reference's next and l2Fold: the arrays of a layout.
-/
import Derived.Test.YtlakjonnkggomaaLvB
import Derived.Test.YtlakjonnkggomaaWLast
namespace Go.Proofs.YtlakjonnkggomaaW.PrintMore
set_option linter.unusedVariables false
set_option linter.unusedSimpArgs false
open Go.Proofs Go.Deep
open Go.RowKit Go.Proofs.YtlakjonnkggomaaW.PrintWords Go.Proofs.YtlakjonnkggomaaW.PrintLast Go.Proofs.YtlakjonnkggomaaW.PrintMore
/-- An array of a level (by its place) as an element of a row. -/
def kNd (T : Nat) (Ls : List (List Nat)) (D : List Int) : Kd Nat where
  sz := 2
  E := [T]
  K := fun w a cs => ∃ u0 u1, cs = [u0, u1] ∧ u0.oneCell' = true ∧ u1.oneCell' = true ∧ NdT w Ls D a (.agg #[u0, u1])
  M := fun w base ok a cs => ∃ u0 u1, cs = [u0, u1] ∧ u0.oneCell' = true ∧ u1.oneCell' = true ∧ Nd w (fun k => ok k ∧ base ≤ k ∧ ∃ cells, w.heap[k]? = some (.cells cells T (0, 0))) Ls D a (.agg #[u0, u1])
  K_len := by rintro w x cs ⟨u0, u1, rfl, _⟩; rfl
  K_one := by
    rintro w x cs ⟨u0, u1, rfl, h1, h2, _⟩ u hu
    simp at hu
    rcases hu with rfl | rfl
    · exact h1
    · exact h2
  K_below := fun hb ⟨u0, u1, h1, h2, h3, h4⟩ => ⟨u0, u1, h1, h2, h3, nd_below hb _ _ _ _ h4⟩
  K_of_M := fun ⟨u0, u1, h1, h2, h3, h4⟩ => ⟨u0, u1, h1, h2, h3, nd_mono (fun _ _ _ => trivial) _ _ _ _ h4⟩
  M_mono := fun hk ⟨u0, u1, h1, h2, h3, h4⟩ => ⟨u0, u1, h1, h2, h3, nd_mono (fun k _ h => ⟨hk k h.1, h.2⟩) _ _ _ _ h4⟩
  M_bound := fun ⟨u0, u1, h1, h2, h3, h4⟩ => ⟨u0, u1, h1, h2, h3, nd_mono (fun k hl h => ⟨⟨h.1, h.2.1, hl, T, List.mem_singleton.2 rfl, h.2.2⟩, h.2⟩) _ _ _ _ h4⟩
  M_move := fun hm ⟨u0, u1, h1, h2, h3, h4⟩ => ⟨u0, u1, h1, h2, h3, nd_mono (fun k _ h => ⟨h.1, h.2.1, by obtain ⟨cells, hc⟩ := h.2.2; exact ⟨cells, (hm k h.1).trans hc⟩⟩) _ _ _ _ (nd_move (fun k h => hm k h.1) _ _ _ _ h4)⟩
  M_lower := fun hb ⟨u0, u1, h1, h2, h3, h4⟩ => ⟨u0, u1, h1, h2, h3, nd_mono (fun k _ h => ⟨h.1, Nat.le_trans hb h.2.1, h.2.2⟩) _ _ _ _ h4⟩
/-- The reference's reader of a layout. -/
def FB (W : World) (b : Nat) (vL vD : Value) (p : Nat → Nat) : Prop := W.heap[b]? = some (.cells #[vL, vD, .int .i64 (p 0 : Int), .int .i64 (p 1 : Int), .int .i64 (p 2 : Int), .int .i64 (p 3 : Int)] 62 (0, 0))
theorem FB.at {W : World} {b : Nat} {vL vD : Value} {p : Nat → Nat} (h : FB W b vL vD p) (k : Nat) (hk : k < 4) : W.cell? ⟨b, 2 + k, none⟩ = some (.int .i64 (p k : Int)) := by
  have h1 := blk_cell h (2 + k)
  have : k = 0 ∨ k = 1 ∨ k = 2 ∨ k = 3 := by omega
  rcases this with rfl | rfl | rfl | rfl <;> exact h1
theorem FB.frz {W : World} {b : Nat} {vL vD : Value} {p : Nat → Nat} (h : FB W b vL vD p) (k : Nat) : W.frozen? ⟨b, k, none⟩ = false := blk_frozen h k
theorem FB.lt {W : World} {b : Nat} {vL vD : Value} {p : Nat → Nat} (h : FB W b vL vD p) : b < W.heap.size := blk_lt h
theorem FB.move {W W' : World} {b : Nat} {vL vD : Value} {p : Nat → Nat} (h : FB W b vL vD p) (hm : W'.heap[b]? = W.heap[b]?) : FB W' b vL vD p := hm.trans h
def bump (p : Nat → Nat) (k : Nat) : Nat → Nat := fun j => if j = k then p k + 1 else p j
theorem FB.bump {W : World} {b : Nat} {vL vD : Value} {p : Nat → Nat} (h : FB W b vL vD p) (k : Nat) (hk : k < 4) : FB (W.setCell ⟨b, 2 + k, none⟩ (.int .i64 ((p k + 1 : Nat) : Int))) b vL vD (bump p k) := by
  have h1 := blk_put h (2 + k) (.int .i64 ((p k + 1 : Nat) : Int)) rfl
  have : k = 0 ∨ k = 1 ∨ k = 2 ∨ k = 3 := by omega
  rcases this with rfl | rfl | rfl | rfl <;> exact h1
/-- What the reader has read fits: each level's next array is the first part of the level above's next one. -/
def Al (Ls : List (List Nat)) (p : Nat → Nat) (lev : Nat) : Prop := ∀ k, lev ≤ k → k < Ls.length → p (k + 1) = ((Ls.getD k []).take (p k)).sum
theorem node_info : (Try.prog.info? 52).map (fun i => (i.zero, i.size, i.bytes)) = some (some (.agg #[.int .i64 0, .slice none 0 0]), 2, 32) := by kernel_rfl
theorem node_size : (Try.prog.info? 52).map (·.size) = some 2 := by kernel_rfl
theorem keep_far {w w' : World} {b g j : Nat} (h : KeepBut w w' b none) (hg : w.heap.size ≤ g) (u : Value) : KeepBut w (w'.setCell ⟨g, j, none⟩ u) b none :=
  ⟨by simpa [World.setCell] using h.1, fun i hi h1 h2 => (Below.heap_setCell w' ⟨g, j, none⟩ u i (by show i ≠ g; omega)).trans (h.2 i hi h1 h2)⟩
/-- The variable that next builds. -/
def OB (W : World) (o : Nat) (a b : Value) : Prop := W.heap[o]? = some (.cells #[a, b] 52 (0, 0))

theorem Kd.S_head2 {T base : Nat} {ok : Nat → Prop} {W : World} {ad : Addr} {n cap : Nat} {xs : List (Value × Value)} (h : Kd.R kPair T W base ok (.slice (some ad) n cap) xs) : ∃ g, ad = ⟨g, 0, none⟩ := by
  obtain ⟨_, inner, ho, hr⟩ := h
  rcases ho.2 with ⟨hv, _⟩ | ⟨g, cap', cur, hv, _⟩
  · cases hv
  · injection hv with h1 _ _
    exact ⟨g, Option.some.inj h1⟩
/-- A row of arrays, cell for cell. -/
theorem nd_of_row {W : World} {base T : Nat} {ok : Nat → Prop} {v : Value} {idx : List Nat} {Ls : List (List Nat)} {D : List Int} (h : Kd.R (kNd T Ls D) T W base ok v idx) :
    ∃ xs : List (Value × Value), Kd.R kPair T W base ok v xs ∧ xs.length = idx.length ∧ ∀ j, j < idx.length → Nd W (fun k => (ok k ∧ some k ≠ v.ownBlock) ∧ base ≤ k ∧ ∃ cells, W.heap[k]? = some (.cells cells T (0, 0))) Ls D (idx.getD j 0) (ndP (xs.getD j pD)) := by
  obtain ⟨h0, inner, ho, hr⟩ := h
  have hl := hr.1
  let f : Nat → Value × Value := fun j => (inner.getD (j * 2) (.int .i64 0), inner.getD (j * 2 + 1) (.int .i64 0))
  have hlen : ((List.range idx.length).map f).length = idx.length := by rw [List.length_map, List.length_range]
  have hget : ∀ j, j < idx.length → ((List.range idx.length).map f)[j]? = some (f j) := fun j hj => by rw [List.getElem?_map, List.getElem?_range hj]; rfl
  have hat : ∀ j (hj : j < idx.length), ∃ u0 u1, (inner.drop (j * 2)).take 2 = [u0, u1] ∧ u0.oneCell' = true ∧ u1.oneCell' = true ∧ f j = (u0, u1) ∧ Nd W (fun k => (ok k ∧ some k ≠ v.ownBlock) ∧ base ≤ k ∧ ∃ cells, W.heap[k]? = some (.cells cells T (0, 0))) Ls D (idx.getD j 0) (.agg #[u0, u1]) := by
    intro j hj
    obtain ⟨u0, u1, h1, h2, h3, h4⟩ := hr.2 j _ (List.getElem?_eq_getElem hj)
    have e : idx.getD j 0 = idx[j] := by rw [List.getD_eq_getElem?_getD, List.getElem?_eq_getElem hj]; rfl
    refine ⟨u0, u1, h1, h2, h3, ?_, by rw [e]; exact h4⟩
    have h1' : (inner.drop (j * 2)).take 2 = [u0, u1] := h1
    have h5 : inner[j * 2]? = some u0 := by have := congrArg (·[0]?) h1'; simpa [List.getElem?_take, List.getElem?_drop] using this
    have h6 : inner[j * 2 + 1]? = some u1 := by have := congrArg (·[1]?) h1'; simpa [List.getElem?_take, List.getElem?_drop] using this
    show (inner.getD (j * 2) _, inner.getD (j * 2 + 1) _) = (u0, u1)
    rw [List.getD_eq_getElem?_getD, h5, List.getD_eq_getElem?_getD, h6]; rfl
  refine ⟨(List.range idx.length).map f, ⟨h0, inner, by rw [hlen]; exact ho, by rw [hlen]; exact hl, fun j q hj => ?_⟩, hlen, fun j hj => ?_⟩
  · have hjl : j < idx.length := by have := (List.getElem?_eq_some_iff.1 hj).1; rw [hlen] at this; exact this
    rw [hget j hjl] at hj
    obtain rfl := Option.some.inj hj
    obtain ⟨u0, u1, h1, h2, h3, h4, _⟩ := hat j hjl
    rw [h4]
    exact ⟨h1, h2, h3⟩
  · obtain ⟨u0, u1, h1, h2, h3, h4, h5⟩ := hat j hj
    have e3 : ((List.range idx.length).map f).getD j pD = f j := by rw [List.getD_eq_getElem?_getD, hget j hj]; rfl
    rw [e3, h4]
    exact h5
def NXr (w0 : World) (Ls : List (List Nat)) (D : List Int) (b : Nat) (vL vD : Value) (lev : Nat) (p : Nat → Nat) (w : World) (e : Ending) (w' : World) : Prop :=
  ∃ u0 u1 p', e = .returned (.agg #[u0, u1]) ∧ u0.oneCell' = true ∧ u1.oneCell' = true ∧ Nd w' (fun k => w.heap.size ≤ k ∧ ∃ cells, w'.heap[k]? = some (.cells cells 52 (0, 0))) (Ls.drop lev) D (p lev) (.agg #[u0, u1]) ∧
    FB w' b vL vD p' ∧ Al Ls p' lev ∧ p' lev = p lev + 1 ∧ (∀ k, k < lev → p' k = p k) ∧ KeepBut w w' b none ∧ Below w0.heap.size w0 w'
set_option maxHeartbeats 16000000 in
set_option maxRecDepth 100000 in
theorem next_leaf (w0 w : World) (b : Nat) (A0 : Option Addr) (n c0 : Nat) (Ls : List (List Nat)) (A1 : Option Addr) (m c1 : Nat) (D : List Int) (Lx : List (List Nat)) (lev : Nat) (p : Nat → Nat) (hn : n = Ls.length) (hm : m = D.length) (hm1 : m ≤ 1048576) (hl : lev = n) (hn3 : n ≤ 3)
    (hd : Kd.C (Kd.int .i64) w0 A1 m D) (hB : Below w0.heap.size w0 w) (hg : w0.heap.size ≤ b) (hF : FB w b (.slice A0 n c0) (.slice A1 m c1) p) (hp : p lev < m) :
    Calls Try.prog 35 #[.pointer (some ⟨b, 0, none⟩), .int .i64 (lev : Int)] w fun e w' => NXr w0 Ls D b (.slice A0 n c0) (.slice A1 m c1) lev p w e w' := by
  have huf := Try.underlying62
  have hul := Try.underlying30
  have hun := Try.underlying52
  have hua := Try.underlying60
  have HF := Aside0.mk hF
  have HB := Aside0.mk hB
  have HG := Aside0.mk hg
  have HP := Aside0.mk hp
  have HD := Aside0.mk hd
  have HLV := Aside0.mk (And.intro hl (And.intro hn3 hn))
  have HM := Aside0.mk (And.intro hm hm1)
  have HBL := Aside0.mk hF.lt
  have HAL := Aside0.mk (show p lev < 1048576 by omega)
  clear hd hB hg hF hp hl hn3 hn hm hm1
  go_enter Try.func35, Try.ntmps35
  go_upto_region 2 with (fail)
  have HFA := Aside0.mk (show FB (((w.alloc (.cells #[.int .i64 0, .slice none 0 0] 52)).alloc (.cells #[] 52)).alloc (.cells #[.int .i64 0, .slice (some ⟨w.heap.size + 1, 0, none⟩) 0 0] 52)) b (.slice A0 n c0) (.slice A1 m c1) p from blk_alloc (blk_alloc (blk_alloc HF.out _) _) _)
  have HOA := Aside0.mk (show OB (((w.alloc (.cells #[.int .i64 0, .slice none 0 0] 52)).alloc (.cells #[] 52)).alloc (.cells #[.int .i64 0, .slice (some ⟨w.heap.size + 1, 0, none⟩) 0 0] 52)) (w.heap.size + 1 + 1) (.int .i64 0) (.slice (some ⟨w.heap.size + 1, 0, none⟩) 0 0) from by
    have h := blk_new ((w.alloc (.cells #[.int .i64 0, .slice none 0 0] 52)).alloc (.cells #[] 52)) (.cells #[.int .i64 0, .slice (some ⟨w.heap.size + 1, 0, none⟩) 0 0] 52)
    have e : ((w.alloc (.cells #[.int .i64 0, .slice none 0 0] 52)).alloc (.cells #[] 52)).heap.size = w.heap.size + 1 + 1 := by simp
    rw [e] at h
    exact h)
  have HRA := Aside0.mk (show OB (((w.alloc (.cells #[.int .i64 0, .slice none 0 0] 52)).alloc (.cells #[] 52)).alloc (.cells #[.int .i64 0, .slice (some ⟨w.heap.size + 1, 0, none⟩) 0 0] 52)) w.heap.size (.int .i64 0) (.slice none 0 0) from blk_alloc (blk_alloc (blk_new w _) _) _)
  have HEA := Aside0.mk (show Kd.R (kNd 52 Lx D) 52 (((w.alloc (.cells #[.int .i64 0, .slice none 0 0] 52)).alloc (.cells #[] 52)).alloc (.cells #[.int .i64 0, .slice (some ⟨w.heap.size + 1, 0, none⟩) 0 0] 52)) w.heap.size (fun k => k ≠ w.heap.size ∧ k ≠ w.heap.size + 1 + 1 ∧ k ≠ b) (.slice (some ⟨w.heap.size + 1, 0, none⟩) 0 0) [] from by
    refine ⟨fun k hk => ?_, [], ⟨rfl, .inr ⟨w.heap.size + 1, 0, #[], rfl, by omega, blk_alloc ?_ _, Nat.le_refl _, by unfold maxLen; omega, rfl, rfl⟩⟩, rfl, fun j p hj => by cases hj⟩
    · have : w.heap.size + 1 = k := Option.some.inj hk
      have := HBL.out
      omega
    · have h := blk_new (w.alloc (.cells #[.int .i64 0, .slice none 0 0] 52)) (.cells #[] 52)
      have e : (w.alloc (.cells #[.int .i64 0, .slice none 0 0] 52)).heap.size = w.heap.size + 1 := by simp
      rw [e] at h
      exact h)
  have HBA := Aside0.mk (show Below w0.heap.size w0 (((w.alloc (.cells #[.int .i64 0, .slice none 0 0] 52)).alloc (.cells #[] 52)).alloc (.cells #[.int .i64 0, .slice (some ⟨w.heap.size + 1, 0, none⟩) 0 0] 52)) from ((HB.out.alloc HB.out.size _).alloc (HB.out.alloc HB.out.size _).size _).alloc ((HB.out.alloc HB.out.size _).alloc (HB.out.alloc HB.out.size _).size _).size _)
  have HKA := Aside0.mk (show KeepBut w (((w.alloc (.cells #[.int .i64 0, .slice none 0 0] 52)).alloc (.cells #[] 52)).alloc (.cells #[.int .i64 0, .slice (some ⟨w.heap.size + 1, 0, none⟩) 0 0] 52)) b none from keep_alloc (keep_alloc (keep_alloc (KeepBut.refl _ _ _) _) _) _)
  have HSA := Aside0.mk (show (((w.alloc (.cells #[.int .i64 0, .slice none 0 0] 52)).alloc (.cells #[] 52)).alloc (.cells #[.int .i64 0, .slice (some ⟨w.heap.size + 1, 0, none⟩) 0 0] 52)).heap.size = w.heap.size + 3 from by simp)
  generalize (((w.alloc (.cells #[.int .i64 0, .slice none 0 0] 52)).alloc (.cells #[] 52)).alloc (.cells #[.int .i64 0, .slice (some ⟨w.heap.size + 1, 0, none⟩) 0 0] 52)) = WA at HFA HOA HRA HEA HBA HKA HSA ⊢
  obtain ⟨a, ha⟩ : ∃ a, a = p lev := ⟨_, rfl⟩
  have HA := Aside0.mk ha
  have l0 : (0 : Int) ≤ (lev : Int) := by omega
  have l4 : (lev : Int) < 4 := by have := HLV.out; omega
  have l4n : lev < 4 := by have := HLV.out; omega
  have hat : WA.cell? ⟨b, 2 + lev, none⟩ = some (.int .i64 (a : Int)) := by rw [ha]; exact HFA.out.at lev l4n
  clear ha
  go_upto_region 3 with (fail)
  refine start_ (n := 11) (S := fun w' => w'.cell? ⟨b, 2 + lev, none⟩ = some (.int .i64 (a : Int))) (ds := [10]) #[false, false, false, false, false, false, false, false, false, false, false] (by kernel_rfl) rfl rfl hat (fun hHeld => ?_)
  have HFB := Aside0.mk (show FB WA.drew b (.slice A0 n c0) (.slice A1 m c1) p from blk_drew HFA.out)
  have HOB := Aside0.mk (show OB WA.drew (w.heap.size + 1 + 1) (.int .i64 0) (.slice (some ⟨w.heap.size + 1, 0, none⟩) 0 0) from blk_drew HOA.out)
  have HRB := Aside0.mk (show OB WA.drew w.heap.size (.int .i64 0) (.slice none 0 0) from blk_drew HRA.out)
  have HEB := Aside0.mk (Kd.R_drew HEA.out)
  have HBB := Aside0.mk (below_drew1 HBA.out)
  have HKB := Aside0.mk (keep_drew HKA.out)
  have HSB := Aside0.mk (show WA.drew.heap.size = w.heap.size + 3 from HSA.out)
  generalize WA.drew = WB at HFB HOB HRB HEB HBB HKB HSB hHeld ⊢
  clear HFA HOA HRA HEA HBA HKA HSA hat
  have hfz := HFB.out.frz (2 + lev)
  refine take_ (i := 0) (N := some 15) (v := ?_) (a' := ?_) #[true, false, false, false, false, false, false, false, false, false, false] rfl rfl (by kernel_rfl) (fun _ _ _ h => h) (Or.inl ⟨by rfl, ?_⟩) hHeld ?_ ?_
  rotate_left
  · rintro w' s0
    go_simp
    with_reducible rfl
  rotate_left
  · simp only [Act.put, List.setIfInBounds_toArray, List.set_cons_zero, List.set_cons_succ, i64_w, i32_w]
    rfl
  refine take_ (i := 1) (N := some 16) (v := ?_) (a' := ?_) #[true, true, false, false, false, false, false, false, false, false, false] rfl rfl (by kernel_rfl) (fun _ _ _ h => h) (Or.inl ⟨by rfl, ?_⟩) hHeld ?_ ?_
  rotate_left
  · rintro w' s0
    go_simp
    with_reducible rfl
  rotate_left
  · simp only [Act.put, List.setIfInBounds_toArray, List.set_cons_zero, List.set_cons_succ, i64_w, i32_w]
    rfl
  refine take_ (i := 2) (N := some 17) (v := ?_) (a' := ?_) #[true, true, true, false, false, false, false, false, false, false, false] rfl rfl (by kernel_rfl) (fun _ _ _ h => h) (Or.inl ⟨by rfl, ?_⟩) hHeld ?_ ?_
  rotate_left
  · rintro w' s0
    go_simp
    with_reducible rfl
  rotate_left
  · simp only [Act.put, List.setIfInBounds_toArray, List.set_cons_zero, List.set_cons_succ, i64_w, i32_w]
    rfl
  refine take_ (i := 3) (N := some 18) (v := ?_) (a' := ?_) #[true, true, true, true, false, false, false, false, false, false, false] rfl rfl (by kernel_rfl) (fun _ _ _ h => h) (Or.inl ⟨by rfl, ?_⟩) hHeld ?_ ?_
  rotate_left
  · rintro w' s0
    go_simp
    with_reducible rfl
  rotate_left
  · simp only [Act.put, List.setIfInBounds_toArray, List.set_cons_zero, List.set_cons_succ, i64_w, i32_w]
    rfl
  refine take_ (i := 4) (N := some 19) (v := ?_) (a' := ?_) #[true, true, true, true, true, false, false, false, false, false, false] rfl rfl (by kernel_rfl) (fun _ _ _ h => h) (Or.inl ⟨by rfl, ?_⟩) hHeld ?_ ?_
  rotate_left
  · rintro w' s0
    go_simp
    with_reducible rfl
  rotate_left
  · simp only [Act.put, List.setIfInBounds_toArray, List.set_cons_zero, List.set_cons_succ, i64_w, i32_w]
    rfl
  refine take_ (i := 5) (N := some 20) (v := ?_) (a' := ?_) #[true, true, true, true, true, true, false, false, false, false, false] rfl rfl (by kernel_rfl) (fun _ _ _ h => h) (Or.inl ⟨by rfl, ?_⟩) hHeld ?_ ?_
  rotate_left
  · rintro w' s0
    go_simp
    with_reducible rfl
  rotate_left
  · simp only [Act.put, List.setIfInBounds_toArray, List.set_cons_zero, List.set_cons_succ, i64_w, i32_w]
    rfl
  refine take_ (i := 6) (N := some 21) (v := ?_) (a' := ?_) #[true, true, true, true, true, true, true, false, false, false, false] rfl rfl (by kernel_rfl) (fun _ _ _ h => h) (Or.inl ⟨by rfl, ?_⟩) hHeld ?_ ?_
  rotate_left
  · rintro w' s0
    go_simp
    with_reducible rfl
  rotate_left
  · simp only [Act.put, List.setIfInBounds_toArray, List.set_cons_zero, List.set_cons_succ, i64_w, i32_w]
    rfl
  refine take_ (i := 7) (N := some 22) (v := ?_) (a' := ?_) #[true, true, true, true, true, true, true, true, false, false, false] rfl rfl (by kernel_rfl) (fun _ _ _ h => h) (Or.inl ⟨by rfl, ?_⟩) hHeld ?_ ?_
  rotate_left
  · rintro w' s0
    go_simp
    with_reducible rfl
  rotate_left
  · simp only [Act.put, List.setIfInBounds_toArray, List.set_cons_zero, List.set_cons_succ, i64_w, i32_w]
    rfl
  refine take_ (i := 8) (N := some 23) (v := ?_) (a' := ?_) #[true, true, true, true, true, true, true, true, true, false, false] rfl rfl (by kernel_rfl) (fun _ _ _ h => h) (Or.inl ⟨by rfl, ?_⟩) hHeld ?_ ?_
  rotate_left
  · rintro w' s0
    go_simp
    with_reducible rfl
  rotate_left
  · simp only [Act.put, List.setIfInBounds_toArray, List.set_cons_zero, List.set_cons_succ, i64_w, i32_w]
    rfl
  refine take_ (i := 9) (N := some 24) (v := ?_) (a' := ?_) #[true, true, true, true, true, true, true, true, true, true, false] rfl rfl (by kernel_rfl) (fun _ _ _ h => h) (Or.inl ⟨by rfl, ?_⟩) hHeld ?_ ?_
  rotate_left
  · rintro w' s0
    go_simp
    with_reducible rfl
  rotate_left
  · simp only [Act.put, List.setIfInBounds_toArray, List.set_cons_zero, List.set_cons_succ, i64_w, i32_w]
    rfl
  refine last_ (i := 10) (N := none) #[true, true, true, true, true, true, true, true, true, true, true] rfl rfl (by kernel_rfl) (by decide) (fun K hK => ?_)
  refine skip_ (w1 := ?_) (by rfl) rfl ?_ ?_
  rotate_left
  · go_simp
    rfl
  refine hK.out _ _ ?_
  clear hK K
  refine done_ (by kernel_rfl) ?_
  have HFC := Aside0.mk (show FB (WB.setCell ⟨b, 2 + lev, none⟩ (.int .i64 (wrap64 ((a : Int) + 1)))) b (.slice A0 n c0) (.slice A1 m c1) (bump p lev) from by
    have h := HFB.out.bump lev l4n
    rw [← HA.out] at h
    have e1 : wrap64 ((a : Int) + 1) = ((a + 1 : Nat) : Int) := by have := HAL.out; have := HA.out; rw [wrap64]; omega
    rw [e1]; exact h)
  have HOC := Aside0.mk (show OB (WB.setCell ⟨b, 2 + lev, none⟩ (.int .i64 (wrap64 ((a : Int) + 1)))) (w.heap.size + 1 + 1) (.int .i64 0) (.slice (some ⟨w.heap.size + 1, 0, none⟩) 0 0) from blk_far HOB.out (by have := HBL.out; show w.heap.size + 1 + 1 ≠ b; omega) _)
  have HRC := Aside0.mk (show OB (WB.setCell ⟨b, 2 + lev, none⟩ (.int .i64 (wrap64 ((a : Int) + 1)))) w.heap.size (.int .i64 0) (.slice none 0 0) from blk_far HRB.out (by have := HBL.out; show w.heap.size ≠ b; omega) _)
  have HEC := Aside0.mk (Kd.R_far HEB.out (p := ⟨b, 2 + lev, none⟩) (fun k hk => hk.2.2) (.int .i64 (wrap64 ((a : Int) + 1))))
  have HBC := Aside0.mk (show Below w0.heap.size w0 (WB.setCell ⟨b, 2 + lev, none⟩ (.int .i64 (wrap64 ((a : Int) + 1)))) from below_set HBB.out HG.out)
  have HKC := Aside0.mk (show KeepBut w (WB.setCell ⟨b, 2 + lev, none⟩ (.int .i64 (wrap64 ((a : Int) + 1)))) b none from KeepBut.set_ HKB.out _ _)
  have HSC := Aside0.mk (show (WB.setCell ⟨b, 2 + lev, none⟩ (.int .i64 (wrap64 ((a : Int) + 1)))).heap.size = w.heap.size + 3 from by first | (rw [World.setCell_size]; exact HSB.out) | simpa using HSB.out)
  generalize WB.setCell ⟨b, 2 + lev, none⟩ (.int .i64 (wrap64 ((a : Int) + 1))) = WC at HFC HOC HRC HEC HBC HKC HSC ⊢
  clear HFB HOB HRB HEB HBB HKB HSB hfz
  have cF0 : WC.cell? ⟨b, 0, none⟩ = some (.slice A0 n c0) := (blk_cell HFC.out 0).trans rfl
  have cF1 : WC.cell? ⟨b, 1, none⟩ = some (.slice A1 m c1) := (blk_cell HFC.out 1).trans rfl
  have cO0 : WC.cell? ⟨w.heap.size + 1 + 1, 0, none⟩ = some (.int .i64 0) := (blk_cell HOC.out 0).trans rfl
  have cO1 : WC.cell? ⟨w.heap.size + 1 + 1, 1, none⟩ = some (.slice (some ⟨w.heap.size + 1, 0, none⟩) 0 0) := (blk_cell HOC.out 1).trans rfl
  have cR0 : WC.cell? ⟨w.heap.size, 0, none⟩ = some (.int .i64 0) := (blk_cell HRC.out 0).trans rfl
  have cR1 : WC.cell? ⟨w.heap.size, 1, none⟩ = some (.slice none 0 0) := (blk_cell HRC.out 1).trans rfl
  have fO0 := blk_frozen HOC.out 0
  have fO1 := blk_frozen HOC.out 1
  have fR0 := blk_frozen HRC.out 0
  have fR1 := blk_frozen HRC.out 1
  have hle : ((lev : Int) == (n : Int)) = true := beq_iff_eq.2 (by have := HLV.out.1; omega)
  have a0 : (0 : Int) ≤ (a : Int) := by omega
  have a1 : (a : Int) < (m : Int) := by have := HA.out; have := HP.out; omega
  obtain ⟨adD, rfl, hcD⟩ := Kd.at_int (lv_C_below HD.out HBC.out) (a : Int) a0 a1
  obtain ⟨x, hx⟩ : ∃ x, x = D.getD a 0 := ⟨_, rfl⟩
  have hcD' : WC.cell? (adD.add a) = some (.int .i64 x) := by rw [hx]; simpa [rd] using hcD
  have HX := Aside0.mk hx
  clear hx hcD
  go_wp2
  have hr0 := HSC.out
  have hb0 := HBL.out
  have HR1 := blk_far HRC.out (p := ⟨w.heap.size + 1 + 1, 0, none⟩) (by show w.heap.size ≠ w.heap.size + 1 + 1; omega) (.int .i64 x)
  have HR2 := blk_put (blk_put HR1 0 (.int .i64 x) rfl) 1 (.slice (some ⟨w.heap.size + 1, 0, none⟩) 0 0) rfl
  refine bodyPost_ret (results_single rfl (.cell w.heap.size 52 _ (0, 0) _ rfl HR2 Try.underlying52 rfl node_size .nil)) rfl ?_
  refine ⟨_, _, bump p lev, rfl, rfl, rfl, ?_, ?_, ?_, ?_, ?_, ?_, ?_⟩
  · have hdr : Ls.drop lev = [] := List.drop_eq_nil_of_le (by have := HLV.out; omega)
    rw [hdr]
    exact ⟨some ⟨w.heap.size + 1, 0, none⟩, 0, by rw [← HA.out, ← HX.out]⟩
  · exact blk_far (blk_far (blk_far HFC.out (by show b ≠ w.heap.size + 1 + 1; omega) _) (by show b ≠ w.heap.size; omega) _) (by show b ≠ w.heap.size; omega) _
  · intro k h1 h2
    have := HLV.out
    omega
  · unfold bump; rw [if_pos rfl]
  · intro k hk
    unfold bump
    rw [if_neg (by omega)]
  · exact keep_far (keep_far (keep_far HKC.out (by omega) _) (Nat.le_refl _) _) (Nat.le_refl _) _
  · have h1 := HB.out.size
    exact below_set (below_set (below_set HBC.out (by omega)) (by omega)) (by omega)

/-- The indices of a node's parts. -/
def NXH (w0 : World) (Ls : List (List Nat)) (D : List Int) (b : Nat) (vL vD : Value) (d : Nat) : Prop := ∀ (lev : Nat) (p : Nat → Nat) (w : World), lev + d = Ls.length → FB w b vL vD p → Al Ls p lev → p lev < lv_cnt (Ls.drop lev) D → Below w0.heap.size w0 w →
  Calls Try.prog 35 #[.pointer (some ⟨b, 0, none⟩), .int .i64 (lev : Int)] w fun e w' => NXr w0 Ls D b vL vD lev p w e w'
set_option maxHeartbeats 32000000 in
set_option maxRecDepth 100000 in
theorem next_node (w0 w : World) (b : Nat) (A0 : Option Addr) (n c0 : Nat) (Ls : List (List Nat)) (vD : Value) (D : List Int) (lev d e : Nat) (p : Nat → Nat) (hn : n = Ls.length) (hlv : lev + (d + 1) = Ls.length) (hL3 : Lsz Ls) (hv : VdN e Ls D)
    (hr : Kd.C (Kd.slice 3 (Kd.int .i64)) w0 A0 n (Ls.map lv_nts)) (hB : Below w0.heap.size w0 w) (hg : w0.heap.size ≤ b) (hF : FB w b (.slice A0 n c0) vD p) (hA : Al Ls p lev) (hp : p lev < lv_cnt (Ls.drop lev) D) (hsm : ∀ L ∈ Ls, L.sum ≤ 1048576) (ih : NXH w0 Ls D b (.slice A0 n c0) vD d) :
    Calls Try.prog 35 #[.pointer (some ⟨b, 0, none⟩), .int .i64 (lev : Int)] w fun e w' => NXr w0 Ls D b (.slice A0 n c0) vD lev p w e w' := by
  have huf := Try.underlying62
  have hul := Try.underlying30
  have hun := Try.underlying52
  have hua := Try.underlying60
  have hll : lev < Ls.length := by omega
  obtain ⟨adr, hA0, _⟩ := hr.2.2 (by omega)
  subst hA0
  obtain ⟨L, hLd⟩ : ∃ L, L = Ls.getD lev [] := ⟨_, rfl⟩
  have hLm : L ∈ Ls := by rw [hLd, List.getD_eq_getElem?_getD, List.getElem?_eq_getElem hll]; exact List.getElem_mem _
  have hdr : Ls.drop lev = L :: Ls.drop (lev + 1) := by rw [List.drop_eq_getElem_cons hll, hLd, List.getD_eq_getElem?_getD, List.getElem?_eq_getElem hll]; rfl
  have HF := Aside0.mk hF
  have HB := Aside0.mk hB
  have HG := Aside0.mk hg
  have hpl : p lev < L.length := by rw [hdr] at hp; exact hp
  have HP := Aside0.mk hpl
  have HR := Aside0.mk hr
  have HIH := Aside0.mk ih
  have HLV := Aside0.mk (show lev < n ∧ n ≤ 3 from ⟨by omega, by rw [hn]; exact hL3.1⟩)
  have HN0 := Aside0.mk hn
  have HD1 := Aside0.mk hlv
  have HAl := Aside0.mk hA
  have HBL := Aside0.mk hF.lt
  have HAL := Aside0.mk (show p lev < 1048576 from by have := hL3.2 L hLm; omega)
  have HLd := Aside0.mk hLd
  have HDR := Aside0.mk hdr
  have HCN := Aside0.mk (show lv_cnt (Ls.drop (lev + 1)) D = L.sum from by rw [hLd]; exact vd_step hv lev hll)
  have HSM := Aside0.mk (hsm L hLm)
  clear hlv hL3 hv hr hB hg hF hA hp hsm ih hll hLd hLm hdr hpl hn
  go_enter Try.func35, Try.ntmps35
  go_upto_region 2 with (fail)
  have HFA := Aside0.mk (show FB (((w.alloc (.cells #[.int .i64 0, .slice none 0 0] 52)).alloc (.cells #[] 52)).alloc (.cells #[.int .i64 0, .slice (some ⟨w.heap.size + 1, 0, none⟩) 0 0] 52)) b (.slice (some adr) n c0) vD p from blk_alloc (blk_alloc (blk_alloc HF.out _) _) _)
  have HOA := Aside0.mk (show OB (((w.alloc (.cells #[.int .i64 0, .slice none 0 0] 52)).alloc (.cells #[] 52)).alloc (.cells #[.int .i64 0, .slice (some ⟨w.heap.size + 1, 0, none⟩) 0 0] 52)) (w.heap.size + 1 + 1) (.int .i64 0) (.slice (some ⟨w.heap.size + 1, 0, none⟩) 0 0) from by
    have h := blk_new ((w.alloc (.cells #[.int .i64 0, .slice none 0 0] 52)).alloc (.cells #[] 52)) (.cells #[.int .i64 0, .slice (some ⟨w.heap.size + 1, 0, none⟩) 0 0] 52)
    have e : ((w.alloc (.cells #[.int .i64 0, .slice none 0 0] 52)).alloc (.cells #[] 52)).heap.size = w.heap.size + 1 + 1 := by simp
    rw [e] at h
    exact h)
  have HRA := Aside0.mk (show OB (((w.alloc (.cells #[.int .i64 0, .slice none 0 0] 52)).alloc (.cells #[] 52)).alloc (.cells #[.int .i64 0, .slice (some ⟨w.heap.size + 1, 0, none⟩) 0 0] 52)) w.heap.size (.int .i64 0) (.slice none 0 0) from blk_alloc (blk_alloc (blk_new w _) _) _)
  have HEA := Aside0.mk (show Kd.R (kNd 52 (Ls.drop (lev + 1)) D) 52 (((w.alloc (.cells #[.int .i64 0, .slice none 0 0] 52)).alloc (.cells #[] 52)).alloc (.cells #[.int .i64 0, .slice (some ⟨w.heap.size + 1, 0, none⟩) 0 0] 52)) w.heap.size (fun k => k ≠ w.heap.size ∧ k ≠ w.heap.size + 1 + 1 ∧ k ≠ b) (.slice (some ⟨w.heap.size + 1, 0, none⟩) 0 0) [] from by
    refine ⟨fun k hk => ?_, [], ⟨rfl, .inr ⟨w.heap.size + 1, 0, #[], rfl, by omega, blk_alloc ?_ _, Nat.le_refl _, by unfold maxLen; omega, rfl, rfl⟩⟩, rfl, fun j p hj => by cases hj⟩
    · have : w.heap.size + 1 = k := Option.some.inj hk
      have := HBL.out
      omega
    · have h := blk_new (w.alloc (.cells #[.int .i64 0, .slice none 0 0] 52)) (.cells #[] 52)
      have e : (w.alloc (.cells #[.int .i64 0, .slice none 0 0] 52)).heap.size = w.heap.size + 1 := by simp
      rw [e] at h
      exact h)
  have HBA := Aside0.mk (show Below w0.heap.size w0 (((w.alloc (.cells #[.int .i64 0, .slice none 0 0] 52)).alloc (.cells #[] 52)).alloc (.cells #[.int .i64 0, .slice (some ⟨w.heap.size + 1, 0, none⟩) 0 0] 52)) from ((HB.out.alloc HB.out.size _).alloc (HB.out.alloc HB.out.size _).size _).alloc ((HB.out.alloc HB.out.size _).alloc (HB.out.alloc HB.out.size _).size _).size _)
  have HKA := Aside0.mk (show KeepBut w (((w.alloc (.cells #[.int .i64 0, .slice none 0 0] 52)).alloc (.cells #[] 52)).alloc (.cells #[.int .i64 0, .slice (some ⟨w.heap.size + 1, 0, none⟩) 0 0] 52)) b none from keep_alloc (keep_alloc (keep_alloc (KeepBut.refl _ _ _) _) _) _)
  have HSA := Aside0.mk (show (((w.alloc (.cells #[.int .i64 0, .slice none 0 0] 52)).alloc (.cells #[] 52)).alloc (.cells #[.int .i64 0, .slice (some ⟨w.heap.size + 1, 0, none⟩) 0 0] 52)).heap.size = w.heap.size + 3 from by simp)
  generalize (((w.alloc (.cells #[.int .i64 0, .slice none 0 0] 52)).alloc (.cells #[] 52)).alloc (.cells #[.int .i64 0, .slice (some ⟨w.heap.size + 1, 0, none⟩) 0 0] 52)) = WA at HFA HOA HRA HEA HBA HKA HSA ⊢
  obtain ⟨a, ha⟩ : ∃ a, a = p lev := ⟨_, rfl⟩
  have HA := Aside0.mk ha
  have l0 : (0 : Int) ≤ (lev : Int) := by omega
  have l4 : (lev : Int) < 4 := by have := HLV.out; omega
  have l4n : lev < 4 := by have := HLV.out; omega
  have hat : WA.cell? ⟨b, 2 + lev, none⟩ = some (.int .i64 (a : Int)) := by rw [ha]; exact HFA.out.at lev l4n
  clear ha
  go_upto_region 3 with (fail)
  refine start_ (n := 11) (S := fun w' => w'.cell? ⟨b, 2 + lev, none⟩ = some (.int .i64 (a : Int))) (ds := [10]) #[false, false, false, false, false, false, false, false, false, false, false] (by kernel_rfl) rfl rfl hat (fun hHeld => ?_)
  have HFB := Aside0.mk (show FB WA.drew b (.slice (some adr) n c0) vD p from blk_drew HFA.out)
  have HOB := Aside0.mk (show OB WA.drew (w.heap.size + 1 + 1) (.int .i64 0) (.slice (some ⟨w.heap.size + 1, 0, none⟩) 0 0) from blk_drew HOA.out)
  have HRB := Aside0.mk (show OB WA.drew w.heap.size (.int .i64 0) (.slice none 0 0) from blk_drew HRA.out)
  have HEB := Aside0.mk (Kd.R_drew HEA.out)
  have HBB := Aside0.mk (below_drew1 HBA.out)
  have HKB := Aside0.mk (keep_drew HKA.out)
  have HSB := Aside0.mk (show WA.drew.heap.size = w.heap.size + 3 from HSA.out)
  generalize WA.drew = WB at HFB HOB HRB HEB HBB HKB HSB hHeld ⊢
  clear HFA HOA HRA HEA HBA HKA HSA hat
  have hfz := HFB.out.frz (2 + lev)
  refine take_ (i := 0) (N := some 15) (v := ?_) (a' := ?_) #[true, false, false, false, false, false, false, false, false, false, false] rfl rfl (by kernel_rfl) (fun _ _ _ h => h) (Or.inl ⟨by rfl, ?_⟩) hHeld ?_ ?_
  rotate_left
  · rintro w' s0
    go_simp
    with_reducible rfl
  rotate_left
  · simp only [Act.put, List.setIfInBounds_toArray, List.set_cons_zero, List.set_cons_succ, i64_w, i32_w]
    rfl
  refine take_ (i := 1) (N := some 16) (v := ?_) (a' := ?_) #[true, true, false, false, false, false, false, false, false, false, false] rfl rfl (by kernel_rfl) (fun _ _ _ h => h) (Or.inl ⟨by rfl, ?_⟩) hHeld ?_ ?_
  rotate_left
  · rintro w' s0
    go_simp
    with_reducible rfl
  rotate_left
  · simp only [Act.put, List.setIfInBounds_toArray, List.set_cons_zero, List.set_cons_succ, i64_w, i32_w]
    rfl
  refine take_ (i := 2) (N := some 17) (v := ?_) (a' := ?_) #[true, true, true, false, false, false, false, false, false, false, false] rfl rfl (by kernel_rfl) (fun _ _ _ h => h) (Or.inl ⟨by rfl, ?_⟩) hHeld ?_ ?_
  rotate_left
  · rintro w' s0
    go_simp
    with_reducible rfl
  rotate_left
  · simp only [Act.put, List.setIfInBounds_toArray, List.set_cons_zero, List.set_cons_succ, i64_w, i32_w]
    rfl
  refine take_ (i := 3) (N := some 18) (v := ?_) (a' := ?_) #[true, true, true, true, false, false, false, false, false, false, false] rfl rfl (by kernel_rfl) (fun _ _ _ h => h) (Or.inl ⟨by rfl, ?_⟩) hHeld ?_ ?_
  rotate_left
  · rintro w' s0
    go_simp
    with_reducible rfl
  rotate_left
  · simp only [Act.put, List.setIfInBounds_toArray, List.set_cons_zero, List.set_cons_succ, i64_w, i32_w]
    rfl
  refine take_ (i := 4) (N := some 19) (v := ?_) (a' := ?_) #[true, true, true, true, true, false, false, false, false, false, false] rfl rfl (by kernel_rfl) (fun _ _ _ h => h) (Or.inl ⟨by rfl, ?_⟩) hHeld ?_ ?_
  rotate_left
  · rintro w' s0
    go_simp
    with_reducible rfl
  rotate_left
  · simp only [Act.put, List.setIfInBounds_toArray, List.set_cons_zero, List.set_cons_succ, i64_w, i32_w]
    rfl
  refine take_ (i := 5) (N := some 20) (v := ?_) (a' := ?_) #[true, true, true, true, true, true, false, false, false, false, false] rfl rfl (by kernel_rfl) (fun _ _ _ h => h) (Or.inl ⟨by rfl, ?_⟩) hHeld ?_ ?_
  rotate_left
  · rintro w' s0
    go_simp
    with_reducible rfl
  rotate_left
  · simp only [Act.put, List.setIfInBounds_toArray, List.set_cons_zero, List.set_cons_succ, i64_w, i32_w]
    rfl
  refine take_ (i := 6) (N := some 21) (v := ?_) (a' := ?_) #[true, true, true, true, true, true, true, false, false, false, false] rfl rfl (by kernel_rfl) (fun _ _ _ h => h) (Or.inl ⟨by rfl, ?_⟩) hHeld ?_ ?_
  rotate_left
  · rintro w' s0
    go_simp
    with_reducible rfl
  rotate_left
  · simp only [Act.put, List.setIfInBounds_toArray, List.set_cons_zero, List.set_cons_succ, i64_w, i32_w]
    rfl
  refine take_ (i := 7) (N := some 22) (v := ?_) (a' := ?_) #[true, true, true, true, true, true, true, true, false, false, false] rfl rfl (by kernel_rfl) (fun _ _ _ h => h) (Or.inl ⟨by rfl, ?_⟩) hHeld ?_ ?_
  rotate_left
  · rintro w' s0
    go_simp
    with_reducible rfl
  rotate_left
  · simp only [Act.put, List.setIfInBounds_toArray, List.set_cons_zero, List.set_cons_succ, i64_w, i32_w]
    rfl
  refine take_ (i := 8) (N := some 23) (v := ?_) (a' := ?_) #[true, true, true, true, true, true, true, true, true, false, false] rfl rfl (by kernel_rfl) (fun _ _ _ h => h) (Or.inl ⟨by rfl, ?_⟩) hHeld ?_ ?_
  rotate_left
  · rintro w' s0
    go_simp
    with_reducible rfl
  rotate_left
  · simp only [Act.put, List.setIfInBounds_toArray, List.set_cons_zero, List.set_cons_succ, i64_w, i32_w]
    rfl
  refine take_ (i := 9) (N := some 24) (v := ?_) (a' := ?_) #[true, true, true, true, true, true, true, true, true, true, false] rfl rfl (by kernel_rfl) (fun _ _ _ h => h) (Or.inl ⟨by rfl, ?_⟩) hHeld ?_ ?_
  rotate_left
  · rintro w' s0
    go_simp
    with_reducible rfl
  rotate_left
  · simp only [Act.put, List.setIfInBounds_toArray, List.set_cons_zero, List.set_cons_succ, i64_w, i32_w]
    rfl
  refine last_ (i := 10) (N := none) #[true, true, true, true, true, true, true, true, true, true, true] rfl rfl (by kernel_rfl) (by decide) (fun K hK => ?_)
  refine skip_ (w1 := ?_) (by rfl) rfl ?_ ?_
  rotate_left
  · go_simp
    rfl
  refine hK.out _ _ ?_
  clear hK K
  refine done_ (by kernel_rfl) ?_
  have HFC := Aside0.mk (show FB (WB.setCell ⟨b, 2 + lev, none⟩ (.int .i64 (wrap64 ((a : Int) + 1)))) b (.slice (some adr) n c0) vD (bump p lev) from by
    have h := HFB.out.bump lev l4n
    rw [← HA.out] at h
    have e1 : wrap64 ((a : Int) + 1) = ((a + 1 : Nat) : Int) := by have := HAL.out; have := HA.out; rw [wrap64]; omega
    rw [e1]; exact h)
  have HOC := Aside0.mk (show OB (WB.setCell ⟨b, 2 + lev, none⟩ (.int .i64 (wrap64 ((a : Int) + 1)))) (w.heap.size + 1 + 1) (.int .i64 0) (.slice (some ⟨w.heap.size + 1, 0, none⟩) 0 0) from blk_far HOB.out (by have := HBL.out; show w.heap.size + 1 + 1 ≠ b; omega) _)
  have HRC := Aside0.mk (show OB (WB.setCell ⟨b, 2 + lev, none⟩ (.int .i64 (wrap64 ((a : Int) + 1)))) w.heap.size (.int .i64 0) (.slice none 0 0) from blk_far HRB.out (by have := HBL.out; show w.heap.size ≠ b; omega) _)
  have HEC := Aside0.mk (Kd.R_far HEB.out (p := ⟨b, 2 + lev, none⟩) (fun k hk => hk.2.2) (.int .i64 (wrap64 ((a : Int) + 1))))
  have HBC := Aside0.mk (show Below w0.heap.size w0 (WB.setCell ⟨b, 2 + lev, none⟩ (.int .i64 (wrap64 ((a : Int) + 1)))) from below_set HBB.out HG.out)
  have HKC := Aside0.mk (show KeepBut w (WB.setCell ⟨b, 2 + lev, none⟩ (.int .i64 (wrap64 ((a : Int) + 1)))) b none from KeepBut.set_ HKB.out _ _)
  have HSC := Aside0.mk (show (WB.setCell ⟨b, 2 + lev, none⟩ (.int .i64 (wrap64 ((a : Int) + 1)))).heap.size = w.heap.size + 3 from by first | (rw [World.setCell_size]; exact HSB.out) | simpa using HSB.out)
  generalize WB.setCell ⟨b, 2 + lev, none⟩ (.int .i64 (wrap64 ((a : Int) + 1))) = WC at HFC HOC HRC HEC HBC HKC HSC ⊢
  clear HFB HOB HRB HEB HBB HKB HSB hfz
  have cF0 : WC.cell? ⟨b, 0, none⟩ = some (.slice (some adr) n c0) := (blk_cell HFC.out 0).trans rfl
  have hle : ((lev : Int) == (n : Int)) = false := beq_eq_false_iff_ne.2 (by have := HLV.out.1; omega)
  have a0 : (0 : Int) ≤ (a : Int) := by omega
  have a1 : (a : Int) < (L.length : Int) := by have := HA.out; have := HP.out; omega
  have l5 : (lev : Int) < (n : Int) := by have := HLV.out.1; omega
  obtain ⟨adx, A2, c2, hadx, hrow, hlc2, hK⟩ := lv_row (lv_CS_below HR.out HBC.out) lev HLV.out.1
  rw [← Option.some.inj hadx] at hrow
  clear hadx
  rw [← HLd.out] at hrow hlc2 hK
  obtain ⟨adl, rfl, hc⟩ := Kd.at_int hK (a : Int) a0 (by omega)
  have han : a < L.length := by omega
  rw [lv_nts_at L a han] at hc
  obtain ⟨nn, hnn⟩ : ∃ nn : Nat, nn = L[a] := ⟨_, rfl⟩
  rw [← hnn] at hc
  have hc' : WC.cell? (adl.add a) = some (.int .i64 (nn : Int)) := by simpa using hc
  obtain ⟨s, hs⟩ : ∃ s, s = (L.take a).sum := ⟨_, rfl⟩
  have HSS := Aside0.mk hs
  have HSN := Aside0.mk (show s + nn ≤ L.sum from by
    have h1 := lv_take_sum L a han
    have h2 := lv_take_sum_le L (a + 1)
    omega)
  have HSM1 := Aside0.mk (show s + nn = (L.take (a + 1)).sum from by rw [lv_take_sum L a han, hs, hnn])
  have HNN := Aside0.mk (show nn = L.getD a 0 from by rw [hnn, List.getD_eq_getElem?_getD, List.getElem?_eq_getElem han]; rfl)
  have HNL := Aside0.mk (show nn ≤ 1048576 from by have := HSN.out; have := HSM.out; omega)
  have HPC0 := Aside0.mk (show Al Ls (bump p lev) (lev + 1) ∧ bump p lev (lev + 1) = s + 0 ∧ bump p lev lev = a + 1 ∧ ∀ k, k < lev → bump p lev k = p k from by
    refine ⟨fun k h1 h2 => ?_, ?_, ?_, fun k hk => ?_⟩
    · unfold bump; rw [if_neg (by omega), if_neg (by omega)]; exact HAl.out k (by omega) h2
    · unfold bump; rw [if_neg (by omega), HAl.out lev (Nat.le_refl _) (by have := HD1.out; omega), ← HLd.out, hs, HA.out]; rfl
    · unfold bump; rw [if_pos rfl, HA.out]
    · unfold bump; rw [if_neg (by omega)])
  clear hnn hs han hK hlc2 hc
  go_wp2
  go_loopg [54] nn (fun kq v54 w' => ∃ (c : Nat) (vP : Value) (pc : Nat → Nat), v54 = .int .i64 (c : Int) ∧ Aside0 (kq + c = nn) ∧ Aside0 (OB w' (w.heap.size + 1 + 1) (.int .i64 0) vP) ∧ Aside0 (OB w' w.heap.size (.int .i64 0) (.slice none 0 0)) ∧ Aside0 (Kd.R (kNd 52 (Ls.drop (lev + 1)) D) 52 w' w.heap.size (fun k => k ≠ w.heap.size ∧ k ≠ w.heap.size + 1 + 1 ∧ k ≠ b) vP ((List.range c).map (s + ·))) ∧ Aside0 (FB w' b (.slice (some adr) n c0) vD pc) ∧ Aside0 (Al Ls pc (lev + 1) ∧ pc (lev + 1) = s + c ∧ pc lev = a + 1 ∧ ∀ k, k < lev → pc k = p k) ∧ Aside0 (KeepBut w w' b none) ∧ Aside0 (Below w0.heap.size w0 w'))
  case atStart => exact ⟨0, _, _, rfl, ⟨by omega⟩, HOC, HRC, HEC, HFC, HPC0, HKC, HBC⟩
  case round =>
    obtain ⟨c, vP, pc, rfl, HI, HO, HRR, HE, HFc, HPC, HKc, HBc⟩ := hrel
    by_cases hi : c < nn
    · have h1 : (c : Int) < (nn : Int) := by omega
      have HH := Aside0.mk hi
      have hcP : wr.cell? ⟨w.heap.size + 1 + 1, 1, none⟩ = some vP := (blk_cell HO.out 1).trans rfl
      clear hi
      go_upto_region 9 with (fail)
      refine start_ (n := 10) (S := fun w' => w'.cell? ⟨w.heap.size + 1 + 1, 1, none⟩ = some vP) (ds := [7, 9]) #[false, false, false, false, false, false, false, false, false, false] (by kernel_rfl) rfl rfl hcP (fun hHeld => ?_)
      have HO1 := Aside0.mk (show OB wr.drew (w.heap.size + 1 + 1) (.int .i64 0) vP from blk_drew HO.out)
      have HRR1 := Aside0.mk (show OB wr.drew w.heap.size (.int .i64 0) (.slice none 0 0) from blk_drew HRR.out)
      have HE1 := Aside0.mk (Kd.R_drew HE.out)
      have HF1 := Aside0.mk (show FB wr.drew b (.slice (some adr) n c0) vD pc from blk_drew HFc.out)
      have HK1 := Aside0.mk (keep_drew HKc.out)
      have HB1 := Aside0.mk (below_drew1 HBc.out)
      generalize wr.drew = WB at HO1 HRR1 HE1 HF1 HK1 HB1 hHeld ⊢
      clear HO HRR HE HFc HKc HBc hcP
      refine take_ (i := 0) (N := some 56) (v := ?_) (a' := ?_) #[true, false, false, false, false, false, false, false, false, false] rfl rfl (by kernel_rfl) (fun _ _ _ h => h) (Or.inl ⟨by rfl, ?_⟩) hHeld ?_ ?_
      rotate_left
      · rintro w' s0
        go_simp
        with_reducible rfl
      rotate_left
      · simp only [Act.put, List.setIfInBounds_toArray, List.set_cons_zero, List.set_cons_succ, i64_w, i32_w]
        rfl
      refine take_ (i := 1) (N := some 57) (v := ?_) (a' := ?_) #[true, true, false, false, false, false, false, false, false, false] rfl rfl (by kernel_rfl) (fun _ _ _ h => h) (Or.inl ⟨by rfl, ?_⟩) hHeld ?_ ?_
      rotate_left
      · rintro w' s0
        go_simp
        with_reducible rfl
      rotate_left
      · simp only [Act.put, List.setIfInBounds_toArray, List.set_cons_zero, List.set_cons_succ, i64_w, i32_w]
        rfl
      refine take_ (i := 2) (N := some 58) (v := ?_) (a' := ?_) #[true, true, true, false, false, false, false, false, false, false] rfl rfl (by kernel_rfl) (fun _ _ _ h => h) (Or.inl ⟨by rfl, ?_⟩) hHeld ?_ ?_
      rotate_left
      · rintro w' s0
        go_simp
        with_reducible rfl
      rotate_left
      · simp only [Act.put, List.setIfInBounds_toArray, List.set_cons_zero, List.set_cons_succ, i64_w, i32_w]
        rfl
      refine take_ (i := 3) (N := some 59) (v := ?_) (a' := ?_) #[true, true, true, true, false, false, false, false, false, false] rfl rfl (by kernel_rfl) (fun _ _ _ h => h) (Or.inl ⟨by rfl, ?_⟩) hHeld ?_ ?_
      rotate_left
      · rintro w' s0
        go_simp
        with_reducible rfl
      rotate_left
      · simp only [Act.put, List.setIfInBounds_toArray, List.set_cons_zero, List.set_cons_succ, i64_w, i32_w]
        rfl
      refine take_ (i := 4) (N := some 60) (v := ?_) (a' := ?_) #[true, true, true, true, true, false, false, false, false, false] rfl rfl (by kernel_rfl) (fun _ _ _ h => h) (Or.inl ⟨by rfl, ?_⟩) hHeld ?_ ?_
      rotate_left
      · rintro w' s0
        go_simp
        with_reducible rfl
      rotate_left
      · simp only [Act.put, List.setIfInBounds_toArray, List.set_cons_zero, List.set_cons_succ, i64_w, i32_w]
        rfl
      refine one_ (i := 5) (N := some 61) #[true, true, true, true, true, true, false, false, false, false] rfl rfl (by kernel_rfl) (by decide) (fun K hK => ?_)
      have hcall : Calls Try.prog 35 #[.pointer (some ⟨b, 0, none⟩), .int .i64 (wrap64 ((lev : Int) + 1))] WB fun e w' => NXr w0 Ls D b (.slice (some adr) n c0) vD (lev + 1) pc WB e w' := by
        have e1 : wrap64 ((lev : Int) + 1) = ((lev + 1 : Nat) : Int) := by have := HLV.out; rw [wrap64]; omega
        rw [e1]
        exact HIH.out (lev + 1) pc WB (by have := HD1.out; omega) HF1.out HPC.out.1 (by rw [HPC.out.2.1, HCN.out]; have := HSN.out; have := HH.out; omega) HB1.out
      refine goes_ Try.func35 (by kernel_rfl) rfl #[.pointer (some ⟨b, 0, none⟩), .int .i64 (wrap64 ((lev : Int) + 1))] (by rfl) rfl rfl (by (try simp only [List.map_toArray, List.map_cons, List.map_nil]); first | done | rfl) ?_
      refine hcall.mono ?_
      clear hcall
      rintro e w2 ⟨u0, u1, pn, rfl, ho0, ho1, hN, hF2, hAl2, hp2, hpk2, hK2, hB2⟩
      refine ⟨_, rfl, ?_⟩
      have hO2 : OB w2 (w.heap.size + 1 + 1) (.int .i64 0) vP := (hK2.2 _ (blk_lt HO1.out) (by have := HBL.out; omega) (by simp)).trans HO1.out
      have hcP2 : w2.cell? ⟨w.heap.size + 1 + 1, 1, none⟩ = some vP := (blk_cell hO2 1).trans rfl
      refine hK.out _ _ hcP2 (fun hHeld => ?_)
      clear hK K
      refine norm_ (a' := ?_) ?_ ?_
      rotate_left
      · simp only [Act.put, List.setIfInBounds_toArray, List.set_cons_zero, List.set_cons_succ, i64_w, i32_w]
        rfl
      have HO2 := Aside0.mk hO2
      have HRR2 := Aside0.mk (show OB w2 w.heap.size (.int .i64 0) (.slice none 0 0) from (hK2.2 _ (blk_lt HRR1.out) (by have := HBL.out; omega) (by simp)).trans HRR1.out)
      have HE2 := Aside0.mk (Kd.R_keep HE1.out hK2 (fun k hk => hk.2.2))
      have HF2 := Aside0.mk hF2
      have HP2 := Aside0.mk (And.intro hAl2 (And.intro hp2 hpk2))
      have HK2 := Aside0.mk (HK1.out.trans hK2 (.inl rfl))
      have HB2 := Aside0.mk hB2
      have HN2 := Aside0.mk hN
      have HU := Aside0.mk (And.intro ho0 ho1)
      have HSZ2 := Aside0.mk (And.intro HK1.out.1 hK2.1)
      have HLO := Aside0.mk (blk_lt HO1.out)
      have HLP := Aside0.mk (Kd.R_lt HE1.out)
      clear HO1 HRR1 HE1 HF1 HK1 HB1 ho0 ho1 hN hF2 hAl2 hp2 hpk2 hK2 hB2 hO2 hcP2
      refine one_ (i := 6) (N := some 62) #[true, true, true, true, true, true, true, false, false, false] rfl rfl (by kernel_rfl) (by decide) (fun K hK => ?_)
      refine value_ (w1 := w2.alloc (.cells #[u0, u1] 52)) (v := .slice (some ⟨w2.heap.size, 0, none⟩) 1 1) (by rfl) rfl ?_ ?_
      · go_simp
        first | rfl | done
      have hcP3 : (w2.alloc (.cells #[u0, u1] 52)).cell? ⟨w.heap.size + 1 + 1, 1, none⟩ = some vP := cell?_keep_alloc _ _ _ _ ((blk_cell HO2.out 1).trans rfl)
      refine hK.out _ _ hcP3 (fun hHeld => ?_)
      clear hK K hcP3
      refine norm_ (a' := ?_) ?_ ?_
      rotate_left
      · simp only [Act.put, List.setIfInBounds_toArray, List.set_cons_zero, List.set_cons_succ, i64_w, i32_w]
        rfl
      refine last_ (i := 7) (N := some 63) #[true, true, true, true, true, true, true, true, false, false] rfl rfl (by kernel_rfl) (by decide) (fun K hK => ?_)
      refine Kd.R_append_step (kNd 52 (Ls.drop (lev + 1)) D) (w0 := w2) w.heap.size (by rfl) (.tmp 57) (.tmp 62) 50 52 (.agg #[.int .i64 0, .slice none 0 0]) 32 rfl Try.underlying50 node_info rfl (show 0 < 2 by decide) (by omega) vP ((List.range c).map (s + ·)) (s + c) [u0, u1] (fun k => k ≠ w.heap.size ∧ k ≠ w.heap.size + 1 + 1 ∧ k ≠ b) (fun k => WB.heap.size ≤ k) rfl rfl ?aP ?aK ?aF ?aO (Below.refl _ _) ?aS ?aL ?_
      case aP =>
        have h := HN2.out
        rw [HPC.out.2.1] at h
        exact ⟨u0, u1, rfl, HU.out.1, HU.out.2, nd_mono (fun k _ hk => ⟨hk.1, by have := HSZ2.out.1; omega, hk.2⟩) _ _ _ _ h⟩
      case aK =>
        intro k hk
        have h1 := HLO.out
        have h2 := HBL.out
        have h3 := HSZ2.out.1
        refine ⟨⟨by omega, by omega, by omega⟩, fun e => ?_⟩
        have := HLP.out k e.symm
        omega
      case aF =>
        intro k hk
        have h1 := HLO.out
        have h2 := HBL.out
        have h3 := HSZ2.out
        exact ⟨by omega, by omega, by omega⟩
      case aO => exact HE2.out
      case aS => have h3 := HSZ2.out; omega
      case aL => have h1 := HNL.out; have h2 := HH.out; rw [List.length_map, List.length_range]; omega
      intro v1 w3 hR3 _ hg3 hat3
      refine hK.out _ _ ?_
      clear hK K
      refine norm_ (a' := ?_) (show Act.put _ (some 63) v1 = _ from ?_) ?_
      rotate_left
      · simp only [Act.put, List.setIfInBounds_toArray, List.set_cons_zero, List.set_cons_succ, i64_w, i32_w]
        rfl
      have hgo : some (w.heap.size + 1 + 1) ≠ vP.ownBlock := fun e => (HE2.out.1 _ e.symm).2.1 rfl
      have hgr : some w.heap.size ≠ vP.ownBlock := fun e => (HE2.out.1 _ e.symm).1 rfl
      have hgb : some b ≠ vP.ownBlock := fun e => (HE2.out.1 _ e.symm).2.2 rfl
      have HO3 := Aside0.mk (show OB w3 (w.heap.size + 1 + 1) (.int .i64 0) vP from (hg3.block _ (blk_lt HO2.out) hgo).trans HO2.out)
      have HRR3 := Aside0.mk (show OB w3 w.heap.size (.int .i64 0) (.slice none 0 0) from (hg3.block _ (blk_lt HRR2.out) hgr).trans HRR2.out)
      have HF3 := Aside0.mk (show FB w3 b (.slice (some adr) n c0) vD pn from (hg3.block _ (blk_lt HF2.out) hgb).trans HF2.out)
      have HK3 := Aside0.mk (show KeepBut w w3 b none from ⟨Nat.le_trans HK2.out.1 hg3.size, fun k hk hkb hkn => by
        refine (hg3.block k (Nat.lt_of_lt_of_le hk HK2.out.1) (fun e => ?_)).trans (HK2.out.2 k hk hkb hkn)
        have := Kd.R_base HE2.out k e.symm
        omega⟩)
      have HB3 := Aside0.mk (show Below w0.heap.size w0 w3 from HB2.out.grown hg3 HB2.out.size (fun k hk => by have := Kd.R_base HE2.out k hk; have := HB.out.size; omega))
      obtain ⟨A9, k9, hv1, _, _⟩ := Kd.R_reads hR3
      subst hv1
      have HR3 := Aside0.mk hR3
      have hfo := blk_frozen HO3.out 1
      have hco : w3.cell? ⟨w.heap.size + 1 + 1, 1, none⟩ = some vP := (blk_cell HO3.out 1).trans rfl
      clear hR3 hg3 hat3 hgo hgr hgb HO2 HRR2 HE2 HF2 HK2 HB2
      refine pure_ (i := 8) (N := some 64) (v := ?_) (a' := ?_) #[true, true, true, true, true, true, true, true, true, false] rfl rfl (by kernel_rfl) (fun _ _ _ h => h) (Or.inl ⟨by rfl, ?_⟩) ?_ ?_
      rotate_left
      · intro w'
        go_simp
        with_reducible rfl
      rotate_left
      · simp only [Act.put, List.setIfInBounds_toArray, List.set_cons_zero, List.set_cons_succ, i64_w, i32_w]
        rfl
      refine last_ (i := 9) (N := none) #[true, true, true, true, true, true, true, true, true, true] rfl rfl (by kernel_rfl) (by decide) (fun K hK => ?_)
      refine skip_ (w1 := ?_) (by rfl) rfl ?_ ?_
      rotate_left
      · go_simp
        rfl
      refine hK.out _ _ ?_
      clear hK K
      refine done_ (by kernel_rfl) ?_
      have HO4 := Aside0.mk (show OB (w3.setCell ⟨w.heap.size + 1 + 1, 1, none⟩ (.slice A9 (c + 1) k9)) (w.heap.size + 1 + 1) (.int .i64 0) (.slice A9 (c + 1) k9) from blk_put HO3.out 1 _ rfl)
      have HRR4 := Aside0.mk (show OB (w3.setCell ⟨w.heap.size + 1 + 1, 1, none⟩ (.slice A9 (c + 1) k9)) w.heap.size (.int .i64 0) (.slice none 0 0) from blk_far HRR3.out (by show w.heap.size ≠ w.heap.size + 1 + 1; omega) _)
      have HEQ : (List.range c).map (s + ·) ++ [s + c] = (List.range (c + 1)).map (s + ·) := by rw [List.range_succ, List.map_append]; rfl
      have HR5 := Aside0.mk (show Kd.R (kNd 52 (Ls.drop (lev + 1)) D) 52 w3 w.heap.size (fun k => k ≠ w.heap.size ∧ k ≠ w.heap.size + 1 + 1 ∧ k ≠ b) (.slice A9 (c + 1) k9) ((List.range (c + 1)).map (s + ·)) from by
        have h := HR3.out
        rw [HEQ] at h
        have e : ((List.range (c + 1)).map (s + ·)).length = c + 1 := by simp
        rw [e] at h
        exact h)
      have HE4 := Aside0.mk (Kd.R_far HR5.out (p := ⟨w.heap.size + 1 + 1, 1, none⟩) (fun k hk => hk.2.1) (.slice A9 (c + 1) k9))
      have HF4 := Aside0.mk (show FB (w3.setCell ⟨w.heap.size + 1 + 1, 1, none⟩ (.slice A9 (c + 1) k9)) b (.slice (some adr) n c0) vD pn from blk_far HF3.out (by have := HBL.out; show b ≠ w.heap.size + 1 + 1; omega) _)
      have HK4 := Aside0.mk (show KeepBut w (w3.setCell ⟨w.heap.size + 1 + 1, 1, none⟩ (.slice A9 (c + 1) k9)) b none from PrintMore.keep_far HK3.out (by omega) _)
      have HB4 := Aside0.mk (show Below w0.heap.size w0 (w3.setCell ⟨w.heap.size + 1 + 1, 1, none⟩ (.slice A9 (c + 1) k9)) from below_set HB3.out (by have := HB.out.size; omega))
      have HW := Aside0.mk (lv_wrap_succ c nn HH.out HNL.out)
      clear HO3 HRR3 HR3 HR5 HF3 HK3 HB3 hfo hco HEQ
      go_wp2
      go_roundg (gk - 1)
      case measure => have := HI.out; have := HH.out; omega
      case rel =>
        refine ⟨c + 1, _, pn, by rw [HW.out], ⟨by have := HI.out; have := HH.out; omega⟩, HO4, HRR4, HE4, HF4, ⟨?_⟩, HK4, HB4⟩
        · refine ⟨HP2.out.1, ?_, ?_, ?_⟩
          · rw [HP2.out.2.1, HPC.out.2.1]; omega
          · rw [HP2.out.2.2 lev (by omega)]; exact HPC.out.2.2.1
          · intro k hk
            rw [HP2.out.2.2 k (by omega)]; exact HPC.out.2.2.2 k hk
    · have h1 : (nn : Int) ≤ (c : Int) := by omega
      have HE9 := Aside0.mk (show c = nn from by have := HI.out; omega)
      obtain ⟨A9, k9, hvP, hk9, hC9⟩ := Kd.R_reads HE.out
      subst hvP
      obtain ⟨xs, hxR, hxl, hxN⟩ := nd_of_row HE.out
      have HXR := Aside0.mk hxR
      have HXN := Aside0.mk (And.intro hxl hxN)
      have hln : ((List.range c).map (s + ·)).length = nn := by rw [List.length_map, List.length_range]; exact HE9.out
      rw [hln] at hk9
      have HK9 := Aside0.mk hk9
      have HLN := Aside0.mk hln
      have cO0 : wr.cell? ⟨w.heap.size + 1 + 1, 0, none⟩ = some (.int .i64 0) := (blk_cell HO.out 0).trans rfl
      have cO1 : wr.cell? ⟨w.heap.size + 1 + 1, 1, none⟩ = some (.slice A9 nn k9) := by have h := blk_cell HO.out 1; rw [hln] at h; exact h.trans rfl
      have cR0 : wr.cell? ⟨w.heap.size, 0, none⟩ = some (.int .i64 0) := (blk_cell HRR.out 0).trans rfl
      have cR1 : wr.cell? ⟨w.heap.size, 1, none⟩ = some (.slice none 0 0) := (blk_cell HRR.out 1).trans rfl
      have fR0 := blk_frozen HRR.out 0
      have fR1 := blk_frozen HRR.out 1
      clear hi hxR hxl hxN hk9 hC9 hln
      go_wp2
      have HR2 := blk_put (blk_put HRR.out 0 (.int .i64 0) rfl) 1 (.slice A9 nn k9) rfl
      refine bodyPost_ret (results_single rfl (.cell w.heap.size 52 _ (0, 0) _ rfl HR2 Try.underlying52 rfl node_size .nil)) rfl ?_
      have hb0 := HBL.out
      have HMV : ∀ k, k ≠ w.heap.size → ((wr.setCell ⟨w.heap.size, 0, none⟩ (.int .i64 0)).setCell ⟨w.heap.size, 1, none⟩ (.slice A9 nn k9)).heap[k]? = wr.heap[k]? := fun k hk => (Below.heap_setCell _ ⟨w.heap.size, 1, none⟩ _ k hk).trans (Below.heap_setCell _ ⟨w.heap.size, 0, none⟩ _ k hk)
      refine ⟨_, _, pc, rfl, rfl, rfl, ?_, ?_, ?_, ?_, ?_, ?_, ?_⟩
      · rw [HDR.out]
        have hxR2 := HXR.out
        have hRC := (Kd.R_reads' hxR2).2.2
        have hxl : xs.length = nn := by rw [HXN.out.1]; exact HLN.out
        rw [hxl] at hRC
        have hN : Nd wr (fun k => (k ≠ w.heap.size) ∧ w.heap.size ≤ k ∧ ∃ cells, wr.heap[k]? = some (.cells cells 52 (0, 0))) (L :: Ls.drop (lev + 1)) D (p lev) (.agg #[.int .i64 0, .slice A9 nn k9]) := by
          rw [← HA.out]
          refine ⟨A9, k9, xs, by rw [← HNN.out], by rw [← HNN.out]; exact HK9.out, by rw [← HNN.out]; exact hRC, fun ad had hp => ?_, fun c2 hc2 => ?_⟩
          · subst had
            obtain ⟨g, hg⟩ := Kd.S_head2 hxR2
            subst hg
            have h1 := hxR2.1 g rfl
            exact ⟨⟨h1.1, Kd.R_base hxR2 g rfl, Kd.R_typed hxR2 g rfl⟩, rfl⟩
          · rw [← HNN.out] at hc2
            have hc3 : c2 < ((List.range c).map (s + ·)).length := by rw [HLN.out]; exact hc2
            have h := HXN.out.2 c2 hc3
            have e : ((List.range c).map (s + ·)).getD c2 0 = (L.take a).sum + c2 := by
              rw [List.getD_eq_getElem?_getD, List.getElem?_map, List.getElem?_range (by rw [HE9.out]; exact hc2), ← HSS.out]; rfl
            rw [e] at h
            exact nd_mono (fun k _ hk => ⟨hk.1.1.1, hk.2.1, hk.2.2⟩) _ _ _ _ h
        refine nd_mono (fun k _ hk => ⟨hk.2.1, ?_⟩) _ _ _ _ (nd_move (fun k hk => HMV k hk.1) _ _ _ _ hN)
        obtain ⟨cells, hc⟩ := hk.2.2
        exact ⟨cells, (HMV k hk.1).trans hc⟩
      · exact (HMV b (by omega)).trans HFc.out
      · intro k h2 h3
        by_cases hkl : k = lev
        · subst hkl
          rw [HPC.out.2.1, HPC.out.2.2.1, ← HLd.out, HE9.out, HSM1.out]
        · exact HPC.out.1 k (by omega) h3
      · rw [HPC.out.2.2.1, HA.out]
      · exact HPC.out.2.2.2
      · exact PrintMore.keep_far (PrintMore.keep_far HKc.out (Nat.le_refl _) _) (Nat.le_refl _) _
      · have h1 := HB.out.size
        exact below_set (below_set HBc.out (by omega)) (by omega)

theorem next_walk (w0 : World) (b : Nat) (A0 : Option Addr) (n c0 : Nat) (Ls : List (List Nat)) (A1 : Option Addr) (m c1 : Nat) (D : List Int) (e : Nat) (hn : n = Ls.length) (hm : m = D.length) (hm1 : m ≤ 1048576) (hL3 : Lsz Ls) (hv : VdN e Ls D)
    (hr : Kd.C (Kd.slice 3 (Kd.int .i64)) w0 A0 n (Ls.map lv_nts)) (hd : Kd.C (Kd.int .i64) w0 A1 m D) (hg : w0.heap.size ≤ b) (hsm : ∀ L ∈ Ls, L.sum ≤ 1048576) : ∀ d, NXH w0 Ls D b (.slice A0 n c0) (.slice A1 m c1) d
  | 0 => fun lev p w hlv hF hA hp hB => by
    have hdr : Ls.drop lev = [] := List.drop_eq_nil_of_le (by omega)
    rw [hdr] at hp
    exact next_leaf w0 w b A0 n c0 Ls A1 m c1 D [] lev p hn hm hm1 (by omega) (by rw [hn]; exact hL3.1) hd hB hg hF (by rw [hm]; exact hp)
  | d + 1 => fun lev p w hlv hF hA hp hB => next_node w0 w b A0 n c0 Ls _ D lev d e p hn hlv hL3 hv hr hB hg hF hA hp hsm (next_walk w0 b A0 n c0 Ls A1 m c1 D e hn hm hm1 hL3 hv hr hd hg hsm d)
end Go.Proofs.YtlakjonnkggomaaW.PrintMore
