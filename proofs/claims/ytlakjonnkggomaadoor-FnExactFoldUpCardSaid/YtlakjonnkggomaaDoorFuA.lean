/-
  The text of an array: the program's text and short.
-/
import Derived.Test.YtlakjonnkggomaaDoorFmE
import Derived.Test.YtlakjonnkggomaaDoorLvD
namespace Go.Proofs.YtlakjonnkggomaaDoorW.PrintMore
set_option linter.unusedVariables false
set_option linter.unusedSimpArgs false
open Go.Proofs Go.Deep Go.Shelf
open Go.RowKit Go.Proofs.YtlakjonnkggomaaDoorW.PrintWords Go.Proofs.YtlakjonnkggomaaDoorW.PrintLast Go.Proofs.YtlakjonnkggomaaDoorW.PrintMore
theorem jb_one (x : ByteArray) (s : ByteArray) : joinB [x] s = x := by
  apply ba_ext
  show (Lib.join [x.data.toList] s.data.toList).toArray.toList = _
  rw [Lib.join_one]
theorem jb_snoc (xs : List ByteArray) (x : ByteArray) (c : UInt8) (h : xs ≠ []) : joinB (xs ++ [x]) ⟨#[c]⟩ = joinB xs ⟨#[c]⟩ ++ ⟨#[c]⟩ ++ x := by
  apply ba_ext
  rw [ba_app, ba_app]
  show (Lib.join ((xs ++ [x]).map (·.data.toList)) [c]).toArray.toList = (Lib.join (xs.map (·.data.toList)) [c]).toArray.toList ++ [c] ++ x.data.toList
  rw [List.map_append]
  have := join_snoc (xs.map (·.data.toList)) x.data.toList [c] (by cases xs with | nil => exact absurd rfl h | cons a b => simp)
  simp only [List.map_cons, List.map_nil] at this ⊢
  rw [this]
theorem jb_size (B : Nat) (xs : List ByteArray) (c : UInt8) (h : ∀ x ∈ xs, x.size ≤ B) : (joinB xs ⟨#[c]⟩).size ≤ (B + 1) * xs.length := by
  revert h
  refine rev_ind (P := fun xs => (∀ x ∈ xs, x.size ≤ B) → (joinB xs ⟨#[c]⟩).size ≤ (B + 1) * xs.length) (fun _ => Nat.le_refl _) ?_ xs
  intro l n ih h
  have h1 := ih fun m hm => h m (List.mem_append_left _ hm)
  have h3 := h n (List.mem_append_right _ (List.mem_singleton.2 rfl))
  by_cases hl : l = []
  · subst hl
    rw [List.nil_append, jb_one]
    simp
    omega
  · rw [jb_snoc l n c hl, ByteArray.size_append, ByteArray.size_append, List.length_append, List.length_singleton, Nat.mul_add]
    have : (⟨#[c]⟩ : ByteArray).size = 1 := rfl
    omega
/-- The text of an array. -/
def txN : List (List Nat) → List Int → Nat → ByteArray
  | [], D, a => dec (D.getD a 0)
  | L :: Ls, D, a => ⟨#[91]⟩ ++ joinB ((List.range (L.getD a 0)).map fun c => txN Ls D ((L.take a).sum + c)) ⟨#[44]⟩ ++ ⟨#[93]⟩
def txB : Nat → Nat
  | 0 => 21
  | d + 1 => 400 * (txB d + 1) + 2
def L400 (Ls : List (List Nat)) : Prop := ∀ L ∈ Ls, ∀ n ∈ L, n ≤ 400
theorem getD_le {L : List Nat} (h : ∀ n ∈ L, n ≤ 400) (a : Nat) : L.getD a 0 ≤ 400 := by
  rw [List.getD_eq_getElem?_getD]
  cases ha : L[a]? with
  | none => exact Nat.zero_le _
  | some n => exact h n (List.mem_of_getElem? ha)
theorem inR_getD {D : List Int} (h : InR D) (a : Nat) : -9223372036854775808 ≤ D.getD a 0 ∧ D.getD a 0 ≤ 9223372036854775807 := by
  rw [List.getD_eq_getElem?_getD]
  cases ha : D[a]? with
  | none => exact ⟨by simp, by simp⟩
  | some n => exact h n (List.mem_of_getElem? ha)
theorem tx_size : ∀ (Ls : List (List Nat)) (D : List Int) (a : Nat), L400 Ls → InR D → (txN Ls D a).size ≤ txB Ls.length
  | [], D, a, _, hD => dec_size _ (inR_getD hD a).1 (inR_getD hD a).2
  | L :: Ls, D, a, hL, hD => by
    have h1 := jb_size (txB Ls.length) ((List.range (L.getD a 0)).map fun c => txN Ls D ((L.take a).sum + c)) 44 (fun x hx => by
      obtain ⟨c, _, rfl⟩ := List.mem_map.1 hx
      exact tx_size Ls D _ (fun M hM => hL M (List.mem_cons_of_mem _ hM)) hD)
    have h2 := getD_le (hL L List.mem_cons_self) a
    have h3 : (⟨#[91]⟩ : ByteArray).size = 1 := rfl
    have h4 : (⟨#[93]⟩ : ByteArray).size = 1 := rfl
    rw [List.length_map, List.length_range] at h1
    have h5 : (txB Ls.length + 1) * L.getD a 0 ≤ (txB Ls.length + 1) * 400 := Nat.mul_le_mul_left _ h2
    unfold txN
    rw [ByteArray.size_append, ByteArray.size_append, h3, h4]
    show _ ≤ 400 * (txB Ls.length + 1) + 2
    omega
theorem txB_le (d : Nat) (h : d ≤ 3) : txB d ≤ 2000000000 := by
  have : d = 0 ∨ d = 1 ∨ d = 2 ∨ d = 3 := by omega
  rcases this with rfl | rfl | rfl | rfl <;> decide
theorem fm_Join2 (v : Value) (base : Nat) (xs : List ByteArray) (sep : ByteArray) (w : World) (h : Kd.R Kd.string 9 w base (fun _ => True) v xs) (h0 : v.ownBlock ≠ none) (hN : xs.length ≤ 2000000) (hl : (joinB xs sep).size ≤ 140737488355328) :
    Calls Tryd.prog 42 #[v, .string sep] w fun e w' => e = .returned (.string (joinB xs sep)) ∧ Below w.heap.size w w' := by
  have hl' : (Lib.join (xs.map (·.data.toList)) sep.data.toList).length ≤ 140737488355328 := by
    have : (joinB xs sep).size = (Lib.join (xs.map (·.data.toList)) sep.data.toList).length := by show (Lib.join (xs.map (·.data.toList)) sep.data.toList).toArray.size = _; simp
    omega
  have ho := Kd.own_of_R h
  rcases ho.2 with ⟨rfl, hn⟩ | ⟨g, cap, cur, rfl, hg, hh, hle, hrest⟩
  · exact absurd rfl h0
  · refine Any.strings_Join fm_joinL fm_joinX g 0 cap xs sep w (fun j x hx => ?_) (blk_lt hh) (by omega) ?_ hl'
    · have hj : j < xs.length := (List.getElem?_eq_some_iff.1 hx).1
      have := (Kd.R_celln (⟨#[]⟩ : ByteArray) h (j : Int) (by omega) (by omega)).1
      rw [show (0 : Nat) + j = ((j : Nat) : Int).toNat from by omega, this]
      unfold rdOf
      rw [List.getD_eq_getElem?_getD, show ((j : Nat) : Int).toNat = j from by omega, hx]
      rfl
    · exact hle
set_option maxHeartbeats 8000000 in
set_option maxRecDepth 100000 in
theorem text_leaf (w : World) (x : Int) (A : Option Addr) (k : Nat) (h0 : -9223372036854775808 ≤ x) (h1 : x ≤ 9223372036854775807) (hp : Pow w) :
    Calls Tryd.prog 55 #[.agg #[.int .i64 x, .slice A 0 k], .int .i64 0] w fun e w' => e = .returned (.string (dec x)) ∧ Below w.heap.size w w' := by
  have hu := Tryd.underlying61
  have HP := Aside0.mk hp
  have HX := Aside0.mk (And.intro h0 h1)
  clear hp h0 h1
  go_enter Tryd.func55, Tryd.ntmps55
  go_wp2_with fail
  refine (fm_Itoa x HX.out.1 HX.out.2 _ (HP.out.keep ((Below.refl _ w).alloc (Nat.le_refl _) _) (Nat.le_refl _))).mono ?_
  rintro e w2 ⟨rfl, hb⟩
  have HB2 := Aside0.mk (((Below.refl _ w).alloc (Nat.le_refl _) (.cells #[.int .i64 x, .slice A 0 k] 61)).trans (hb.mono (by simp)))
  clear hb
  go_wp2
  go_ret
  exact ⟨rfl, HB2.out⟩
def TXH (Ls : List (List Nat)) (D : List Int) : Prop := ∀ (a : Nat) (v : Value) (w : World), NdT w Ls D a v → Pow w →
  Calls Tryd.prog 55 #[v, .int .i64 (Ls.length : Int)] w fun e w' => e = .returned (.string (txN Ls D a)) ∧ Below w.heap.size w w'
theorem pair_at {w : World} {A : Option Addr} {n : Nat} {xs : List (Value × Value)} (h : Kd.C kPair w A n xs) (i : Nat) (hi : i < n) : ∃ ad, A = some ad ∧ w.cell? (ad.add (i * 2)) = some (xs.getD i pD).1 ∧ w.cell? (ad.add (i * 2 + 1)) = some (xs.getD i pD).2 := by
  obtain ⟨ad, c, e, _, hK, hc⟩ := Kd.C_get h pD (i : Int) (by omega) (by omega)
  rw [show ((i : Int)).toNat = i from by omega] at hK hc
  have h1 := hK.1
  exact ⟨ad, e, hc 0 _ (by rw [h1]; rfl), hc 1 _ (by rw [h1]; rfl)⟩
theorem jb_take0 (f : Nat → ByteArray) (c : UInt8) : joinB ((List.range (0 + 1)).map f) ⟨#[c]⟩ = f 0 := jb_one _ _
theorem jb_takeS (f : Nat → ByteArray) (c : UInt8) (i : Nat) (h : 0 < i) : joinB ((List.range (i + 1)).map f) ⟨#[c]⟩ = joinB ((List.range i).map f) ⟨#[c]⟩ ++ ⟨#[c]⟩ ++ f i := by
  rw [List.range_succ, List.map_append]
  exact jb_snoc _ _ _ (fun e => by have := congrArg List.length e; simp at this; omega)
set_option maxHeartbeats 16000000 in
set_option maxRecDepth 100000 in
theorem text_node (w : World) (L : List Nat) (Ls : List (List Nat)) (D : List Int) (a n k : Nat) (A : Option Addr) (xs : List (Value × Value)) (hn : n = L.getD a 0) (hC : Kd.C kPair w A n xs) (hx : ∀ c, c < n → NdT w Ls D ((L.take a).sum + c) (ndP (xs.getD c pD))) (hpl : ∀ ad, A = some ad → 0 < n → Pl ad)
    (hL3 : Ls.length ≤ 2) (h400 : L400 (L :: Ls)) (hD : InR D) (hp : Pow w) (ih : TXH Ls D) :
    Calls Tryd.prog 55 #[.agg #[.int .i64 0, .slice A n k], .int .i64 ((Ls.length + 1 : Nat) : Int)] w fun e w' => e = .returned (.string (txN (L :: Ls) D a)) ∧ Below w.heap.size w w' := by
  have hu := Tryd.underlying61
  obtain ⟨d, hd⟩ : ∃ d : Int, d = ((Ls.length + 1 : Nat) : Int) := ⟨_, rfl⟩
  rw [← hd]
  have d0 : (d == (0 : Int)) = false := beq_eq_false_iff_ne.2 (by omega)
  have HDW := Aside0.mk (show wrap64 (d - 1) = (Ls.length : Int) from by rw [wrap64]; omega)
  obtain ⟨f, hf⟩ : ∃ f : Nat → ByteArray, f = fun c => txN Ls D ((L.take a).sum + c) := ⟨_, rfl⟩
  have HFF := Aside0.mk hf
  have HN := Aside0.mk hn
  have HLE := Aside0.mk (show n ≤ 400 from by rw [hn]; exact getD_le (h400 L List.mem_cons_self) a)
  have HSZ := Aside0.mk (show ∀ c, (f c).size ≤ 2000000000 from fun c => by
    rw [hf]
    exact Nat.le_trans (tx_size Ls D _ (fun M hM => h400 M (List.mem_cons_of_mem _ hM)) hD) (txB_le _ (by omega)))
  have HC := Aside0.mk hC
  have HX := Aside0.mk hx
  have HPL := Aside0.mk hpl
  have HP := Aside0.mk hp
  have HIH := Aside0.mk ih
  have hbx : Below w.heap.size w (w.alloc (.cells #[.int .i64 0, .slice A n k] 61)) := (Below.refl _ w).alloc (Nat.le_refl _) _
  have HO0 := Aside0.mk (own_empty (w.alloc (.cells #[.int .i64 0, .slice A n k] 61)) w.heap.size (by simp))
  have HB0 := Aside0.mk (show Below w.heap.size w ((w.alloc (.cells #[.int .i64 0, .slice A n k] 61)).alloc (.cells #[] 9)) from hbx.alloc (by simp) _)
  clear hn hC hx hpl hL3 h400 hD hp ih hd hf hbx
  go_enter Tryd.func55, Tryd.ntmps55
  go_wp2
  go_loopg [5, 17] n (fun kq v5 v17 w' => ∃ i : Nat, v17 = .int .i64 (i : Int) ∧ Aside0 (kq + i = n) ∧ Aside0 (Kd.R Kd.string 9 w' w.heap.size (fun _ => True) v5 ((List.range i).map f)) ∧ Aside0 (v5.ownBlock ≠ none) ∧ Aside0 (Below w.heap.size w w'))
  case atStart => exact ⟨0, rfl, ⟨by omega⟩, by first | exact HO0 | (have h := HO0; simp at h; exact h), ⟨fun h => by cases h⟩, HB0⟩
  case round =>
    obtain ⟨i, rfl, HI, HO, HON, HB⟩ := hrel
    by_cases hi : i < n
    · have h1 : (i : Int) < (n : Int) := by omega
      have h0 : (0 : Int) ≤ (i : Int) := by omega
      obtain ⟨ad, rfl, hc1, hc2⟩ := pair_at (Kd.C_below HC.out HB.out) i hi
      have hNd := nd_below HB.out _ _ _ _ (HX.out i hi)
      obtain ⟨x1, x2, hxx⟩ : ∃ x1 x2, xs.getD i pD = (x1, x2) := ⟨_, _, rfl⟩
      rw [hxx] at hc1 hc2 hNd
      have hpl2 := HPL.out ad rfl (by omega)
      have hc2' : wr.cell? ⟨(ad.add (i * 2)).block, (ad.add (i * 2)).off + 1, none⟩ = some x2 := by
        rw [hpl2.add] at hc2 ⊢
        exact hc2
      clear hpl2
      obtain ⟨z9, A9, n9, k9, e1, e2⟩ := nd_form (show Nd wr (fun _ => True) Ls D _ (.agg #[x1, x2]) from hNd)
      subst e1
      subst e2
      have HND := Aside0.mk hNd
      have HH := Aside0.mk hi
      have HW := Aside0.mk (wrap_succ i n hi (by have := HLE.out; omega))
      clear hi hxx hNd
      go_wp2_with fail
      have hbA : Below w.heap.size w (wr.alloc (.cells #[.int .i64 z9, .slice A9 n9 k9] 61)) := HB.out.alloc HB.out.size _
      have hcall : Calls Tryd.prog 55 #[.agg #[.int .i64 z9, .slice A9 n9 k9], .int .i64 (wrap64 (d - 1))] (wr.alloc (.cells #[.int .i64 z9, .slice A9 n9 k9] 61)) fun e w' => e = .returned (.string (txN Ls D ((L.take a).sum + i))) ∧ Below (wr.alloc (.cells #[.int .i64 z9, .slice A9 n9 k9] 61)).heap.size (wr.alloc (.cells #[.int .i64 z9, .slice A9 n9 k9] 61)) w' := by
        rw [HDW.out]
        exact HIH.out _ _ _ (nd_below (below_alloc (Below.refl _ _) _) _ _ _ _ HND.out) (HP.out.keep hbA (Nat.le_refl _))
      refine hcall.mono ?_
      clear hcall
      rintro e w2 ⟨rfl, hb⟩
      obtain ⟨sx, hsx⟩ : ∃ sx, sx = f i := ⟨_, rfl⟩
      have e0 : txN Ls D ((L.take a).sum + i) = sx := by rw [hsx, HFF.out]
      rw [e0]
      have HSX := Aside0.mk hsx
      have HO2 := Aside0.mk (Kd.R_below (Kd.R_alloc HO.out (.cells #[.int .i64 z9, .slice A9 n9 k9] 61)) hb)
      have HB2 := Aside0.mk (hbA.trans (hb.mono hbA.size))
      have HLX := Aside0.mk (show ((List.range i).map f).length ≤ 1048576 from by have := HLE.out; have := HH.out; simp; omega)
      clear hb hbA hsx e0
      go_wp2_with (first | ((with_reducible refine gate_builtin (b := .append) (xs := #[.tmp 21, .tmp 26]) rfl ?_); at_builtin; refine Kd.R_append Kd.string (w0 := w) w.heap.size rfl (.tmp 21) (.tmp 26) 46 9 (.string ⟨#[]⟩) 16 rfl Tryd.underlying46 str_info rfl (by decide) (by omega) _ ((List.range i).map f) sx [.string sx] (fun _ => True) (fun _ => False) rfl rfl ?aP (fun _ hk => hk.elim) ?aF ?aO ?aB ?aS ?aL ?_; (case aP => exact rfl); (case aF => exact fun _ _ => trivial); (case aO => exact HO2.out); (case aB => exact HB2.out); (case aS => exact HB2.out.size); (case aL => have := HLX.out; omega); intro v4 w21 ho hb4 hg4 hat4; have HO3 := Aside0.mk ho; have HB3 := Aside0.mk hb4; have HON4 := Aside0.mk (show v4.ownBlock ≠ none from (by rcases hat4 with e | ⟨b, e, _⟩; rw [e]; exact HON.out; rw [e]; exact fun h => by cases h)); clear ho hb4 hg4 hat4))
      go_roundg (gk - 1)
      case measure => have := HI.out; have := HH.out; omega
      case rel =>
        refine ⟨i + 1, by rw [HW.out], ⟨by have := HI.out; have := HH.out; omega⟩, ⟨?_⟩, HON4, HB3⟩
        rw [List.range_succ, List.map_append, List.map_cons, List.map_nil, ← HSX.out]
        exact HO3.out
    · have h1 : (n : Int) ≤ (i : Int) := by omega
      have HE := Aside0.mk (show i = n from by have := HI.out; omega)
      have hlen : ((List.range i).map f).length = n := by rw [List.length_map, List.length_range]; exact HE.out
      have HLM := Aside0.mk hlen
      obtain ⟨J, hJ⟩ : ∃ J, J = joinB ((List.range i).map f) ⟨#[44]⟩ := ⟨_, rfl⟩
      have HJ := Aside0.mk hJ
      have hjs : J.size ≤ 1000000000000 := by
        have h2 := jb_size 2000000000 ((List.range i).map f) 44 (fun x hx => by obtain ⟨c, _, rfl⟩ := List.mem_map.1 hx; exact HSZ.out c)
        rw [← hJ, hlen] at h2
        have h3 := HLE.out
        have h4 : 2000000001 * n ≤ 2000000001 * 400 := Nat.mul_le_mul_left _ h3
        omega
      have hjoin : Calls Tryd.prog 42 #[u5, .string ⟨#[44]⟩] wr fun e w' => e = .returned (.string J) ∧ Below wr.heap.size wr w' := by
        rw [hJ]
        exact fm_Join2 u5 w.heap.size _ ⟨#[44]⟩ wr HO.out HON.out (by rw [hlen]; have := HLE.out; omega) (by rw [← hJ]; omega)
      have HJN := Aside0.mk hjoin
      have f1 : (9223372036854775807 < 1 + J.size) = False := eq_false (by omega)
      have f2 : (9223372036854775807 < 1 + J.size + 1) = False := eq_false (by omega)
      clear hi hlen hJ hjs hjoin
      go_wp2_with fail
      refine HJN.out.mono ?_
      rintro e w2 ⟨rfl, hb⟩
      have HB2 := Aside0.mk (HB.out.trans (hb.mono HB.out.size))
      clear hb
      go_wp2
      go_ret
      refine ⟨?_, HB2.out⟩
      have e1 : txN (L :: Ls) D a = ⟨#[91]⟩ ++ J ++ ⟨#[93]⟩ := by
        rw [HJ.out, HE.out, HN.out, HFF.out]; rfl
      rw [e1]
      rfl
theorem text_walk : ∀ (Ls : List (List Nat)) (D : List Int), Ls.length ≤ 3 → L400 Ls → InR D → TXH Ls D
  | [], D, _, _, hD => fun a v w hN hp => by
    obtain ⟨A, k, rfl⟩ := hN
    exact text_leaf w _ A k (inR_getD hD a).1 (inR_getD hD a).2 hp
  | L :: Ls, D, hl, h4, hD => fun a v w hN hp => by
    obtain ⟨A, k, xs, rfl, h1, hC, ho, hx⟩ := hN
    exact text_node w L Ls D a _ k A xs rfl hC hx (fun ad ha hp => (ho ad ha hp).2) (by simp at hl; omega) h4 hD hp (text_walk Ls D (by simp at hl; omega) (fun M hM => h4 M (List.mem_cons_of_mem _ hM)) hD)
end Go.Proofs.YtlakjonnkggomaaDoorW.PrintMore
