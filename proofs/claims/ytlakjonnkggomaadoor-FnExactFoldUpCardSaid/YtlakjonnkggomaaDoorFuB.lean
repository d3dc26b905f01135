/-
  The text of an array: the program's short; the reference's l1Text and l1Told.
-/
import Derived.Test.YtlakjonnkggomaaDoorFuA
namespace Go.Proofs.YtlakjonnkggomaaDoorW.PrintMore
set_option linter.unusedVariables false
set_option linter.unusedSimpArgs false
open Go.Proofs Go.Deep Go.Shelf
open Go.RowKit Go.Proofs.YtlakjonnkggomaaDoorW.PrintWords Go.Proofs.YtlakjonnkggomaaDoorW.PrintLast Go.Proofs.YtlakjonnkggomaaDoorW.PrintMore
/-- A text, if it is not too long. -/
def shB (x : ByteArray) : ByteArray := if x.size ≤ 400 then x else ⟨#[]⟩
def shK (x : ByteArray) : Bool := decide (x.size ≤ 400)
set_option maxHeartbeats 8000000 in
set_option maxRecDepth 100000 in
theorem short_walk (w : World) (Ls : List (List Nat)) (D : List Int) (a : Nat) (z : Int) (A : Option Addr) (n k : Nat) (hN : NdT w Ls D a (.agg #[.int .i64 z, .slice A n k])) (hl : Ls.length ≤ 3) (h4 : L400 Ls) (hD : InR D) (hp : Pow w) :
    Calls Tryd.prog 39 #[.agg #[.int .i64 z, .slice A n k], .int .i64 (Ls.length : Int)] w fun e w' => e = .returned (.tuple #[.string (shB (txN Ls D a)), .bool (shK (txN Ls D a))]) ∧ Below w.heap.size w w' := by
  have hu := Tryd.underlying61
  have hb1 : Below w.heap.size w (w.alloc (.cells #[.int .i64 z, .slice A n k] 61)) := (Below.refl _ w).alloc (Nat.le_refl _) _
  have HC := Aside0.mk (text_walk Ls D hl h4 hD a _ _ (nd_below hb1 _ _ _ _ hN) (hp.keep hb1 (Nat.le_refl _)))
  have HB1 := Aside0.mk hb1
  have HS := Aside0.mk (tx_size Ls D a h4 hD)
  have HT := Aside0.mk (txB_le _ hl)
  obtain ⟨d, hd⟩ : ∃ d : Int, d = (Ls.length : Int) := ⟨_, rfl⟩
  obtain ⟨x, hx⟩ : ∃ x, x = txN Ls D a := ⟨_, rfl⟩
  rw [← hd, ← hx] at HC
  rw [← hd, ← hx]
  rw [← hx] at HS
  clear hb1 hN hl h4 hD hp hd hx
  go_enter Tryd.func39, Tryd.ntmps39
  go_wp2_with fail
  refine HC.out.mono ?_
  rintro e w2 ⟨rfl, hb⟩
  have HB2 := Aside0.mk (HB1.out.trans (hb.mono HB1.out.size))
  clear hb
  by_cases hs : x.size ≤ 400
  · have c1 : decide ((x.size : Int) > 400) = false := decide_eq_false (by omega)
    have c2 : decide (400 < (x.size : Int)) = false := decide_eq_false (by omega)
    have c3 : decide (400 < x.size) = false := decide_eq_false (by omega)
    have HH := Aside0.mk hs
    clear hs
    go_wp2
    go_ret2
    refine ⟨?_, HB2.out⟩
    unfold shB shK
    rw [if_pos HH.out, decide_eq_true HH.out]
    rfl
  · have c1 : decide ((x.size : Int) > 400) = true := decide_eq_true (by omega)
    have c2 : decide (400 < (x.size : Int)) = true := decide_eq_true (by omega)
    have c3 : decide (400 < x.size) = true := decide_eq_true (by omega)
    have HH := Aside0.mk hs
    clear hs
    go_wp2
    go_ret2
    refine ⟨?_, HB2.out⟩
    unfold shB shK
    rw [if_neg HH.out, decide_eq_false HH.out]
    rfl
set_option maxHeartbeats 8000000 in
set_option maxRecDepth 100000 in
theorem l1Text_leaf (w : World) (x : Int) (A : Option Addr) (k : Nat) (h0 : -9223372036854775808 ≤ x) (h1 : x ≤ 9223372036854775807) :
    Calls Tryd.prog 53 #[.agg #[.int .i64 x, .slice A 0 k], .int .i64 0] w fun e w' => e = .returned (.string (dec x)) ∧ Below w.heap.size w w' := by
  have hu := Tryd.underlying57
  have HX := Aside0.mk (And.intro h0 h1)
  clear h0 h1
  go_enter Tryd.func53, Tryd.ntmps53
  go_wp2_with fail
  refine (l13Dec_walk _ x HX.out.1 HX.out.2).mono ?_
  rintro e w2 ⟨rfl, hb⟩
  have HB2 := Aside0.mk (((Below.refl _ w).alloc (Nat.le_refl _) (.cells #[.int .i64 x, .slice A 0 k] 57)).trans (hb.mono (by simp)))
  clear hb
  go_wp2
  go_ret
  exact ⟨rfl, HB2.out⟩
def TSH (Ls : List (List Nat)) (D : List Int) : Prop := ∀ (a : Nat) (v : Value) (w : World), NdT w Ls D a v →
  Calls Tryd.prog 53 #[v, .int .i64 (Ls.length : Int)] w fun e w' => e = .returned (.string (txN Ls D a)) ∧ Below w.heap.size w w'
set_option maxHeartbeats 16000000 in
set_option maxRecDepth 100000 in
theorem l1Text_node (w : World) (L : List Nat) (Ls : List (List Nat)) (D : List Int) (a n k : Nat) (A : Option Addr) (xs : List (Value × Value)) (hn : n = L.getD a 0) (hC : Kd.C kPair w A n xs) (hx : ∀ c, c < n → NdT w Ls D ((L.take a).sum + c) (ndP (xs.getD c pD))) (hpl : ∀ ad, A = some ad → 0 < n → Pl ad)
    (hL3 : Ls.length ≤ 2) (h400 : L400 (L :: Ls)) (hD : InR D) (ih : TSH Ls D) :
    Calls Tryd.prog 53 #[.agg #[.int .i64 0, .slice A n k], .int .i64 ((Ls.length + 1 : Nat) : Int)] w fun e w' => e = .returned (.string (txN (L :: Ls) D a)) ∧ Below w.heap.size w w' := by
  have hu := Tryd.underlying57
  obtain ⟨d, hd⟩ : ∃ d : Int, d = ((Ls.length + 1 : Nat) : Int) := ⟨_, rfl⟩
  rw [← hd]
  have d0 : (d == (0 : Int)) = false := beq_eq_false_iff_ne.2 (by omega)
  have HDW := Aside0.mk (show wrap64 (d - 1) = (Ls.length : Int) from by rw [wrap64]; omega)
  obtain ⟨f, hf⟩ : ∃ f : Nat → ByteArray, f = fun c => txN Ls D ((L.take a).sum + c) := ⟨_, rfl⟩
  have HFF := Aside0.mk hf
  have HN := Aside0.mk hn
  have HLE := Aside0.mk (show n ≤ 400 from by rw [hn]; exact getD_le (h400 L List.mem_cons_self) a)
  have HSZ := Aside0.mk (show ∀ c, (f c).size ≤ 2000000000 from fun c => by
    rw [hf]
    exact Nat.le_trans (tx_size Ls D _ (fun M hM => h400 M (List.mem_cons_of_mem _ hM)) hD) (txB_le _ (by omega)))
  have HC := Aside0.mk hC
  have HX := Aside0.mk hx
  have HPL := Aside0.mk hpl
  have HIH := Aside0.mk ih
  have HB0 := Aside0.mk (show Below w.heap.size w (w.alloc (.cells #[.int .i64 0, .slice A n k] 57)) from (Below.refl _ w).alloc (Nat.le_refl _) _)
  clear hn hC hx hpl hL3 h400 hD ih hd hf
  go_enter Tryd.func53, Tryd.ntmps53
  go_wp2
  go_loopg [5, 16] n (fun kq v5 v16 w' => ∃ (i : Nat) (o : ByteArray), v16 = .int .i64 (i : Int) ∧ v5 = .string o ∧ Aside0 (kq + i = n) ∧ Aside0 (o = ⟨#[91]⟩ ++ joinB ((List.range i).map f) ⟨#[44]⟩) ∧ Aside0 (Below w.heap.size w w'))
  case atStart => exact ⟨0, ⟨#[91]⟩, rfl, rfl, ⟨by omega⟩, ⟨rfl⟩, HB0⟩
  case round =>
    obtain ⟨i, o, rfl, rfl, HI, HO, HB⟩ := hrel
    by_cases hi : i < n
    · have h1 : (i : Int) < (n : Int) := by omega
      have h0 : (0 : Int) ≤ (i : Int) := by omega
      obtain ⟨ad, rfl, hc1, hc2⟩ := pair_at (Kd.C_below HC.out HB.out) i hi
      have hNd := nd_below HB.out _ _ _ _ (HX.out i hi)
      obtain ⟨x1, x2, hxx⟩ : ∃ x1 x2, xs.getD i pD = (x1, x2) := ⟨_, _, rfl⟩
      rw [hxx] at hc1 hc2 hNd
      have hpl2 := HPL.out ad rfl (by omega)
      have hc2' : wr.cell? ⟨(ad.add (i * 2)).block, (ad.add (i * 2)).off + 1, none⟩ = some x2 := by
        rw [hpl2.add] at hc2 ⊢
        exact hc2
      clear hpl2
      obtain ⟨z9, A9, n9, k9, e1, e2⟩ := nd_form (show Nd wr (fun _ => True) Ls D _ (.agg #[x1, x2]) from hNd)
      subst e1
      subst e2
      have HND := Aside0.mk hNd
      have HH := Aside0.mk hi
      have HW := Aside0.mk (wrap_succ i n hi (by have := HLE.out; omega))
      have HOS := Aside0.mk (show o.size ≤ 1000000000000 from by
        have h2 := jb_size 2000000000 ((List.range i).map f) 44 (fun x hx => by obtain ⟨c, _, rfl⟩ := List.mem_map.1 hx; exact HSZ.out c)
        rw [List.length_map, List.length_range] at h2
        have h3 := HLE.out
        have h4 : 2000000001 * i ≤ 2000000001 * 400 := Nat.mul_le_mul_left _ (by omega)
        have h5 : (⟨#[91]⟩ : ByteArray).size = 1 := rfl
        rw [HO.out, ByteArray.size_append, h5]
        omega)
      obtain ⟨sx, hsx⟩ : ∃ sx, sx = f i := ⟨_, rfl⟩
      have HSX := Aside0.mk hsx
      have HSS := Aside0.mk (show sx.size ≤ 2000000000 from by rw [hsx]; exact HSZ.out i)
      have hbA : Below w.heap.size w (wr.alloc (.cells #[.int .i64 z9, .slice A9 n9 k9] 57)) := HB.out.alloc HB.out.size _
      have HCALL := Aside0.mk (show Calls Tryd.prog 53 #[.agg #[.int .i64 z9, .slice A9 n9 k9], .int .i64 (wrap64 (d - 1))] (wr.alloc (.cells #[.int .i64 z9, .slice A9 n9 k9] 57)) (fun e w' => e = .returned (.string sx) ∧ Below (wr.alloc (.cells #[.int .i64 z9, .slice A9 n9 k9] 57)).heap.size (wr.alloc (.cells #[.int .i64 z9, .slice A9 n9 k9] 57)) w') from by
        rw [HDW.out, hsx, HFF.out]
        exact HIH.out _ _ _ (nd_below (below_alloc (Below.refl _ _) _) _ _ _ _ HND.out))
      have HBA := Aside0.mk hbA
      clear hi hxx hNd hsx hbA
      by_cases hz : i = 0
      · have hz0 : decide ((0 : Int) < (i : Int)) = false := decide_eq_false (by omega)
        have hz1 : decide ((i : Int) > 0) = false := decide_eq_false (by omega)
        have hz2 : decide (0 < i) = false := decide_eq_false (by omega)
        have HZ := Aside0.mk hz
        have f2 : (9223372036854775807 < o.size + sx.size) = False := eq_false (by have := HOS.out; have := HSS.out; omega)
        clear hz
        go_wp2_with fail
        refine HCALL.out.mono ?_
        rintro e w2 ⟨rfl, hb⟩
        have HB2 := Aside0.mk (HBA.out.trans (hb.mono HBA.out.size))
        clear hb
        go_wp2
        go_roundg (gk - 1)
        case measure => have := HI.out; have := HH.out; omega
        case rel =>
          refine ⟨i + 1, _, by rw [HW.out], rfl, ⟨by have := HI.out; have := HH.out; omega⟩, ⟨?_⟩, HB2⟩
          have h1 := HO.out
          have h2 := HSX.out
          rw [HZ.out] at h1 h2 ⊢
          rw [jb_take0, ← h2, h1]
          congr 1
      · have hz0 : decide ((0 : Int) < (i : Int)) = true := decide_eq_true (by omega)
        have hz1 : decide ((i : Int) > 0) = true := decide_eq_true (by omega)
        have hz2 : decide (0 < i) = true := decide_eq_true (by omega)
        have HZ := Aside0.mk hz
        have f1 : (9223372036854775807 < o.size + 1) = False := eq_false (by have := HOS.out; omega)
        have f2 : (9223372036854775807 < o.size + 1 + sx.size) = False := eq_false (by have := HOS.out; have := HSS.out; omega)
        clear hz
        go_wp2_with fail
        refine HCALL.out.mono ?_
        rintro e w2 ⟨rfl, hb⟩
        have HB2 := Aside0.mk (HBA.out.trans (hb.mono HBA.out.size))
        clear hb
        go_wp2
        go_roundg (gk - 1)
        case measure => have := HI.out; have := HH.out; omega
        case rel =>
          refine ⟨i + 1, _, by rw [HW.out], rfl, ⟨by have := HI.out; have := HH.out; omega⟩, ⟨?_⟩, HB2⟩
          rw [jb_takeS f 44 i (by have := HZ.out; omega), ← HSX.out, HO.out, ba_assoc, ba_assoc, ba_assoc]
    · have h1 : (n : Int) ≤ (i : Int) := by omega
      have HE := Aside0.mk (show i = n from by have := HI.out; omega)
      have HOS := Aside0.mk (show o.size ≤ 1000000000000 from by
        have h2 := jb_size 2000000000 ((List.range i).map f) 44 (fun x hx => by obtain ⟨c, _, rfl⟩ := List.mem_map.1 hx; exact HSZ.out c)
        rw [List.length_map, List.length_range] at h2
        have h3 := HLE.out
        have h6 := HE.out
        have h4 : 2000000001 * i ≤ 2000000001 * 400 := Nat.mul_le_mul_left _ (by omega)
        have h5 : (⟨#[91]⟩ : ByteArray).size = 1 := rfl
        rw [HO.out, ByteArray.size_append, h5]
        omega)
      have f1 : (9223372036854775807 < o.size + 1) = False := eq_false (by have := HOS.out; omega)
      clear hi
      go_wp2
      go_ret
      refine ⟨?_, HB.out⟩
      have e1 : txN (L :: Ls) D a = o ++ ⟨#[93]⟩ := by
        rw [HO.out, HE.out, HN.out, HFF.out]; rfl
      rw [e1]
      rfl
theorem l1Text_walk : ∀ (Ls : List (List Nat)) (D : List Int), Ls.length ≤ 3 → L400 Ls → InR D → TSH Ls D
  | [], D, _, _, hD => fun a v w hN => by
    obtain ⟨A, k, rfl⟩ := hN
    exact l1Text_leaf w _ A k (inR_getD hD a).1 (inR_getD hD a).2
  | L :: Ls, D, hl, h4, hD => fun a v w hN => by
    obtain ⟨A, k, xs, rfl, h1, hC, ho, hx⟩ := hN
    exact l1Text_node w L Ls D a _ k A xs rfl hC hx (fun ad ha hp => (ho ad ha hp).2) (by simp at hl; omega) h4 hD (l1Text_walk Ls D (by simp at hl; omega) (fun M hM => h4 M (List.mem_cons_of_mem _ hM)) hD)
set_option maxHeartbeats 8000000 in
set_option maxRecDepth 100000 in
theorem told_walk (w : World) (Ls : List (List Nat)) (D : List Int) (a : Nat) (z : Int) (A : Option Addr) (n k : Nat) (hN : NdT w Ls D a (.agg #[.int .i64 z, .slice A n k])) (hl : Ls.length ≤ 3) (h4 : L400 Ls) (hD : InR D) :
    Calls Tryd.prog 36 #[.agg #[.int .i64 z, .slice A n k], .int .i64 (Ls.length : Int)] w fun e w' => e = .returned (.tuple #[.string (shB (txN Ls D a)), .bool (shK (txN Ls D a))]) ∧ Below w.heap.size w w' := by
  have hu := Tryd.underlying57
  have hb1 : Below w.heap.size w (w.alloc (.cells #[.int .i64 z, .slice A n k] 57)) := (Below.refl _ w).alloc (Nat.le_refl _) _
  have HC := Aside0.mk (l1Text_walk Ls D hl h4 hD a _ _ (nd_below hb1 _ _ _ _ hN))
  have HB1 := Aside0.mk hb1
  have HS := Aside0.mk (tx_size Ls D a h4 hD)
  have HT := Aside0.mk (txB_le _ hl)
  obtain ⟨d, hd⟩ : ∃ d : Int, d = (Ls.length : Int) := ⟨_, rfl⟩
  obtain ⟨x, hx⟩ : ∃ x, x = txN Ls D a := ⟨_, rfl⟩
  rw [← hd, ← hx] at HC
  rw [← hd, ← hx]
  rw [← hx] at HS
  clear hb1 hN hl h4 hD hd hx
  go_enter Tryd.func36, Tryd.ntmps36
  go_wp2_with fail
  refine HC.out.mono ?_
  rintro e w2 ⟨rfl, hb⟩
  have HB2 := Aside0.mk (HB1.out.trans (hb.mono HB1.out.size))
  clear hb
  by_cases hs : x.size ≤ 400
  · have c1 : decide ((x.size : Int) > 400) = false := decide_eq_false (by omega)
    have c2 : decide (400 < (x.size : Int)) = false := decide_eq_false (by omega)
    have c3 : decide (400 < x.size) = false := decide_eq_false (by omega)
    have HH := Aside0.mk hs
    clear hs
    go_wp2
    go_ret2
    refine ⟨?_, HB2.out⟩
    unfold shB shK
    rw [if_pos HH.out, decide_eq_true HH.out]
    rfl
  · have c1 : decide ((x.size : Int) > 400) = true := decide_eq_true (by omega)
    have c2 : decide (400 < (x.size : Int)) = true := decide_eq_true (by omega)
    have c3 : decide (400 < x.size) = true := decide_eq_true (by omega)
    have HH := Aside0.mk hs
    clear hs
    go_wp2
    go_ret2
    refine ⟨?_, HB2.out⟩
    unfold shB shK
    rw [if_neg HH.out, decide_eq_false HH.out]
    rfl
end Go.Proofs.YtlakjonnkggomaaDoorW.PrintMore
