/-
  The text of a layout: the program's FormatLayout, the reference's FormatLayout (with l13Dec and l2Numbers).
-/
import Derived.Test.YtlakjonnkggomaaDoorFmB
namespace Go.Proofs.YtlakjonnkggomaaDoorW.PrintMore
set_option linter.unusedVariables false
set_option linter.unusedSimpArgs false
open Go.Proofs Go.Deep
open Go.RowKit Go.Proofs.YtlakjonnkggomaaDoorW.PrintWords Go.Proofs.YtlakjonnkggomaaDoorW.PrintLast Go.Proofs.YtlakjonnkggomaaDoorW.PrintMore
def rowAt (xs : List (List Int)) (i : Nat) : List Int := xs.getD i []
theorem row_read {w : World} {A : Option Addr} {n : Nat} {xs : List (List Int)} (h : Kd.C (Kd.slice 3 (Kd.int .i64)) w A n xs) (i : Nat) (h1 : i < n) : ∃ ad A0 c0, A = some ad ∧ w.cell? (ad.add i) = some (.slice A0 (rowAt xs i).length c0) ∧ (rowAt xs i).length ≤ c0 ∧ (Kd.int .i64).C w A0 (rowAt xs i).length (rowAt xs i) := by
  obtain ⟨ad, c, e, _, hK, hc0⟩ := Kd.C_get h ([] : List Int) (i : Int) (by omega) (by omega)
  have hc : ∀ j u, c[j]? = some u → w.cell? (ad.add (i * 1 + j)) = some u := hc0
  obtain ⟨A0, c0, rfl, l0, g0⟩ := hK
  exact ⟨ad, A0, c0, e, by have hq := hc 0 _ rfl; rwa [Nat.mul_one, Nat.add_zero] at hq, l0, g0⟩
theorem rowAt_mem (xs : List (List Int)) (i : Nat) (h : i < xs.length) : rowAt xs i ∈ xs := by
  unfold rowAt; rw [List.getD_eq_getElem?_getD, List.getElem?_eq_getElem h]; exact List.getElem_mem _
theorem take_row (xs : List (List Int)) (i : Nat) (h : i < xs.length) : xs.take (i + 1) = xs.take i ++ [rowAt xs i] := by
  unfold rowAt; rw [List.take_add_one, List.getElem?_eq_getElem h, List.getD_eq_getElem?_getD, List.getElem?_eq_getElem h]; rfl
/-- How many numbers the rows have. -/
def tot (xs : List (List Int)) : Nat := (xs.map List.length).sum
theorem tot_take (xs : List (List Int)) (i : Nat) : tot (xs.take i) ≤ tot xs := by
  have h : tot xs = tot (xs.take i) + tot (xs.drop i) := by
    unfold tot; rw [← List.sum_append, ← List.map_append, List.take_append_drop]
  omega
theorem tot_row (xs : List (List Int)) (i : Nat) (h : i < xs.length) : (rowAt xs i).length ≤ tot xs := by
  have h1 := tot_take xs (i + 1)
  rw [take_row xs i h] at h1
  unfold tot at h1
  rw [List.map_append, List.sum_append] at h1
  simp at h1
  unfold tot
  omega
def AllR (xs : List (List Int)) : Prop := ∀ r ∈ xs, InR r
/-- The levels' texts, each with a stroke behind it. -/
def fmP (xs : List (List Int)) : ByteArray := xs.foldl (fun o l => o ++ (spB l ++ ⟨#[124]⟩)) ⟨#[]⟩
theorem fmP_snoc (xs : List (List Int)) (x : List Int) : fmP (xs ++ [x]) = fmP xs ++ (spB x ++ ⟨#[124]⟩) := by unfold fmP; rw [List.foldl_append]; rfl
theorem fmP_size (xs : List (List Int)) (h : AllR xs) : (fmP xs).size ≤ 22 * tot xs + 2 * xs.length := by
  revert h
  refine rev_ind (P := fun xs => AllR xs → (fmP xs).size ≤ 22 * tot xs + 2 * xs.length) (fun _ => Nat.le_refl _) ?_ xs
  intro xs x ih h
  have h1 := ih fun m hm => h m (List.mem_append_left _ hm)
  have h2 := spB_size x (h x (List.mem_append_right _ (List.mem_singleton.2 rfl)))
  have h3 : tot (xs ++ [x]) = tot xs + x.length := by unfold tot; rw [List.map_append, List.sum_append]; simp
  have h4 : (⟨#[124]⟩ : ByteArray).size = 1 := rfl
  rw [fmP_snoc, ByteArray.size_append, ByteArray.size_append, h3, List.length_append, List.length_singleton]
  omega
/-- A layout of bounded sizes. -/
def Sm (Ls : List (List Int)) (D : List Int) : Prop := Ls.length ≤ 1048576 ∧ (∀ r ∈ Ls, r.length ≤ 1048576) ∧ D.length ≤ 1048576
theorem tot_le (Ls : List (List Int)) (h : ∀ r ∈ Ls, r.length ≤ 1048576) : tot Ls ≤ 1048576 * Ls.length := by
  induction Ls with
  | nil => exact Nat.le_refl _
  | cons a t ih =>
    have h1 := ih fun r hr => h r (List.mem_cons_of_mem _ hr)
    have h2 := h a List.mem_cons_self
    unfold tot at h1 ⊢
    rw [List.map_cons, List.sum_cons, List.length_cons]
    omega
theorem Sm.tot {Ls : List (List Int)} {D : List Int} (h : Sm Ls D) : tot Ls ≤ 1100000000000 := by
  have := tot_le Ls h.2.1
  have := h.1
  omega
def inB (n : Int) : Bool := decide (-9223372036854775808 ≤ n) && decide (n ≤ 9223372036854775807)
def fmOk (Ls : List (List Int)) (D : List Int) : Bool := decide (Ls.length ≤ 1048576) && Ls.all (fun r => decide (r.length ≤ 1048576) && r.all inB) && decide (D.length ≤ 1048576) && D.all inB
theorem inR_of {l : List Int} (h : l.all inB = true) : InR l := by
  intro n hn
  have := List.all_eq_true.1 h n hn
  unfold inB at this
  simpa using this
theorem fmOk_of {Ls : List (List Int)} {D : List Int} (h : fmOk Ls D = true) : Sm Ls D ∧ AllR Ls ∧ InR D := by
  unfold fmOk at h
  simp only [Bool.and_eq_true, decide_eq_true_eq] at h
  obtain ⟨⟨⟨h1, h2⟩, h3⟩, h4⟩ := h
  have h5 : ∀ r ∈ Ls, r.length ≤ 1048576 ∧ r.all inB = true := fun r hr => by have := List.all_eq_true.1 h2 r hr; simpa using this
  exact ⟨⟨h1, fun r hr => (h5 r hr).1, h3⟩, fun r hr => inR_of (h5 r hr).2, inR_of h4⟩
theorem inB_of {l : List Int} (h : InR l) : l.all inB = true := by
  rw [List.all_eq_true]
  intro n hn
  have := h n hn
  unfold inB
  simpa using this
theorem fmOk_mk {Ls : List (List Int)} {D : List Int} (h1 : Sm Ls D) (h2 : AllR Ls) (h3 : InR D) : fmOk Ls D = true := by
  unfold fmOk
  simp only [Bool.and_eq_true, decide_eq_true_eq]
  refine ⟨⟨⟨h1.1, ?_⟩, h1.2.2⟩, inB_of h3⟩
  rw [List.all_eq_true]
  intro r hr
  simp only [Bool.and_eq_true, decide_eq_true_eq]
  exact ⟨h1.2.1 r hr, inB_of (h2 r hr)⟩
/-- The text of a layout. -/
def fmB (Ls : List (List Int)) (D : List Int) : ByteArray := fmP Ls ++ spB D
theorem wrap_succ (i n : Nat) (hi : i < n) (hn : n ≤ 1048576) : wrap64 ((i : Int) + 1) = ((i + 1 : Nat) : Int) := by rw [wrap64]; omega
theorem CS_below {w W : World} {A : Option Addr} {n : Nat} {l : List (List Int)} (h : Kd.C (Kd.slice 3 (Kd.int .i64)) w A n l) (hb : Below w.heap.size w W) : Kd.C (Kd.slice 3 (Kd.int .i64)) W A n l := Kd.C_below h hb
/-- The world behind the copy of a layout that came in. -/
def bxW (w : World) (a b : Value) : World := w.alloc (.cells #[a, b] 28)
theorem bx_below (w : World) (a b : Value) : Below w.heap.size w (bxW w a b) := (Below.refl _ w).alloc (Nat.le_refl _) _
theorem bx_size (w : World) (a b : Value) : (bxW w a b).heap.size = w.heap.size + 1 := by unfold bxW; simp
theorem bx_cell1 (w : World) (a b : Value) : (bxW w a b).cell? ⟨w.heap.size, 1, none⟩ = some b := World.cell?_alloc_new _ _ _ _
set_option maxHeartbeats 8000000 in
set_option maxRecDepth 100000 in
theorem impl_format_walk (w : World) (A0 : Option Addr) (c0 : Nat) (Ls : List (List Int)) (A1 : Option Addr) (c1 : Nat) (D : List Int) (hr : Kd.C (Kd.slice 3 (Kd.int .i64)) w A0 Ls.length Ls) (hd : Kd.C (Kd.int .i64) w A1 D.length D)
    (hR : AllR Ls) (hD : InR D) (hsz : Sm Ls D) (hp : Pow w) :
    Calls Tryd.prog 9 #[.agg #[.slice A0 Ls.length c0, .slice A1 D.length c1]] w fun e w' => e = .returned (.string (fmB Ls D)) ∧ Below w.heap.size w w' := by
  have hu := Tryd.underlying28
  obtain ⟨n, hn⟩ : ∃ n, n = Ls.length := ⟨_, rfl⟩
  have HN := Aside0.mk hn
  have HB1 := Aside0.mk (bx_below w (.slice A0 n c0) (.slice A1 D.length c1))
  have HCL := Aside0.mk (bx_cell1 w (.slice A0 n c0) (.slice A1 D.length c1))
  have HLE := Aside0.mk (show n ≤ 1048576 by have := hsz.1; omega)
  have HTT := Aside0.mk (show tot Ls ≤ 1100000000000 from hsz.tot)
  have HSZ := Aside0.mk hsz
  have HR := Aside0.mk (CS_below hr HB1.out)
  have HD := Aside0.mk (C_below hd HB1.out)
  have HRG := Aside0.mk hR
  have HDG := Aside0.mk hD
  have HP := Aside0.mk (hp.keep HB1.out (Nat.le_refl _))
  rw [← hn] at hr ⊢
  clear hr hd hR hD hsz hp hn
  go_enter Tryd.func9, Tryd.ntmps9
  go_wp2
  go_loopg [3, 9] n (fun kq v3 v9 w' => ∃ i : Nat, v9 = .int .i64 (i : Int) ∧ v3 = .string (fmP (Ls.take i)) ∧ Aside0 (kq + i = n) ∧ Aside0 (Below (bxW w (.slice A0 n c0) (.slice A1 D.length c1)).heap.size (bxW w (.slice A0 n c0) (.slice A1 D.length c1)) w'))
  case atStart => exact ⟨0, rfl, rfl, ⟨by omega⟩, ⟨Below.refl _ _⟩⟩
  case round =>
    obtain ⟨i, rfl, rfl, HI, HB⟩ := hrel
    by_cases hi : i < n
    · have h1 : (i : Int) < (n : Int) := by omega
      have h0 : (0 : Int) ≤ (i : Int) := by omega
      have hil : i < Ls.length := by rw [← HN.out]; exact hi
      obtain ⟨ad, A2, c2, rfl, hc, hc2, hK⟩ := row_read (CS_below HR.out HB.out) i (by rw [← HN.out]; exact hi)
      obtain ⟨x, hx⟩ : ∃ x, x = rowAt Ls i := ⟨_, rfl⟩
      rw [← hx] at hc hc2 hK
      have HX := Aside0.mk hx
      have HK := Aside0.mk hK
      have HXR := Aside0.mk (show InR x from HRG.out x (by rw [hx]; exact rowAt_mem Ls i hil))
      have hxl : x.length ≤ 1048576 := by rw [hx]; exact HSZ.out.2.1 _ (rowAt_mem Ls i hil)
      have HXL := Aside0.mk hxl
      have HH := Aside0.mk hi
      have HIL := Aside0.mk hil
      obtain ⟨o, ho⟩ : ∃ o, o = fmP (Ls.take i) := ⟨_, rfl⟩
      rw [← ho]
      have HOO := Aside0.mk ho
      have HOS := Aside0.mk (show o.size ≤ 1000000000000000 from by
        have h2 := fmP_size (Ls.take i) (fun r hr => HRG.out r (List.mem_of_mem_take hr))
        have h3 := tot_take Ls i
        have h4 := HTT.out
        have h6 := HSZ.out.1
        rw [ho]
        have h5 : (Ls.take i).length ≤ Ls.length := by rw [List.length_take]; omega
        omega)
      clear hx hK hi hil hxl ho
      go_wp2_with fail
      refine (spaced_walk wr A2 c2 x HK.out HXR.out (by have := HXL.out; omega) (HP.out.keep HB.out (Nat.le_refl _))).mono ?_
      rintro e w2 ⟨rfl, hb⟩
      have HB2 := Aside0.mk (HB.out.trans (hb.mono HB.out.size))
      obtain ⟨sx, hsx⟩ : ∃ sx, sx = spB x := ⟨_, rfl⟩
      rw [← hsx]
      have HSX := Aside0.mk hsx
      have hss : sx.size ≤ 1000000000 := by have := spB_size x HXR.out; rw [hsx]; have := HXL.out; omega
      have f1 : (9223372036854775807 < sx.size + 1) = False := eq_false (by omega)
      have f2 : (9223372036854775807 < o.size + (sx.size + 1)) = False := eq_false (by have := HOS.out; omega)
      clear hb hsx hss
      go_wp2
      have HW := Aside0.mk (wrap_succ i n HH.out HLE.out)
      go_roundg (gk - 1)
      case measure => have := HI.out; have := HH.out; omega
      case rel =>
        refine ⟨i + 1, by rw [HW.out], ?_, ⟨by have := HI.out; have := HH.out; omega⟩, HB2⟩
        rw [take_row Ls i HIL.out, fmP_snoc, ← HX.out, ← HSX.out, ← HOO.out]
    · have h1 : (n : Int) ≤ (i : Int) := by omega
      have HE := Aside0.mk (show i = n from by have := HI.out; omega)
      have hc1 := cell_keep HB.out _ _ HCL.out
      have HTK := Aside0.mk (show Ls.take i = Ls from by rw [HE.out, HN.out]; exact List.take_of_length_le (Nat.le_refl _))
      rw [HTK.out]
      obtain ⟨o, ho⟩ : ∃ o, o = fmP Ls := ⟨_, rfl⟩
      rw [← ho]
      have HOO := Aside0.mk ho
      have HOS := Aside0.mk (show o.size ≤ 1000000000000000 from by
        have h2 := fmP_size Ls HRG.out
        have h4 := HTT.out
        have h6 := HSZ.out.1
        rw [ho]; omega)
      clear hi ho
      go_wp2_with fail
      refine (spaced_walk wr A1 c1 D (C_below HD.out HB.out) HDG.out (by have := HSZ.out.2.2; omega) (HP.out.keep HB.out (Nat.le_refl _))).mono ?_
      rintro e w2 ⟨rfl, hb⟩
      have HB2 := Aside0.mk (HB.out.trans (hb.mono HB.out.size))
      obtain ⟨sx, hsx⟩ : ∃ sx, sx = spB D := ⟨_, rfl⟩
      rw [← hsx]
      have HSX := Aside0.mk hsx
      have hss : sx.size ≤ 1000000000 := by have := spB_size D HDG.out; rw [hsx]; have := HSZ.out.2.2; omega
      have f2 : (9223372036854775807 < o.size + sx.size) = False := eq_false (by have := HOS.out; omega)
      clear hb hsx hss
      go_wp2
      go_ret
      refine ⟨?_, HB1.out.trans (HB2.out.mono (by rw [bx_size]; omega))⟩
      unfold fmB
      rw [← HOO.out, ← HSX.out]
      rfl
end Go.Proofs.YtlakjonnkggomaaDoorW.PrintMore
