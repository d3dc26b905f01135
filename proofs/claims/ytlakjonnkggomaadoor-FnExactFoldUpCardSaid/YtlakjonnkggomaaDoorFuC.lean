/-
  FoldUp of the program and of the reference, behind LayoutValid.
-/
import Derived.Test.YtlakjonnkggomaaDoorFuB
import Derived.Test.YtlakjonnkggomaaDoorWLast
namespace Go.Proofs.YtlakjonnkggomaaDoorW.PrintMore
set_option linter.unusedVariables false
set_option linter.unusedSimpArgs false
open Go.Proofs Go.Deep Go.Shelf
open Go.RowKit Go.Proofs.YtlakjonnkggomaaDoorW.PrintWords Go.Proofs.YtlakjonnkggomaaDoorW.PrintLast Go.Proofs.YtlakjonnkggomaaDoorW.PrintMore
def toN (l : List Int) : List Nat := l.map Int.toNat
def natL (l : List Int) : Bool := l.all fun n => decide (0 ≤ n) && decide (n ≤ 400)
def vdB : Nat → List (List Nat) → List Int → Bool
  | e, [], D => D.length == e
  | e, L :: Ls, D => L.length == e && vdB L.sum Ls D
/-- The layout is one of which FoldUp speaks. -/
def fuOk (Ls : List (List Int)) (D : List Int) : Bool := Ls.all natL && vdB 1 (Ls.map toN) D && decide (Ls.length ≤ 3) && Ls.all (fun r => decide (r.length ≤ 1048576)) && decide (D.length ≤ 1048576) && D.all inB
theorem vdN_of : ∀ (Ls : List (List Nat)) (e : Nat) (D : List Int), vdB e Ls D = true → VdN e Ls D
  | [], e, D, h => (by simpa [vdB] using h : D.length = e)
  | L :: Ls, e, D, h => by
    unfold vdB at h
    rw [Bool.and_eq_true] at h
    exact ⟨by simpa using h.1, vdN_of Ls _ D h.2⟩
theorem vdN_sum : ∀ (Ls : List (List Nat)) (e : Nat) (D : List Int), VdN e Ls D → (∀ L ∈ Ls, L.length ≤ 1048576) → D.length ≤ 1048576 → ∀ L ∈ Ls, L.sum ≤ 1048576
  | [], _, _, _, _, _, L, hL => by cases hL
  | M :: Ls, e, D, h, hl, hd, L, hL => by
    rcases List.mem_cons.1 hL with rfl | hL
    · have h2 := h.2
      cases Ls with
      | nil => have : D.length = L.sum := h2; omega
      | cons K Ks => have h3 : K.length = L.sum := h2.1; have := hl K (List.mem_cons_of_mem _ List.mem_cons_self); omega
    · exact vdN_sum Ls _ D h.2 (fun K hK => hl K (List.mem_cons_of_mem _ hK)) hd L hL
theorem nts_toN (l : List Int) (h : natL l = true) : lv_nts (toN l) = l := by
  unfold lv_nts toN
  rw [List.map_map]
  conv => rhs; rw [← List.map_id l]
  apply List.map_congr_left
  intro n hn
  have := List.all_eq_true.1 h n hn
  simp at this
  show ((n.toNat : Nat) : Int) = n
  omega
structure FuOk (Ls : List (List Int)) (D : List Int) : Prop where
  nts : (Ls.map toN).map lv_nts = Ls
  vd : VdN 1 (Ls.map toN) D
  lsz : Lsz (Ls.map toN)
  l400 : L400 (Ls.map toN)
  sums : ∀ L ∈ Ls.map toN, L.sum ≤ 1048576
  inR : InR D
  dl : D.length ≤ 1048576
theorem fuOk_of {Ls : List (List Int)} {D : List Int} (h : fuOk Ls D = true) : FuOk Ls D := by
  unfold fuOk at h
  simp only [Bool.and_eq_true, decide_eq_true_eq] at h
  obtain ⟨⟨⟨⟨⟨h1, h2⟩, h3⟩, h4⟩, h5⟩, h6⟩ := h
  have hn : ∀ r ∈ Ls, natL r = true := fun r hr => List.all_eq_true.1 h1 r hr
  have hl : ∀ L ∈ Ls.map toN, L.length ≤ 1048576 := by
    intro L hL
    obtain ⟨r, hr, rfl⟩ := List.mem_map.1 hL
    have := List.all_eq_true.1 h4 r hr
    unfold toN
    rw [List.length_map]
    simpa using this
  have hv := vdN_of _ _ _ h2
  refine ⟨?_, hv, ⟨by rw [List.length_map]; exact h3, hl⟩, ?_, vdN_sum _ _ _ hv hl h5, inR_of h6, h5⟩
  · rw [List.map_map]
    conv => rhs; rw [← List.map_id Ls]
    apply List.map_congr_left
    intro r hr
    exact nts_toN r (hn r hr)
  · intro L hL n hL2
    obtain ⟨r, hr, rfl⟩ := List.mem_map.1 hL
    obtain ⟨z, hz, rfl⟩ := List.mem_map.1 hL2
    have := List.all_eq_true.1 (hn r hr) z hz
    simp at this
    omega
/-- The text of a layout's array. -/
def txZ (Ls : List (List Int)) (D : List Int) : ByteArray := txN (Ls.map toN) D 0
def LVc (f : FuncId) (A0 : Option Addr) (n c0 : Nat) (A1 : Option Addr) (m c1 : Nat) (b : Bool) (w : World) : Prop := ∀ W, Below w.heap.size w W → Calls Tryd.prog f #[.agg #[.slice A0 n c0, .slice A1 m c1]] W fun e w' => e = .returned (.bool b) ∧ Below W.heap.size W w'
/-- A layout in a variable. -/
def OBL (W : World) (o : Nat) (a b : Value) : Prop := W.heap[o]? = some (.cells #[a, b] 28 (0, 0))
set_option maxHeartbeats 8000000 in
set_option maxRecDepth 100000 in
theorem impl_fold_no (w : World) (A0 : Option Addr) (n c0 : Nat) (A1 : Option Addr) (m c1 : Nat) (hv : LVc 30 A0 n c0 A1 m c1 false w) :
    Calls Tryd.prog 16 #[.agg #[.slice A0 n c0, .slice A1 m c1]] w fun e w' => e = .returned (.tuple #[.string ⟨#[]⟩, .bool false]) ∧ Below w.heap.size w w' := by
  have hul := Tryd.underlying28
  have hb1 : Below w.heap.size w (w.alloc (.cells #[.slice A0 n c0, .slice A1 m c1] 28)) := (Below.refl _ w).alloc (Nat.le_refl _) _
  have HV := Aside0.mk (hv _ hb1)
  have HB1 := Aside0.mk hb1
  clear hv hb1
  go_enter Tryd.func16, Tryd.ntmps16
  go_wp2_with fail
  refine HV.out.mono ?_
  rintro e w2 ⟨rfl, hb⟩
  have HB2 := Aside0.mk (HB1.out.trans (hb.mono HB1.out.size))
  clear hb
  go_wp2
  go_ret2
  exact ⟨rfl, HB2.out⟩
set_option maxHeartbeats 8000000 in
set_option maxRecDepth 100000 in
theorem spec_fold_no (w : World) (A0 : Option Addr) (n c0 : Nat) (A1 : Option Addr) (m c1 : Nat) (hv : LVc 35 A0 n c0 A1 m c1 false w) :
    Calls Tryd.prog 15 #[.agg #[.slice A0 n c0, .slice A1 m c1]] w fun e w' => e = .returned (.tuple #[.string ⟨#[]⟩, .bool false]) ∧ Below w.heap.size w w' := by
  have hul := Tryd.underlying28
  have hb1 : Below w.heap.size w (w.alloc (.cells #[.slice A0 n c0, .slice A1 m c1] 28)) := (Below.refl _ w).alloc (Nat.le_refl _) _
  have HV := Aside0.mk (hv _ hb1)
  have HB1 := Aside0.mk hb1
  clear hv hb1
  go_enter Tryd.func15, Tryd.ntmps15
  go_wp2_with fail
  refine HV.out.mono ?_
  rintro e w2 ⟨rfl, hb⟩
  have HB2 := Aside0.mk (HB1.out.trans (hb.mono HB1.out.size))
  clear hb
  go_wp2
  go_ret2
  exact ⟨rfl, HB2.out⟩
set_option maxHeartbeats 16000000 in
set_option maxRecDepth 100000 in
theorem impl_fold_yes (w : World) (A0 : Option Addr) (n c0 : Nat) (A1 : Option Addr) (m c1 : Nat) (Ls : List (List Int)) (D : List Int) (hn : n = Ls.length) (hm : m = D.length) (hok : FuOk Ls D)
    (hr : Kd.C (Kd.slice 3 (Kd.int .i64)) w A0 n Ls) (hd : Kd.C (Kd.int .i64) w A1 m D) (hv : LVc 30 A0 n c0 A1 m c1 true w) (hp : Pow w) :
    Calls Tryd.prog 16 #[.agg #[.slice A0 n c0, .slice A1 m c1]] w fun e w' => e = .returned (.tuple #[.string (shB (txZ Ls D)), .bool (shK (txZ Ls D))]) ∧ Below w.heap.size w w' := by
  have hul := Tryd.underlying28
  have hun := Tryd.underlying61
  have hb1 : Below w.heap.size w (w.alloc (.cells #[.slice A0 n c0, .slice A1 m c1] 28)) := (Below.refl _ w).alloc (Nat.le_refl _) _
  have HV := Aside0.mk (hv _ hb1)
  have HB1 := Aside0.mk hb1
  obtain ⟨Ns, hNs⟩ : ∃ Ns, Ns = Ls.map toN := ⟨_, rfl⟩
  have hlen : Ns.length = Ls.length := by rw [hNs, List.length_map]
  have hr' : Kd.C (Kd.slice 3 (Kd.int .i64)) w A0 n (Ns.map lv_nts) := by rw [hNs, hok.nts]; exact hr
  have HBX := Aside0.mk (show OBL (w.alloc (.cells #[.slice A0 n c0, .slice A1 m c1] 28)) w.heap.size (.slice A0 n c0) (.slice A1 m c1) from blk_new w _)
  have HR := Aside0.mk hr'
  have HD := Aside0.mk hd
  have HOK := Aside0.mk hok
  have HN := Aside0.mk (show n = Ns.length from by rw [hlen]; exact hn)
  have HM := Aside0.mk hm
  have HNS := Aside0.mk hNs
  have HPW := Aside0.mk hp
  have HLS := Aside0.mk (show Lsz Ns from by rw [hNs]; exact hok.lsz)
  have HVD := Aside0.mk (show VdN 1 Ns D from by rw [hNs]; exact hok.vd)
  have HSM := Aside0.mk (show ∀ L ∈ Ns, L.sum ≤ 1048576 from by rw [hNs]; exact hok.sums)
  have HL4 := Aside0.mk (show L400 Ns from by rw [hNs]; exact hok.l400)
  clear hv hb1 hr hr' hd hok hn hm hNs hlen hp
  go_enter Tryd.func16, Tryd.ntmps16
  go_wp2_with fail
  refine HV.out.mono ?_
  rintro e w2 ⟨rfl, hb⟩
  have HB2 := Aside0.mk (HB1.out.trans (hb.mono HB1.out.size))
  have HX2 := Aside0.mk (show OBL w2 w.heap.size (.slice A0 n c0) (.slice A1 m c1) from (hb.block _ (blk_lt HBX.out)).trans HBX.out)
  have HSZ2 := Aside0.mk (show w.heap.size < w2.heap.size from by have := hb.size; have h := blk_lt HBX.out; omega)
  have hx0 : w2.cell? ⟨w.heap.size, 0, none⟩ = some (.slice A0 n c0) := (blk_cell HX2.out 0).trans rfl
  have hx1 : w2.cell? ⟨w.heap.size, 1, none⟩ = some (.slice A1 m c1) := (blk_cell HX2.out 1).trans rfl
  clear hb
  go_upto_region 3 with (fail)
  refine start_ (n := 12) (S := fun w' => w'.cell? ⟨w.heap.size, 0, none⟩ = some (.slice A0 n c0) ∧ w'.cell? ⟨w.heap.size, 1, none⟩ = some (.slice A1 m c1)) (ds := []) #[false, false, false, false, false, false, false, false, false, false, false, false] (by kernel_rfl) rfl rfl ⟨hx0, hx1⟩ (fun hHeld => ?_)
  have HX3 := Aside0.mk (show OBL w2.drew w.heap.size (.slice A0 n c0) (.slice A1 m c1) from blk_drew HX2.out)
  have HB3 := Aside0.mk (below_drew1 HB2.out)
  have HSZ3 := Aside0.mk (show w.heap.size < w2.drew.heap.size from HSZ2.out)
  generalize w2.drew = w3 at HX3 HB3 HSZ3 hHeld ⊢
  clear HX2 HB2 HSZ2 hx0 hx1
  refine take_ (i := 0) (N := some 7) (v := ?_) (a' := ?_) #[true, false, false, false, false, false, false, false, false, false, false, false] rfl rfl (by kernel_rfl) (fun _ _ _ h => h) (Or.inl ⟨by rfl, ?_⟩) hHeld ?_ ?_
  rotate_left
  · rintro w' ⟨s0, s1⟩
    go_simp
    with_reducible rfl
  rotate_left
  · simp only [Act.put, List.setIfInBounds_toArray, List.set_cons_zero, List.set_cons_succ, i64_w, i32_w]
    rfl
  refine take_ (i := 4) (N := some 11) (v := ?_) (a' := ?_) #[true, false, false, false, true, false, false, false, false, false, false, false] rfl rfl (by kernel_rfl) (fun _ _ _ h => h) (Or.inl ⟨by rfl, ?_⟩) hHeld ?_ ?_
  rotate_left
  · rintro w' ⟨s0, s1⟩
    go_simp
    with_reducible rfl
  rotate_left
  · simp only [Act.put, List.setIfInBounds_toArray, List.set_cons_zero, List.set_cons_succ, i64_w, i32_w]
    rfl
  refine take_ (i := 5) (N := some 12) (v := ?_) (a' := ?_) #[true, false, false, false, true, true, false, false, false, false, false, false] rfl rfl (by kernel_rfl) (fun _ _ _ h => h) (Or.inl ⟨by rfl, ?_⟩) hHeld ?_ ?_
  rotate_left
  · rintro w' ⟨s0, s1⟩
    go_simp
    with_reducible rfl
  rotate_left
  · simp only [Act.put, List.setIfInBounds_toArray, List.set_cons_zero, List.set_cons_succ, i64_w, i32_w]
    rfl
  refine take_ (i := 6) (N := some 13) (v := ?_) (a' := ?_) #[true, false, false, false, true, true, true, false, false, false, false, false] rfl rfl (by kernel_rfl) (fun _ _ _ h => h) (Or.inl ⟨by rfl, ?_⟩) hHeld ?_ ?_
  rotate_left
  · rintro w' ⟨s0, s1⟩
    go_simp
    with_reducible rfl
  rotate_left
  · simp only [Act.put, List.setIfInBounds_toArray, List.set_cons_zero, List.set_cons_succ, i64_w, i32_w]
    rfl
  refine one_ (i := 1) (N := some 8) #[true, true, false, false, true, true, true, false, false, false, false, false] rfl rfl (by kernel_rfl) (by decide) (fun K hK => ?_)
  refine goes_ Tryd.func38 (by kernel_rfl) rfl #[.agg #[.slice A0 n c0, .slice A1 m c1], .int .i64 1] (by rfl) rfl rfl (by (try simp only [List.map_toArray, List.map_cons, List.map_nil]); first | done | rfl) ?_
  have hcall := raised_walk w3 A0 c0 Ns A1 c1 D 1 1 (by rw [← HN.out]; exact lv_CS_below HR.out HB3.out) (by rw [← HM.out]; exact lv_C_below HD.out HB3.out) HVD.out HLS.out HOK.out.dl
  rw [← HN.out, ← HM.out] at hcall
  refine hcall.mono ?_
  clear hcall
  rintro e w4 ⟨A, k, rfl, hk, ⟨xs, hC, hP, hNd⟩, hb4⟩
  refine ⟨_, rfl, ?_⟩
  obtain ⟨ad, hA, hc1, hc2⟩ := pair_at hC 0 (by omega)
  cases hA
  have hN0 := hNd 0 (by omega)
  have hpl2 := hP A rfl
  obtain ⟨x1, x2, hxx⟩ : ∃ x1 x2, xs.getD 0 pD = (x1, x2) := ⟨_, _, rfl⟩
  rw [hxx] at hc1 hc2 hN0
  obtain ⟨z9, A9, n9, k9, e1, e2⟩ := nd_form (show Nd w4 (fun _ => True) Ns D 0 (.agg #[x1, x2]) from hN0)
  subst e1
  subst e2
  have hc1' : w4.cell? A = some (.int .i64 z9) := by
    rw [hpl2.add] at hc1
    have e : A = ⟨A.block, A.off + 0 * 2, none⟩ := by rw [Nat.zero_mul, Nat.add_zero]; exact hpl2
    rw [e]; exact hc1
  have hc2' : w4.cell? ⟨A.block, A.off + 1, none⟩ = some (.slice A9 n9 k9) := by
    rw [hpl2.add] at hc2
    rw [Nat.zero_mul, Nat.zero_add] at hc2
    exact hc2
  have HND := Aside0.mk hN0
  have HX4 := Aside0.mk (show OBL w4 w.heap.size (.slice A0 n c0) (.slice A1 m c1) from (hb4.block _ HSZ3.out).trans HX3.out)
  have HB4 := Aside0.mk (HB3.out.trans (hb4.mono HB3.out.size))
  have HSZ4 := Aside0.mk (show w.heap.size < w4.heap.size from Nat.lt_of_lt_of_le HSZ3.out hb4.size)
  refine hK.out _ _ ⟨(blk_cell HX4.out 0).trans rfl, (blk_cell HX4.out 1).trans rfl⟩ (fun hHeld => ?_)
  clear hK K hb4
  clear hC hP hNd hc1 hc2 hN0 hpl2 hxx HX3 HB3 HSZ3
  refine norm_ (a' := ?_) ?_ ?_
  rotate_left
  · simp only [Act.put, List.setIfInBounds_toArray, List.set_cons_zero, List.set_cons_succ, i64_w, i32_w]
    rfl
  refine pure_ (i := 2) (N := some 9) (v := ?_) (a' := ?_) #[true, true, true, false, true, true, true, false, false, false, false, false] rfl rfl (by kernel_rfl) (fun _ _ _ h => h) (Or.inl ⟨by rfl, ?_⟩) ?_ ?_
  rotate_left
  · intro w'
    go_simp
    with_reducible rfl
  rotate_left
  · simp only [Act.put, List.setIfInBounds_toArray, List.set_cons_zero, List.set_cons_succ, i64_w, i32_w]
    rfl
  refine one_ (i := 3) (N := some 10) #[true, true, true, true, true, true, true, false, false, false, false, false] rfl rfl (by kernel_rfl) (by decide) (fun K hK => ?_)
  refine value_ (w1 := w4) (v := .agg #[.int .i64 z9, .slice A9 n9 k9]) (by rfl) rfl ?_ ?_
  · go_simp
    first | rfl | done
  refine hK.out _ _ ⟨(blk_cell HX4.out 0).trans rfl, (blk_cell HX4.out 1).trans rfl⟩ (fun hHeld => ?_)
  clear hK K
  refine norm_ (a' := ?_) ?_ ?_
  rotate_left
  · simp only [Act.put, List.setIfInBounds_toArray, List.set_cons_zero, List.set_cons_succ, i64_w, i32_w]
    rfl
  refine one_ (i := 7) (N := some 14) #[true, true, true, true, true, true, true, true, false, false, false, false] rfl rfl (by kernel_rfl) (by decide) (fun K hK => ?_)
  refine goes_ Tryd.func39 (by kernel_rfl) rfl #[.agg #[.int .i64 z9, .slice A9 n9 k9], .int .i64 (n : Int)] (by rfl) rfl rfl (by (try simp only [List.map_toArray, List.map_cons, List.map_nil]); first | done | rfl) ?_
  have hcall := short_walk w4 Ns D 0 z9 A9 n9 k9 HND.out HLS.out.1 HL4.out HOK.out.inR (HPW.out.keep HB4.out (Nat.le_refl _))
  rw [← HN.out] at hcall
  refine hcall.mono ?_
  clear hcall
  rintro e w5 ⟨rfl, hb5⟩
  refine ⟨_, rfl, ?_⟩
  have HX5 := Aside0.mk (show OBL w5 w.heap.size (.slice A0 n c0) (.slice A1 m c1) from (hb5.block _ HSZ4.out).trans HX4.out)
  have HB5 := Aside0.mk (HB4.out.trans (hb5.mono HB4.out.size))
  refine hK.out _ _ ⟨(blk_cell HX5.out 0).trans rfl, (blk_cell HX5.out 1).trans rfl⟩ (fun hHeld => ?_)
  clear hK K hb5
  refine norm_ (a' := ?_) ?_ ?_
  rotate_left
  · simp only [Act.put, List.setIfInBounds_toArray, List.set_cons_zero, List.set_cons_succ, i64_w, i32_w]
    rfl
  refine pure_ (i := 8) (N := some 15) (v := ?_) (a' := ?_) #[true, true, true, true, true, true, true, true, true, false, false, false] rfl rfl (by kernel_rfl) (fun _ _ _ h => h) (Or.inl ⟨by rfl, ?_⟩) ?_ ?_
  rotate_left
  · intro w'
    go_simp
    with_reducible rfl
  rotate_left
  · simp only [Act.put, List.setIfInBounds_toArray, List.set_cons_zero, List.set_cons_succ, i64_w, i32_w]
    rfl
  refine pure_ (i := 9) (N := some 16) (v := ?_) (a' := ?_) #[true, true, true, true, true, true, true, true, true, true, false, false] rfl rfl (by kernel_rfl) (fun _ _ _ h => h) (Or.inl ⟨by rfl, ?_⟩) ?_ ?_
  rotate_left
  · intro w'
    go_simp
    with_reducible rfl
  rotate_left
  · simp only [Act.put, List.setIfInBounds_toArray, List.set_cons_zero, List.set_cons_succ, i64_w, i32_w]
    rfl
  refine pure_ (i := 10) (N := some 2) (v := ?_) (a' := ?_) #[true, true, true, true, true, true, true, true, true, true, true, false] rfl rfl (by kernel_rfl) (fun _ _ _ h => h) (Or.inl ⟨by rfl, ?_⟩) ?_ ?_
  rotate_left
  · intro w'
    go_simp
    with_reducible rfl
  rotate_left
  · simp only [Act.put, List.setIfInBounds_toArray, List.set_cons_zero, List.set_cons_succ, i64_w, i32_w]
    rfl
  refine pure_ (i := 11) (N := some 3) (v := ?_) (a' := ?_) #[true, true, true, true, true, true, true, true, true, true, true, true] rfl rfl (by kernel_rfl) (fun _ _ _ h => h) (Or.inl ⟨by rfl, ?_⟩) ?_ ?_
  rotate_left
  · intro w'
    go_simp
    with_reducible rfl
  rotate_left
  · simp only [Act.put, List.setIfInBounds_toArray, List.set_cons_zero, List.set_cons_succ, i64_w, i32_w]
    rfl
  refine done_ (by kernel_rfl) ?_
  go_wp2
  go_ret2
  refine ⟨?_, HB5.out⟩
  have e1 : txN Ns D 0 = txZ Ls D := by unfold txZ; rw [HNS.out]
  rw [e1]
  rfl
set_option maxHeartbeats 16000000 in
set_option maxRecDepth 100000 in
theorem spec_fold_yes (w : World) (A0 : Option Addr) (n c0 : Nat) (A1 : Option Addr) (m c1 : Nat) (Ls : List (List Int)) (D : List Int) (hn : n = Ls.length) (hm : m = D.length) (hok : FuOk Ls D)
    (hr : Kd.C (Kd.slice 3 (Kd.int .i64)) w A0 n Ls) (hd : Kd.C (Kd.int .i64) w A1 m D) (hv : LVc 35 A0 n c0 A1 m c1 true w) :
    Calls Tryd.prog 15 #[.agg #[.slice A0 n c0, .slice A1 m c1]] w fun e w' => e = .returned (.tuple #[.string (shB (txZ Ls D)), .bool (shK (txZ Ls D))]) ∧ Below w.heap.size w w' := by
  have hul := Tryd.underlying28
  have hun := Tryd.underlying57
  have hb1 : Below w.heap.size w (w.alloc (.cells #[.slice A0 n c0, .slice A1 m c1] 28)) := (Below.refl _ w).alloc (Nat.le_refl _) _
  have HV := Aside0.mk (hv _ hb1)
  have HB1 := Aside0.mk hb1
  obtain ⟨Ns, hNs⟩ : ∃ Ns, Ns = Ls.map toN := ⟨_, rfl⟩
  have hlen : Ns.length = Ls.length := by rw [hNs, List.length_map]
  have hr' : Kd.C (Kd.slice 3 (Kd.int .i64)) w A0 n (Ns.map lv_nts) := by rw [hNs, hok.nts]; exact hr
  have HBX := Aside0.mk (show OBL (w.alloc (.cells #[.slice A0 n c0, .slice A1 m c1] 28)) w.heap.size (.slice A0 n c0) (.slice A1 m c1) from blk_new w _)
  have HR := Aside0.mk hr'
  have HD := Aside0.mk hd
  have HOK := Aside0.mk hok
  have HN := Aside0.mk (show n = Ns.length from by rw [hlen]; exact hn)
  have HM := Aside0.mk hm
  have HNS := Aside0.mk hNs
  have HLS := Aside0.mk (show Lsz Ns from by rw [hNs]; exact hok.lsz)
  have HVD := Aside0.mk (show VdN 1 Ns D from by rw [hNs]; exact hok.vd)
  have HSM := Aside0.mk (show ∀ L ∈ Ns, L.sum ≤ 1048576 from by rw [hNs]; exact hok.sums)
  have HL4 := Aside0.mk (show L400 Ns from by rw [hNs]; exact hok.l400)
  clear hv hb1 hr hr' hd hok hn hm hNs hlen
  go_enter Tryd.func15, Tryd.ntmps15
  go_wp2_with fail
  refine HV.out.mono ?_
  rintro e w2 ⟨rfl, hb⟩
  have HB2 := Aside0.mk (HB1.out.trans (hb.mono HB1.out.size))
  have HX2 := Aside0.mk (show OBL w2 w.heap.size (.slice A0 n c0) (.slice A1 m c1) from (hb.block _ (blk_lt HBX.out)).trans HBX.out)
  have HSZ2 := Aside0.mk (show w.heap.size < w2.heap.size from by have := hb.size; have h := blk_lt HBX.out; omega)
  have hx0 : w2.cell? ⟨w.heap.size, 0, none⟩ = some (.slice A0 n c0) := (blk_cell HX2.out 0).trans rfl
  have hx1 : w2.cell? ⟨w.heap.size, 1, none⟩ = some (.slice A1 m c1) := (blk_cell HX2.out 1).trans rfl
  clear hb
  go_upto_region 3 with (fail)
  refine start_ (n := 10) (S := fun w' => w'.cell? ⟨w.heap.size, 0, none⟩ = some (.slice A0 n c0) ∧ w'.cell? ⟨w.heap.size, 1, none⟩ = some (.slice A1 m c1)) (ds := []) #[false, false, false, false, false, false, false, false, false, false] (by kernel_rfl) rfl rfl ⟨hx0, hx1⟩ (fun hHeld => ?_)
  have HX3 := Aside0.mk (show OBL w2.drew w.heap.size (.slice A0 n c0) (.slice A1 m c1) from blk_drew HX2.out)
  have HB3 := Aside0.mk (below_drew1 HB2.out)
  have HSZ3 := Aside0.mk (show w.heap.size < w2.drew.heap.size from HSZ2.out)
  generalize w2.drew = w3 at HX3 HB3 HSZ3 hHeld ⊢
  clear HX2 HB2 HSZ2 hx0 hx1
  refine take_ (i := 0) (N := some 7) (v := ?_) (a' := ?_) #[true, false, false, false, false, false, false, false, false, false] rfl rfl (by kernel_rfl) (fun _ _ _ h => h) (Or.inl ⟨by rfl, ?_⟩) hHeld ?_ ?_
  rotate_left
  · rintro w' ⟨s0, s1⟩
    go_simp
    with_reducible rfl
  rotate_left
  · simp only [Act.put, List.setIfInBounds_toArray, List.set_cons_zero, List.set_cons_succ, i64_w, i32_w]
    rfl
  refine take_ (i := 2) (N := some 9) (v := ?_) (a' := ?_) #[true, false, true, false, false, false, false, false, false, false] rfl rfl (by kernel_rfl) (fun _ _ _ h => h) (Or.inl ⟨by rfl, ?_⟩) hHeld ?_ ?_
  rotate_left
  · rintro w' ⟨s0, s1⟩
    go_simp
    with_reducible rfl
  rotate_left
  · simp only [Act.put, List.setIfInBounds_toArray, List.set_cons_zero, List.set_cons_succ, i64_w, i32_w]
    rfl
  refine take_ (i := 3) (N := some 10) (v := ?_) (a' := ?_) #[true, false, true, true, false, false, false, false, false, false] rfl rfl (by kernel_rfl) (fun _ _ _ h => h) (Or.inl ⟨by rfl, ?_⟩) hHeld ?_ ?_
  rotate_left
  · rintro w' ⟨s0, s1⟩
    go_simp
    with_reducible rfl
  rotate_left
  · simp only [Act.put, List.setIfInBounds_toArray, List.set_cons_zero, List.set_cons_succ, i64_w, i32_w]
    rfl
  refine take_ (i := 4) (N := some 11) (v := ?_) (a' := ?_) #[true, false, true, true, true, false, false, false, false, false] rfl rfl (by kernel_rfl) (fun _ _ _ h => h) (Or.inl ⟨by rfl, ?_⟩) hHeld ?_ ?_
  rotate_left
  · rintro w' ⟨s0, s1⟩
    go_simp
    with_reducible rfl
  rotate_left
  · simp only [Act.put, List.setIfInBounds_toArray, List.set_cons_zero, List.set_cons_succ, i64_w, i32_w]
    rfl
  refine one_ (i := 1) (N := some 8) #[true, true, true, true, true, false, false, false, false, false] rfl rfl (by kernel_rfl) (by decide) (fun K hK => ?_)
  refine goes_ Tryd.func37 (by kernel_rfl) rfl #[.agg #[.slice A0 n c0, .slice A1 m c1]] (by rfl) rfl rfl (by (try simp only [List.map_toArray, List.map_cons, List.map_nil]); first | done | rfl) ?_
  refine (fold_walk w3 A0 n c0 Ns A1 m c1 D HN.out HM.out (by rw [HM.out]; exact HOK.out.dl) HLS.out HVD.out (lv_CS_below HR.out HB3.out) (lv_C_below HD.out HB3.out) HSM.out).mono ?_
  rintro e w4 ⟨x1, x2, rfl, hN0, hb4⟩
  refine ⟨_, rfl, ?_⟩
  obtain ⟨z9, A9, n9, k9, e1, e2⟩ := nd_form hN0
  subst e1
  subst e2
  have HND := Aside0.mk hN0
  have HX4 := Aside0.mk (show OBL w4 w.heap.size (.slice A0 n c0) (.slice A1 m c1) from (hb4.block _ HSZ3.out).trans HX3.out)
  have HB4 := Aside0.mk (HB3.out.trans (hb4.mono HB3.out.size))
  have HSZ4 := Aside0.mk (show w.heap.size < w4.heap.size from Nat.lt_of_lt_of_le HSZ3.out hb4.size)
  refine hK.out _ _ ⟨(blk_cell HX4.out 0).trans rfl, (blk_cell HX4.out 1).trans rfl⟩ (fun hHeld => ?_)
  clear hK K hb4
  clear hN0 HX3 HB3 HSZ3
  refine norm_ (a' := ?_) ?_ ?_
  rotate_left
  · simp only [Act.put, List.setIfInBounds_toArray, List.set_cons_zero, List.set_cons_succ, i64_w, i32_w]
    rfl
  refine one_ (i := 5) (N := some 12) #[true, true, true, true, true, true, false, false, false, false] rfl rfl (by kernel_rfl) (by decide) (fun K hK => ?_)
  refine goes_ Tryd.func36 (by kernel_rfl) rfl #[.agg #[.int .i64 z9, .slice A9 n9 k9], .int .i64 (n : Int)] (by rfl) rfl rfl (by (try simp only [List.map_toArray, List.map_cons, List.map_nil]); first | done | rfl) ?_
  have hcall := told_walk w4 Ns D 0 z9 A9 n9 k9 HND.out HLS.out.1 HL4.out HOK.out.inR
  rw [← HN.out] at hcall
  refine hcall.mono ?_
  clear hcall
  rintro e w5 ⟨rfl, hb5⟩
  refine ⟨_, rfl, ?_⟩
  have HX5 := Aside0.mk (show OBL w5 w.heap.size (.slice A0 n c0) (.slice A1 m c1) from (hb5.block _ HSZ4.out).trans HX4.out)
  have HB5 := Aside0.mk (HB4.out.trans (hb5.mono HB4.out.size))
  refine hK.out _ _ ⟨(blk_cell HX5.out 0).trans rfl, (blk_cell HX5.out 1).trans rfl⟩ (fun hHeld => ?_)
  clear hK K hb5
  refine norm_ (a' := ?_) ?_ ?_
  rotate_left
  · simp only [Act.put, List.setIfInBounds_toArray, List.set_cons_zero, List.set_cons_succ, i64_w, i32_w]
    rfl
  refine pure_ (i := 6) (N := some 13) (v := ?_) (a' := ?_) #[true, true, true, true, true, true, true, false, false, false] rfl rfl (by kernel_rfl) (fun _ _ _ h => h) (Or.inl ⟨by rfl, ?_⟩) ?_ ?_
  rotate_left
  · intro w'
    go_simp
    with_reducible rfl
  rotate_left
  · simp only [Act.put, List.setIfInBounds_toArray, List.set_cons_zero, List.set_cons_succ, i64_w, i32_w]
    rfl
  refine pure_ (i := 7) (N := some 14) (v := ?_) (a' := ?_) #[true, true, true, true, true, true, true, true, false, false] rfl rfl (by kernel_rfl) (fun _ _ _ h => h) (Or.inl ⟨by rfl, ?_⟩) ?_ ?_
  rotate_left
  · intro w'
    go_simp
    with_reducible rfl
  rotate_left
  · simp only [Act.put, List.setIfInBounds_toArray, List.set_cons_zero, List.set_cons_succ, i64_w, i32_w]
    rfl
  refine pure_ (i := 8) (N := some 2) (v := ?_) (a' := ?_) #[true, true, true, true, true, true, true, true, true, false] rfl rfl (by kernel_rfl) (fun _ _ _ h => h) (Or.inl ⟨by rfl, ?_⟩) ?_ ?_
  rotate_left
  · intro w'
    go_simp
    with_reducible rfl
  rotate_left
  · simp only [Act.put, List.setIfInBounds_toArray, List.set_cons_zero, List.set_cons_succ, i64_w, i32_w]
    rfl
  refine pure_ (i := 9) (N := some 3) (v := ?_) (a' := ?_) #[true, true, true, true, true, true, true, true, true, true] rfl rfl (by kernel_rfl) (fun _ _ _ h => h) (Or.inl ⟨by rfl, ?_⟩) ?_ ?_
  rotate_left
  · intro w'
    go_simp
    with_reducible rfl
  rotate_left
  · simp only [Act.put, List.setIfInBounds_toArray, List.set_cons_zero, List.set_cons_succ, i64_w, i32_w]
    rfl
  refine done_ (by kernel_rfl) ?_
  go_wp2
  go_ret2
  refine ⟨?_, HB5.out⟩
  have e1 : txN Ns D 0 = txZ Ls D := by unfold txZ; rw [HNS.out]
  rw [e1]
  rfl
end Go.Proofs.YtlakjonnkggomaaDoorW.PrintMore
