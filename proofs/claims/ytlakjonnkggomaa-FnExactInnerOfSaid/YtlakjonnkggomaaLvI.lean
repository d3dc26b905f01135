/-
  InnerOf of the reference.
-/
import Derived.Test.YtlakjonnkggomaaLvH
namespace Go.Proofs.YtlakjonnkggomaaW.PrintMore
set_option linter.unusedVariables false
set_option linter.unusedSimpArgs false
open Go.Proofs Go.Deep
open Go.RowKit Go.Proofs.YtlakjonnkggomaaW.PrintWords Go.Proofs.YtlakjonnkggomaaW.PrintLast Go.Proofs.YtlakjonnkggomaaW.PrintMore
/-- A row of ints stays where the int rows stay. -/
theorem kI_keep {W W' : World} {base : Nat} {P : Nat → Prop} {v : Value} {xs : List Int} (h : Kd.R kI 3 W base P v xs) (hm : ∀ (k : Nat) (cs : Array Value), W.heap[k]? = some (.cells cs 3 (0, 0)) → W'.heap[k]? = W.heap[k]?) : Kd.R kI 3 W' base P v xs := by
  refine Kd.R_mono (Kd.R_move (Kd.R_bound h) (fun k hk => ?_)) (fun k hk => hk.1)
  obtain ⟨_, _, _, q, hq, cs, hcs⟩ := hk
  have : q = 3 := by simpa [kI, Kd.int, Kd.scalar] using hq
  subst this
  exact hm k cs hcs
theorem kI_empty {W : World} {g base : Nat} {P : Nat → Prop} (h : W.heap[g]? = some (.cells #[] 3 (0, 0))) (hb : base ≤ g) (hp : P g) : Kd.R kI 3 W base P (.slice (some ⟨g, 0, none⟩) 0 0) [] :=
  ⟨fun k hk => by have : g = k := by simpa [Value.ownBlock] using hk
                  subst this; exact hp, [], ⟨rfl, .inr ⟨g, 0, #[], rfl, hb, h, Nat.le_refl _, by unfold maxLen; omega, rfl, rfl⟩⟩, Reps.none _ _⟩
theorem lsT3 : ∀ q, q ∈ 23 :: kOne.E → q ≠ 30 := by
  intro q hq
  have : q = 23 := by simpa [kOne] using hq
  subst this; decide
/-- A layout of so many levels that is being made, the levels empty. -/
structure BR (W W0 : World) (b : Nat) (v vD : Value) (d j : Nat) (us : List Value) (f : Nat → Nat) : Prop where
  blk : W.heap[b]? = some (.cells #[v, vD] 30 (0, 0))
  hb : W0.heap.size ≤ b
  HB : Below W0.heap.size W0 W
  HR : Kd.R kOne 23 W W0.heap.size (fun _ => True) v us
  len : us.length = j
  rows : ∀ q, q < j → ∃ u, us[q]? = some u ∧ Kd.R kI 3 W W0.heap.size (fun k => f k = q) u []
  dat : Kd.R kI 3 W W0.heap.size (fun k => f k = d) vD []
  own : v.ownBlock ≠ none
theorem BR.step {W W0 W2 : World} {b d j : Nat} {v vD v1 : Value} {us : List Value} {f : Nat → Nat} (h : BR W W0 b v vD d j us f) (hj : j < d) (hg : (W.alloc (.cells #[] 3)).grownBy W2 v.ownBlock) (hB : Below W0.heap.size W0 W2)
    (hR : Kd.R kOne 23 W2 W0.heap.size (fun _ => True) v1 (us ++ [.slice (some ⟨W.heap.size, 0, none⟩) 0 0])) (ho : v1.ownBlock ≠ none) : BR (W2.setCell ⟨b, 0, none⟩ v1) W0 b v1 vD d (j + 1) (us ++ [.slice (some ⟨W.heap.size, 0, none⟩) 0 0]) (recol W f j) := by
  have hbA : Below W.heap.size W (W.alloc (.cells #[] 3)) := (Below.refl _ _).alloc (Nat.le_refl _) _
  have hRA := Kd.R_below h.HR hbA
  have hblk2 : W2.heap[b]? = some (.cells #[v, vD] 30 (0, 0)) := blk_grown (blk_below h.blk hbA) hg (Kd.R_ne hRA (blk_below h.blk hbA) (by decide))
  have hnew : (W.alloc (.cells #[] 3)).heap[W.heap.size]? = some (.cells #[] 3 (0, 0)) := blk_new W _
  have hm : ∀ (k : Nat) (cs : Array Value), (W.alloc (.cells #[] 3)).heap[k]? = some (.cells cs 3 (0, 0)) → (W2.setCell ⟨b, 0, none⟩ v1).heap[k]? = (W.alloc (.cells #[] 3)).heap[k]? := fun k cs hk => by
    have h1 := blk_grown hk hg (Kd.R_ne hRA hk (by decide))
    exact (blk_far h1 (ne_tag h1 hblk2 (by decide)) v1).trans hk.symm
  have hm0 : ∀ (k : Nat) (cs : Array Value), W.heap[k]? = some (.cells cs 3 (0, 0)) → (W2.setCell ⟨b, 0, none⟩ v1).heap[k]? = W.heap[k]? := fun k cs hk => by
    rw [hm k cs (blk_below hk hbA), hk]
    exact blk_below hk hbA
  have hc : ∀ (c : Nat) (u : Value), Kd.R kI 3 W W0.heap.size (fun k => f k = c) u [] → Kd.R kI 3 (W2.setCell ⟨b, 0, none⟩ v1) W0.heap.size (fun k => recol W f j k = c) u [] := fun c u hu => kI_keep (recol_R hu) hm0
  refine ⟨blk_put hblk2 0 v1 rfl, h.hb, below_set hB h.hb, Kd.R_set hR hblk2 lsT3 0 v1, by rw [List.length_append, h.len]; rfl, fun q hq => ?_, hc d vD h.dat, ho⟩
  by_cases hqj : q < j
  · obtain ⟨u, hu, hru⟩ := h.rows q hqj
    exact ⟨u, by rw [List.getElem?_append_left (by rw [h.len]; exact hqj)]; exact hu, hc q u hru⟩
  · obtain rfl : q = j := by omega
    refine ⟨_, by rw [← h.len]; exact List.getElem?_concat_length, kI_empty (by rw [hm _ _ hnew]; exact hnew) h.HB.size (recol_new (Nat.le_refl _))⟩
theorem BR.done {W W0 : World} {b d : Nat} {v vD : Value} {us : List Value} {f : Nat → Nat} (h : BR W W0 b v vD d d us f) : ∃ gL cL, v = .slice (some ⟨gL, 0, none⟩) d cL ∧ d ≤ cL ∧ cL ≤ maxLen ∧ LS W b W0.heap.size gL cL vD (List.replicate d []) [] := by
  have hHR := h.HR
  obtain ⟨_, inner, ⟨hl, hrow⟩, hrep⟩ := hHR
  rcases hrow with ⟨rfl, _⟩ | ⟨gL, cL, cur, rfl, hg, hcur, hc, hcm, hsz, htk⟩
  · exact absurd rfl h.own
  have hlen := h.len
  have hblk := h.blk
  rw [hlen] at hc htk hblk ⊢
  refine ⟨gL, cL, rfl, hc, hcm, by rw [List.length_replicate]; exact hblk, h.hb, hg, by rw [List.length_replicate]; exact hc, rz_of hcur (by rw [hsz]; exact Nat.mul_one _), cur, f, hcur, fun i hi => ?_, by rw [List.length_replicate]; exact h.dat⟩
  rw [List.length_replicate] at hi
  obtain ⟨u, hu, hru⟩ := h.rows i hi
  refine ⟨u, ?_, ?_⟩
  · have hp := (hrep.2 i u hu).1
    have e1 : (inner.drop (i * 1)).take 1 = [u] := hp
    rw [Nat.mul_one] at e1
    have e2 : inner[i]? = some u := by
      have := congrArg (fun l => l[0]?) e1
      simpa [List.getElem?_take, List.getElem?_drop] using this
    have htk2 : cur.toList.take d = inner := by rw [← htk]; congr 1; exact (Nat.mul_one d).symm
    rw [← htk2, List.getElem?_take_of_lt hi, Array.getElem?_toList] at e2
    exact e2
  · rw [List.getD_eq_getElem?_getD, List.getElem?_replicate, if_pos hi]
    exact hru
set_option maxHeartbeats 8000000 in
set_option maxRecDepth 100000 in
theorem spec_inner_no (w : World) (A0 : Option Addr) (n c0 : Nat) (A1 : Option Addr) (m c1 : Nat) (t : Bool) (ht : t = false ∨ n = 0) (hn : n ≤ 1048576) (hv : LVc 28 A0 n c0 A1 m c1 t w) :
    Calls Try.prog 15 #[.agg #[.slice A0 n c0, .slice A1 m c1]] w fun e w' => ∃ v, e = .returned (.tuple #[v, .bool false]) ∧ GS w' w.heap.size v [] ∧ Below w.heap.size w w' := by
  have hul := Try.underlying30
  have hb0 : Below w.heap.size w (w.alloc (.cells #[.slice A0 n c0, .slice A1 m c1] 30)) := (Below.refl _ w).alloc (Nat.le_refl _) _
  have hb1 : Below w.heap.size w ((w.alloc (.cells #[.slice A0 n c0, .slice A1 m c1] 30)).alloc (.cells #[] 30)) := hb0.alloc hb0.size _
  have HV := Aside0.mk (hv _ hb1)
  have HB1 := Aside0.mk hb1
  have HG1 := Aside0.mk (show GS ((w.alloc (.cells #[.slice A0 n c0, .slice A1 m c1] 30)).alloc (.cells #[] 30)) w.heap.size (.slice (some ⟨w.heap.size + 1, 0, none⟩) 0 0) [] from by
    have h := GS.nil (W := w.alloc (.cells #[.slice A0 n c0, .slice A1 m c1] 30)) hb0.size
    simpa using h)
  have HBX := Aside0.mk (show OBL ((w.alloc (.cells #[.slice A0 n c0, .slice A1 m c1] 30)).alloc (.cells #[] 30)) w.heap.size (.slice A0 n c0) (.slice A1 m c1) from blk_below (blk_new w _) ((Below.refl _ _).alloc (Nat.le_refl _) _))
  have HW1 := Aside0.mk (blk_lt HBX.out)
  have hx0 : ((w.alloc (.cells #[.slice A0 n c0, .slice A1 m c1] 30)).alloc (.cells #[] 30)).cell? ⟨w.heap.size, 0, none⟩ = some (.slice A0 n c0) := (blk_cell HBX.out 0).trans rfl
  have hx1 : ((w.alloc (.cells #[.slice A0 n c0, .slice A1 m c1] 30)).alloc (.cells #[] 30)).cell? ⟨w.heap.size, 1, none⟩ = some (.slice A1 m c1) := (blk_cell HBX.out 1).trans rfl
  clear hv hb1 hb0
  go_enter Try.func15, Try.ntmps15
  go_wp2_with fail
  refine HV.out.mono ?_
  rintro e w2 ⟨rfl, hb⟩
  have HB2 := Aside0.mk (HB1.out.trans (hb.mono HB1.out.size))
  have HG2 := Aside0.mk (HG1.out.below hb)
  have HX2 := Aside0.mk (show OBL w2 w.heap.size (.slice A0 n c0) (.slice A1 m c1) from (hb.block _ HW1.out).trans HBX.out)
  clear hb hx0 hx1
  have hx0 : w2.cell? ⟨w.heap.size, 0, none⟩ = some (.slice A0 n c0) := (blk_cell HX2.out 0).trans rfl
  have hx1 : w2.cell? ⟨w.heap.size, 1, none⟩ = some (.slice A1 m c1) := (blk_cell HX2.out 1).trans rfl
  cases t with
  | false =>
    go_wp2
    go_ret2
    exact ⟨_, rfl, HG2.out, HB2.out⟩
  | true =>
    obtain rfl : n = 0 := by simpa using ht
    go_wp2
    go_ret2
    exact ⟨_, rfl, HG2.out, HB2.out⟩
set_option maxHeartbeats 16000000 in
set_option maxRecDepth 100000 in
theorem spec_inner_yes (w : World) (A0 : Option Addr) (n c0 : Nat) (A1 : Option Addr) (m c1 : Nat) (L : List Int) (Ls : List (List Int)) (D : List Int) (hn : n = Ls.length + 1) (hm : m = D.length) (hok : InOk (L :: Ls) D)
    (hr : Kd.C (Kd.slice 3 (Kd.int .i64)) w A0 n (L :: Ls)) (hd : Kd.C (Kd.int .i64) w A1 m D) (hv : LVc 28 A0 n c0 A1 m c1 true w) :
    Calls Try.prog 15 #[.agg #[.slice A0 n c0, .slice A1 m c1]] w fun e w' => ∃ v, e = .returned (.tuple #[v, .bool true]) ∧ GS w' w.heap.size v (inZ L Ls D) ∧ Below w.heap.size w w' := by
  have hul := Try.underlying30
  have hun := Try.underlying52
  have hb0 : Below w.heap.size w (w.alloc (.cells #[.slice A0 n c0, .slice A1 m c1] 30)) := (Below.refl _ w).alloc (Nat.le_refl _) _
  have hb1 : Below w.heap.size w ((w.alloc (.cells #[.slice A0 n c0, .slice A1 m c1] 30)).alloc (.cells #[] 30)) := hb0.alloc hb0.size _
  have HV := Aside0.mk (hv _ hb1)
  obtain ⟨Ns, hNs⟩ : ∃ Ns, Ns = Ls.map toN := ⟨_, rfl⟩
  obtain ⟨N0, hN0⟩ : ∃ N0, N0 = toN L := ⟨_, rfl⟩
  have hlen : Ns.length = Ls.length := by rw [hNs, List.length_map]
  have hcons : (L :: Ls).map toN = N0 :: Ns := by rw [hN0, hNs]; rfl
  have hr' : Kd.C (Kd.slice 3 (Kd.int .i64)) w A0 n ((N0 :: Ns).map lv_nts) := by rw [← hcons, hok.nts]; exact hr
  have HR := Aside0.mk hr'
  have HD := Aside0.mk hd
  have HOK := Aside0.mk hok
  have HN := Aside0.mk (show n = (N0 :: Ns).length from by rw [List.length_cons, hlen]; exact hn)
  have HM := Aside0.mk hm
  have HINZ := Aside0.mk (show inZ L Ls D = (List.range (N0.getD 0 0)).map (fun c => ldA Ns D ((N0.take 0).sum + c)) from by unfold inZ; rw [← hN0, ← hNs])
  have HLS := Aside0.mk (show Lsz (N0 :: Ns) from by rw [← hcons]; exact hok.lsz)
  have HVD := Aside0.mk (show VdN 1 (N0 :: Ns) D from by rw [← hcons]; exact hok.vd)
  have HSM := Aside0.mk (show ∀ M ∈ N0 :: Ns, M.sum ≤ 1048576 from by rw [← hcons]; exact hok.sums)
  have HL4 := Aside0.mk (show ∀ M ∈ N0 :: Ns, ∀ q ∈ M, q ≤ 400 from by rw [← hcons]; exact hok.l400)
  have hn1 : ((n : Int) == 0) = false := beq_eq_false_iff_ne.2 (by omega)
  have HN1 := Aside0.mk (show n = Ns.length + 1 from by omega)
  have HWD := Aside0.mk (show wrap64 ((n : Int) - 1) = (Ns.length : Int) from by have h5 := hok.lsz.1; rw [List.length_map, List.length_cons] at h5; rw [wrap64]; omega)
  have HLL := Aside0.mk (show Ns.length ≤ 2 from by have h5 := hok.lsz.1; rw [List.length_map, List.length_cons] at h5; omega)
  have HL44 := Aside0.mk (show ∀ M ∈ Ns, ∀ q ∈ M, q ≤ 400 from fun M hM => HL4.out M (List.mem_cons_of_mem _ hM))
  obtain ⟨W1, hW1⟩ : ∃ W1, W1 = (w.alloc (.cells #[.slice A0 n c0, .slice A1 m c1] 30)).alloc (.cells #[] 30) := ⟨_, rfl⟩
  have HG1 := Aside0.mk (show GS W1 w.heap.size (.slice (some ⟨w.heap.size + 1, 0, none⟩) 0 0) [] from by
    have h := GS.nil (W := w.alloc (.cells #[.slice A0 n c0, .slice A1 m c1] 30)) hb0.size
    rw [hW1]
    simpa using h)
  have HE1 := Aside0.mk (show W1.heap[w.heap.size + 1]? = some (.cells #[] 30 (0, 0)) from by
    have h := blk_new (w.alloc (.cells #[.slice A0 n c0, .slice A1 m c1] 30)) (.cells #[] 30)
    rw [hW1]
    simpa using h)
  have HX1 := Aside0.mk (show OBL W1 w.heap.size (.slice A0 n c0) (.slice A1 m c1) from by rw [hW1]; exact blk_below (blk_new w _) ((Below.refl _ _).alloc (Nat.le_refl _) _))
  rw [← hW1] at hb1
  have HB1 := Aside0.mk hb1
  have HWW := Aside0.mk hW1
  have hx0 : W1.cell? ⟨w.heap.size, 0, none⟩ = some (.slice A0 n c0) := (blk_cell HX1.out 0).trans rfl
  have hx1 : W1.cell? ⟨w.heap.size, 1, none⟩ = some (.slice A1 m c1) := (blk_cell HX1.out 1).trans rfl
  clear hv hb1 hb0 hr hr' hd hok hn hm hNs hN0 hlen hcons hW1
  go_enter Try.func15, Try.ntmps15
  go_upto_region 2 with (fail)
  rw [← HWW.out]
  go_wp2_with fail
  rw [HWW.out]
  refine HV.out.mono ?_
  rw [← HWW.out]
  rintro e w2 ⟨rfl, hb⟩
  have HB2 := Aside0.mk (HB1.out.trans (hb.mono HB1.out.size))
  have HG2 := Aside0.mk (HG1.out.below hb)
  have HE2 := Aside0.mk (show w2.heap[w.heap.size + 1]? = some (.cells #[] 30 (0, 0)) from blk_below HE1.out hb)
  have HX2 := Aside0.mk (show OBL w2 w.heap.size (.slice A0 n c0) (.slice A1 m c1) from blk_below HX1.out hb)
  clear hb hx0 hx1
  have hx0 : w2.cell? ⟨w.heap.size, 0, none⟩ = some (.slice A0 n c0) := (blk_cell HX2.out 0).trans rfl
  have hx1 : w2.cell? ⟨w.heap.size, 1, none⟩ = some (.slice A1 m c1) := (blk_cell HX2.out 1).trans rfl
  go_wp2_with fail
  rw [HWD.out]
  refine (fold_walk w2 A0 n c0 (N0 :: Ns) A1 m c1 D HN.out HM.out (by rw [HM.out]; exact HOK.out.dl) HLS.out HVD.out (lv_CS_below HR.out HB2.out) (lv_C_below HD.out HB2.out) HSM.out).mono ?_
  rintro e w4 ⟨x1, x2, rfl, hN0, hb4⟩
  obtain ⟨A9, k9, xs9, e, h1, hC9, ho9, hx9⟩ := hN0
  obtain ⟨rfl, rfl⟩ : x1 = .int .i64 0 ∧ x2 = .slice A9 (N0.getD 0 0) k9 := by
    injection e with e
    have e2 := congrArg Array.toList e
    simp at e2
    exact ⟨e2.1, by simpa [List.getD_eq_getElem?_getD] using e2.2⟩
  obtain ⟨nn, hnn⟩ : ∃ nn, nn = N0.getD 0 0 := ⟨_, rfl⟩
  rw [← hnn] at h1 hC9 ho9 hx9 ⊢
  have HNN := Aside0.mk hnn
  have HC9 := Aside0.mk hC9
  have HO9 := Aside0.mk ho9
  have HX9 := Aside0.mk hx9
  have HN4 := Aside0.mk (show nn ≤ 400 from by
    rw [hnn, List.getD_eq_getElem?_getD]
    cases hi : N0[0]? with
    | none => exact Nat.zero_le _
    | some q => exact HL4.out N0 List.mem_cons_self q (List.mem_of_getElem? hi))
  have HB4 := Aside0.mk (HB2.out.trans (hb4.mono HB2.out.size))
  have HG4 := Aside0.mk (HG2.out.below hb4)
  obtain ⟨g9, hg9⟩ : ∃ g9, g9 = w.heap.size + 1 := ⟨_, rfl⟩
  have HE4 := Aside0.mk (show w4.heap[g9]? = some (.cells #[] 30 (0, 0)) from by rw [hg9]; exact blk_below HE2.out hb4)
  rw [← hg9] at HG4 ⊢
  have HW4 := Aside0.mk (show KB w4 w4 g9 from ⟨Nat.le_refl _, fun _ _ => rfl⟩)
  obtain ⟨d, hdd⟩ : ∃ d, d = Ns.length := ⟨_, rfl⟩
  have HDD := Aside0.mk hdd
  have HDL := Aside0.mk (show d ≤ 2 from by rw [hdd]; exact HLL.out)
  rw [← hdd]
  clear hx0 hx1 hb4 e hnn h1 hC9 ho9 hx9 hg9 hdd HX2 HE2 HG2
  obtain ⟨F, hF⟩ : ∃ F : Nat → List (List Int) × List Int, F = fun c => ldA Ns D ((N0.take 0).sum + c) := ⟨_, rfl⟩
  have HF := Aside0.mk hF
  clear hF
  have hfld : ∀ W : World, (Instr.field 52 (.agg #[.int .i64 0, .slice A9 nn k9]) 1).run Try.prog W = .ok (.slice A9 nn k9) W := by
    intro W
    kernel_rfl
  go_wp2_with fail
  clear hfld
  go_loopg [4, 28] nn (fun kq v4 v28 w' => ∃ i : Nat, v28 = .int .i64 (i : Int) ∧ Aside0 (kq + i = nn) ∧ Aside0 (GS w' w.heap.size v4 ((List.range i).map F)) ∧ Aside0 (Below w.heap.size w w') ∧ Aside0 (KB w4 w' g9) ∧ Aside0 (∀ k, v4.ownBlock = some k → k = g9 ∨ w4.heap.size ≤ k))
  case atStart => exact ⟨0, rfl, ⟨by omega⟩, HG4, HB4, HW4, ⟨fun k hk => .inl (by simpa [Value.ownBlock] using hk.symm)⟩⟩
  case round =>
    obtain ⟨i, rfl, HI, HG, HB, HW, HON⟩ := hrel
    by_cases hi : i < nn
    · have h1 : (i : Int) < (nn : Int) := by omega
      have h0 : (0 : Int) ≤ (i : Int) := by omega
      obtain ⟨ad, rfl, hc1, hc2⟩ := pair_at2 (pair_move HC9.out (fun ad ha hp => HW.out.2 _ (pair_ne HC9.out HE4.out ad ha hp))) i hi
      have hNd := nd_kb HE4.out HW.out (HX9.out i hi)
      obtain ⟨x1, x2, hxx⟩ : ∃ x1 x2, xs9.getD i pD = (x1, x2) := ⟨_, _, rfl⟩
      rw [hxx] at hc1 hc2 hNd
      have hpl2 := (HO9.out ad rfl (by omega)).2
      have hc2' : wr.cell? ⟨(ad.add (i * 2)).block, (ad.add (i * 2)).off + 1, none⟩ = some x2 := by
        rw [hpl2.add] at hc2 ⊢
        exact hc2
      clear hpl2
      obtain ⟨z9, A8, n8, k8, e1, e2⟩ := nd_form (show Nd wr (fun _ => True) Ns D _ (.agg #[x1, x2]) from hNd)
      subst e1
      subst e2
      have HND := Aside0.mk hNd
      have HH := Aside0.mk hi
      have HWR := Aside0.mk (show wrap64 ((i : Int) + 1) = ((i + 1 : Nat) : Int) from by have := HN4.out; rw [wrap64]; omega)
      clear hi hxx hNd
      go_upto_region 8 with (fail)
      have hbA : Below wr.heap.size wr (wr.alloc (.cells #[.int .i64 z9, .slice A8 n8 k8] 52)) := (Below.refl _ _).alloc (Nat.le_refl _) _
      have HO5 := Aside0.mk (show OS (wr.alloc (.cells #[.int .i64 z9, .slice A8 n8 k8] 52)) wr.heap.size (.int .i64 z9) (.slice A8 n8 k8) from blk_new wr _)
      have HG5 := Aside0.mk (HG.out.below hbA)
      have HB5 := Aside0.mk (HB.out.trans (hbA.mono HB.out.size))
      have HW5 := Aside0.mk (HW.out.below hbA)
      have HN5 := Aside0.mk (nd_below hbA _ _ _ _ HND.out)
      obtain ⟨g5, hg5⟩ : ∃ g5, g5 = wr.heap.size := ⟨_, rfl⟩
      rw [← hg5] at HO5 ⊢
      generalize wr.alloc (.cells #[.int .i64 z9, .slice A8 n8 k8] 52) = W0 at HO5 HG5 HB5 HW5 HN5 ⊢
      clear hbA hg5 hc1 hc2 hc2' HG HB HW HND
      obtain ⟨WB, hWB⟩ : ∃ WB, WB = ((W0.alloc (.cells #[] 23)).alloc (.cells #[] 3)).alloc (.cells #[.slice (some ⟨W0.heap.size, 0, none⟩) 0 0, .slice (some ⟨W0.heap.size + 1, 0, none⟩) 0 0] 30) := ⟨_, rfl⟩
      have hbr : BR WB W0 (W0.heap.size + 1 + 1) (.slice (some ⟨W0.heap.size, 0, none⟩) 0 0) (.slice (some ⟨W0.heap.size + 1, 0, none⟩) 0 0) d 0 [] (fun _ => d) := by
        have b1 : Below W0.heap.size W0 (W0.alloc (.cells #[] 23)) := (Below.refl _ _).alloc (Nat.le_refl _) _
        have b2 : Below (W0.alloc (.cells #[] 23)).heap.size (W0.alloc (.cells #[] 23)) ((W0.alloc (.cells #[] 23)).alloc (.cells #[] 3)) := (Below.refl _ _).alloc (Nat.le_refl _) _
        have b3 : Below ((W0.alloc (.cells #[] 23)).alloc (.cells #[] 3)).heap.size ((W0.alloc (.cells #[] 23)).alloc (.cells #[] 3)) WB := by rw [hWB]; exact (Below.refl _ _).alloc (Nat.le_refl _) _
        have n1 : WB.heap[W0.heap.size]? = some (.cells #[] 23 (0, 0)) := blk_below (blk_below (blk_new W0 _) b2) b3
        have n2 : WB.heap[W0.heap.size + 1]? = some (.cells #[] 3 (0, 0)) := blk_below (by have h := blk_new (W0.alloc (.cells #[] 23)) (.cells #[] 3); simpa using h) b3
        have n3 : WB.heap[W0.heap.size + 1 + 1]? = some (.cells #[.slice (some ⟨W0.heap.size, 0, none⟩) 0 0, .slice (some ⟨W0.heap.size + 1, 0, none⟩) 0 0] 30 (0, 0)) := by
          have h := blk_new ((W0.alloc (.cells #[] 23)).alloc (.cells #[] 3)) (.cells #[.slice (some ⟨W0.heap.size, 0, none⟩) 0 0, .slice (some ⟨W0.heap.size + 1, 0, none⟩) 0 0] 30)
          rw [hWB]
          simpa using h
        refine ⟨n3, by omega, (b1.trans (b2.mono b1.size)).trans (b3.mono (Nat.le_trans b1.size b2.size)), ⟨fun _ _ => trivial, [], ⟨rfl, .inr ⟨W0.heap.size, 0, #[], rfl, Nat.le_refl _, n1, Nat.le_refl _, by unfold maxLen; omega, rfl, rfl⟩⟩, Reps.none _ _⟩, rfl, fun q hq => absurd hq (Nat.not_lt_zero q), kI_empty n2 (by omega) rfl, by simp [Value.ownBlock]⟩
      have HBR := Aside0.mk hbr
      have HWB := Aside0.mk hWB
      obtain ⟨b, hb⟩ : ∃ b, b = W0.heap.size + 1 + 1 := ⟨_, rfl⟩
      have HBB := Aside0.mk hb
      clear hbr hWB hb
      go_wp2_with fail
      rw [← HWB.out]
      rw [← HBB.out] at HBR ⊢
      go_loopg [37] d (fun kq v37 w' => ∃ (j : Nat) (v : Value) (us : List Value) (f : Nat → Nat), v37 = .int .i64 (j : Int) ∧ Aside0 (kq + j = d) ∧ Aside0 (BR w' W0 b v (.slice (some ⟨W0.heap.size + 1, 0, none⟩) 0 0) d j us f))
      case atStart => exact ⟨0, _, _, _, rfl, ⟨by omega⟩, HBR⟩
      case round =>
        obtain ⟨j, v, us, f, rfl, HJ, HBRj⟩ := hrel
        by_cases hj : j < d
        · have h2 : (j : Int) < (d : Int) := by omega
          obtain ⟨A6, k6, hv6, _, _⟩ := Kd.R_reads HBRj.out.HR
          subst hv6
          have hcb : wr.cell? ⟨b, 0, none⟩ = some (.slice A6 us.length k6) := (blk_cell HBRj.out.blk 0).trans rfl
          have hba : Below wr.heap.size wr (wr.alloc (.cells #[] 3)) := (Below.refl _ _).alloc (Nat.le_refl _) _
          have HRA := Aside0.mk (show Kd.R kOne 23 (wr.alloc (.cells #[] 3)) W0.heap.size (fun _ => True) (.slice A6 us.length k6) us from Kd.R_below HBRj.out.HR hba)
          have HBA := Aside0.mk (HBRj.out.HB.trans (hba.mono HBRj.out.HB.size))
          have HLU := Aside0.mk (show us.length ≤ 2 from by have := HDL.out; have := HBRj.out.len; omega)
          have HBLK := Aside0.mk (show (wr.alloc (.cells #[] 3)).heap[b]? = some (.cells #[.slice A6 us.length k6, .slice (some ⟨W0.heap.size + 1, 0, none⟩) 0 0] 30 (0, 0)) from blk_below HBRj.out.blk hba)
          have HJJ := Aside0.mk hj
          have HWJ := Aside0.mk (show wrap64 ((j : Int) + 1) = ((j + 1 : Nat) : Int) from by have := HDL.out; rw [wrap64]; omega)
          clear hj hba
          go_wp2_with (first | ((with_reducible refine gate_builtin (b := .append) (xs := #[.tmp 43, .tmp 45]) rfl ?_); at_builtin; refine Kd.R_append kOne (w0 := W0) W0.heap.size rfl (.tmp 43) (.tmp 45) 22 23 (.slice none 0 0) 24 rfl Try.underlying22 rows_info rfl (by decide) (by omega) _ us (.slice (some ⟨wr.heap.size, 0, none⟩) 0 0) [.slice (some ⟨wr.heap.size, 0, none⟩) 0 0] (fun _ => True) (fun _ => False) rfl ?aX ?aP (fun _ hk => hk.elim) ?aF ?aO ?aB ?aS ?aL ?_; (case aX => first | rfl | (simp [Act.eval]; done)); (case aP => exact ⟨rfl, rfl⟩); (case aF => exact fun _ _ => trivial); (case aO => exact HRA.out); (case aB => exact HBA.out); (case aS => exact HBA.out.size); (case aL => have := HLU.out; omega); intro v1 w9 ho hb9 hg9 hat9; have HR1 := Aside0.mk ho; have HB9 := Aside0.mk hb9; have HGR := Aside0.mk hg9; have HAT := Aside0.mk hat9; have hcb9 : w9.cell? ⟨b, 0, none⟩ = some (.slice A6 us.length k6) := (blk_cell (blk_grown HBLK.out hg9 (Kd.R_ne HRA.out HBLK.out (by decide))) 0).trans rfl; have hfb9 := blk_frozen (blk_grown HBLK.out hg9 (Kd.R_ne HRA.out HBLK.out (by decide))) 0; obtain ⟨A7, k7, hv7, _, _⟩ := Kd.R_reads HR1.out; subst hv7; clear ho hb9 hg9 hat9))
          go_roundg (gk - 1)
          case measure => have := HJ.out; have := HJJ.out; omega
          case rel =>
            refine ⟨j + 1, Value.slice A7 (us ++ [Value.slice (some ⟨wr.heap.size, 0, none⟩) 0 0]).length k7, us ++ [Value.slice (some ⟨wr.heap.size, 0, none⟩) 0 0], recol wr f j, by rw [HWJ.out], ⟨by have := HJ.out; have := HJJ.out; omega⟩, ⟨?_⟩⟩
            have h := HBRj.out.step HJJ.out HGR.out HB9.out HR1.out (by
              rcases HAT.out with e | ⟨b, e, _⟩
              · rw [e]; exact HBRj.out.own
              · rw [e]; simp)
            have e : (us ++ [Value.slice (some ⟨wr.heap.size, 0, none⟩) 0 0]).length = us.length + 1 := by rw [List.length_append]; rfl
            rw [e] at h ⊢
            exact h
        · have h2 : (d : Int) ≤ (j : Int) := by omega
          have HE := Aside0.mk (show j = d from by have := HJ.out; omega)
          clear hj
          have hbrd := HBRj.out
          rw [HE.out] at hbrd
          obtain ⟨gL, cL, hv, hcL, hcm, hLS⟩ := hbrd.done
          have hO := blk_below HO5.out hbrd.HB
          have hy0 : wr.cell? ⟨g5, 0, none⟩ = some (.int .i64 z9) := (blk_cell hO 0).trans rfl
          have hy1 : wr.cell? ⟨g5, 1, none⟩ = some (.slice A8 n8 k8) := (blk_cell hO 1).trans rfl
          have HLSr := Aside0.mk hLS
          have HBr := Aside0.mk hbrd.HB
          have HCL := Aside0.mk hcL
          have HCM := Aside0.mk hcm
          clear hbrd hv hcL hcm hLS hO
          go_wp2_with fail
          have hcall := put_walk W0 b W0.heap.size gL cL rfl Ns D HL44.out 0 ((N0.take 0).sum + i) (.agg #[.int .i64 z9, .slice A8 n8 k8]) wr (.slice (some ⟨W0.heap.size + 1, 0, none⟩) 0 0) (List.replicate d []) [] 0 (by rw [List.length_replicate, HDD.out]; omega) (by rw [List.length_replicate]; have := HDL.out; omega) HN5.out HBr.out HLSr.out ⟨fun M hM => by rw [(List.mem_replicate.1 hM).2]; exact Nat.le_refl _, Nat.le_refl _⟩ (by
            have h := HLL.out
            have h3 : ∀ m, m ≤ 2 → lyC m ≤ 100000000 := by decide
            have := h3 _ h
            omega)
          refine hcall.mono ?_
          clear hcall hy0 hy1
          rintro e w8 ⟨vD, rfl, hLS, _, hB8⟩
          have hld : lyA Ns D 0 ((N0.take 0).sum + i) (List.replicate d [], []) = ldA Ns D ((N0.take 0).sum + i) := by unfold ldA; rw [HDD.out]
          rw [hld] at hLS
          have hlen : (ldA Ns D ((N0.take 0).sum + i)).1.length = d := by rw [ldA_len, HDD.out]
          obtain ⟨AD, kD, hvD, _, _⟩ := Kd.R_reads hLS.rows.choose_spec.choose_spec.2.2
          obtain ⟨eD, heD⟩ : ∃ eD, eD = (ldA Ns D ((N0.take 0).sum + i)).2.length := ⟨_, rfl⟩
          rw [← heD] at hvD
          subst hvD
          have hblk := hLS.blk
          rw [hlen] at hblk
          have hcb0 : w8.cell? ⟨b, 0, none⟩ = some (.slice (some ⟨gL, 0, none⟩) d cL) := (blk_cell hblk 0).trans rfl
          have hcb1 : w8.cell? ⟨b, 1, none⟩ = some (.slice AD eD kD) := (blk_cell hblk 1).trans rfl
          have HB8 := Aside0.mk (HB5.out.trans (hB8.mono HB5.out.size))
          have HW8 := Aside0.mk (HW5.out.below hB8)
          obtain ⟨f, ps, hl, hRp, hxs⟩ := HG5.out
          have hlx : ((List.range i).map F).length = i := by rw [List.length_map, List.length_range]
          have hlsr : LSR w8 W0.heap.size gL cL (.slice AD eD kD) (ldA Ns D ((N0.take 0).sum + i)).1 (ldA Ns D ((N0.take 0).sum + i)).2 := by
            obtain ⟨rs, f1, e1, e2, e3⟩ := hLS.rows
            exact ⟨rs, f1, e1, hLS.hz rs e1, e2, e3⟩
          obtain ⟨f', hf', hlay⟩ := LayV.of (base := w.heap.size) (i := i) (n := d) hlsr HB5.out.size (Nat.le_trans HB5.out.size hLS.hg) hlen.symm HCL.out HCM.out f
          have hxs8 : ∀ q, q < ((List.range i).map F).length → LayV w8 w.heap.size f' q (ps.getD q pD).1 (ps.getD q pD).2 (((List.range i).map F).getD q ([], [])).1 (((List.range i).map F).getD q ([], [])).2 := fun q hq => ((hxs q hq).recol hf').keep (fun k cs t hk _ => hB8.block k (blk_lt hk))
          have HLP := Aside0.mk hl
          have HLP4 := Aside0.mk (show ps.length ≤ 400 from by have h3 := HH.out; have h4 := HN4.out; omega)
          have HRP := Aside0.mk (Kd.R_below hRp hB8)
          have HXS := Aside0.mk hxs8
          have HLAY := Aside0.mk hlay
          have HLI := Aside0.mk hlx
          clear hLS hB8 hl hRp hxs hxs8 hlay hlx hf' heD hblk hlsr hld hlen HG5 HB5 HW5 HN5 HO5 HBRj HLSr HBr
          go_wp2_with (first | ((with_reducible refine gate_builtin (b := .append) (xs := #[.tmp 53, .tmp 57]) rfl ?_); at_builtin; refine Kd.R_append kPair (w0 := w) w.heap.size rfl (.tmp 53) (.tmp 57) 27 30 (.agg #[.slice none 0 0, .slice none 0 0]) 48 rfl Try.underlying27 layout_info rfl (by decide) (by omega) _ ps (.slice (some ⟨gL, 0, none⟩) d cL, .slice AD eD kD) [.slice (some ⟨gL, 0, none⟩) d cL, .slice AD eD kD] (fun _ => True) (fun _ => False) rfl ?aX ?aP (fun _ hk => hk.elim) ?aF ?aO ?aB ?aS ?aL ?_; (case aX => first | rfl | (simp [Act.eval]; done)); (case aP => exact pair_M _ _ _ _ _ rfl rfl); (case aF => exact fun _ _ => trivial); (case aO => exact HRP.out); (case aB => exact HB8.out); (case aS => exact HB8.out.size); (case aL => have := HLP4.out; omega); intro v1 w9 ho hb9 hg9 hat9; have HR1 := Aside0.mk ho; have HB9 := Aside0.mk hb9; have HGR := Aside0.mk hg9; have HAT := Aside0.mk hat9; clear ho hb9 hg9 hat9))
          have HG9 := Aside0.mk (show GS w9 w.heap.size v1 ((List.range i).map F ++ [F i]) from GS.snoc HLP.out HRP.out HXS.out (by rw [HLI.out, HF.out]; exact HLAY.out) HR1.out HGR.out)
          have HSW9 : w8.heap.size ≤ w9.heap.size := HGR.out.size
          have HW9 := Aside0.mk (show KB w4 w9 g9 from HW8.out.grown HGR.out HSW9 HON.out)
          have HON9 := Aside0.mk (show ∀ k, v1.ownBlock = some k → k = g9 ∨ w4.heap.size ≤ k from fun k hk => by
            rcases HAT.out with e | ⟨b, e, hb⟩
            · exact HON.out k (Eq.trans e.symm hk)
            · rw [e] at hk
              cases hk
              exact .inr (Nat.le_trans HW8.out.1 hb))
          go_roundg (nn - i - 1)
          case measure => have := HI.out; have := HH.out; omega
          case rel =>
            refine ⟨i + 1, by rw [HWR.out], ⟨by have := HI.out; have := HH.out; omega⟩, ⟨?_⟩, HB9, HW9, HON9⟩
            rw [List.range_succ, List.map_append]
            exact HG9.out
    · have h1 : (nn : Int) ≤ (i : Int) := by omega
      have HE := Aside0.mk (show i = nn from by have := HI.out; omega)
      clear hi
      go_wp2_with fail
      go_ret2
      refine ⟨_, rfl, ?_, HB.out⟩
      have h2 := HG.out
      rw [HE.out] at h2
      rw [HINZ.out, ← HNN.out, ← HF.out]
      exact h2
end Go.Proofs.YtlakjonnkggomaaW.PrintMore
