/-
  The program's raised: the arrays of a layout.
-/
import Derived.Test.YtlakjonnkggomaaLvA
namespace Go.Proofs.YtlakjonnkggomaaW.PrintMore
set_option linter.unusedVariables false
set_option linter.unusedSimpArgs false
open Go.Proofs Go.Deep
open Go.RowKit Go.Proofs.YtlakjonnkggomaaW.PrintWords Go.Proofs.YtlakjonnkggomaaW.PrintLast Go.Proofs.YtlakjonnkggomaaW.PrintMore
def lv_cnt : List (List Nat) → List Int → Nat
  | [], D => D.length
  | L :: _, _ => L.length
theorem vd_cnt {e : Nat} {Ls : List (List Nat)} {D : List Int} (h : VdN e Ls D) : lv_cnt Ls D = e := by
  cases Ls with
  | nil => exact h
  | cons L Ls => exact h.1
theorem vd_drop {e : Nat} {Ls : List (List Nat)} {D : List Int} (h : VdN e Ls D) (i : Nat) : VdN (lv_cnt (Ls.drop i) D) (Ls.drop i) D := by
  induction Ls generalizing e i with
  | nil =>
    have hD : D.length = e := h
    rw [List.drop_nil]
    exact rfl
  | cons L Ls ih =>
    cases i with
    | zero => exact ⟨rfl, h.2⟩
    | succ i => exact ih h.2 i
theorem vd_step {e : Nat} {Ls : List (List Nat)} {D : List Int} (h : VdN e Ls D) (i : Nat) (hi : i < Ls.length) : lv_cnt (Ls.drop (i + 1)) D = (Ls.getD i []).sum := by
  have h1 := vd_drop h i
  rw [List.drop_eq_getElem_cons hi] at h1
  have h2 := vd_cnt h1.2
  rw [h2, List.getD_eq_getElem?_getD, List.getElem?_eq_getElem hi]; rfl
theorem lv_row {w : World} {A : Option Addr} {n : Nat} {xs : List (List Nat)} (h : Kd.C (Kd.slice 3 (Kd.int .i64)) w A n (xs.map lv_nts)) (i : Nat) (h1 : i < n) : ∃ ad A0 c0, A = some ad ∧ w.cell? (ad.add i) = some (.slice A0 (xs.getD i []).length c0) ∧ (xs.getD i []).length ≤ c0 ∧ (Kd.int .i64).C w A0 (xs.getD i []).length (lv_nts (xs.getD i [])) := by
  obtain ⟨ad, c, e, _, hK, hc0⟩ := Kd.C_get h ([] : List Int) (i : Int) (by omega) (by omega)
  have hc : ∀ j u, c[j]? = some u → w.cell? (ad.add (i * 1 + j)) = some u := hc0
  obtain ⟨A0, c0, rfl, l0, g0⟩ := hK
  have hl : (xs.map lv_nts).length = n := h.1
  rw [List.length_map] at hl
  have e1 : (xs.map lv_nts).getD ((i : Int)).toNat [] = lv_nts (xs.getD i []) := by
    rw [show ((i : Int)).toNat = i from by omega, List.getD_eq_getElem?_getD, List.getElem?_map, List.getD_eq_getElem?_getD, List.getElem?_eq_getElem (by omega)]; rfl
  rw [e1, lv_nts_len] at l0 g0 hc
  exact ⟨ad, A0, c0, e, by have hq := hc 0 _ rfl; rwa [Nat.mul_one, Nat.add_zero] at hq, l0, g0⟩
theorem lv_CS_below {w W : World} {A : Option Addr} {n : Nat} {l : List (List Int)} (h : Kd.C (Kd.slice 3 (Kd.int .i64)) w A n l) (hb : Below w.heap.size w W) : Kd.C (Kd.slice 3 (Kd.int .i64)) W A n l := Kd.C_below h hb
theorem C_drop2 {w : World} {ad : Addr} {n k m : Nat} {xs : List (Value × Value)} (h : Kd.C kPair w (some ad) n xs) (hm : m ≤ n) (hk : n ≤ k) : Kd.C kPair w (some (if k = m then ad else ad.add (m * 2))) (n - m) (xs.drop m) := by
  have hl : xs.length = n := h.1
  subst hl
  have h1 := Kd.C_drop (k := kPair) (c := k) h hm hk
  rw [List.length_drop] at h1
  by_cases hc : k = m
  · rw [if_pos hc] at h1 ⊢; exact h1
  · rw [if_neg hc] at h1 ⊢; exact h1
theorem C_take2 {w : World} {A : Option Addr} {n m : Nat} {xs : List (Value × Value)} (h : Kd.C kPair w A n xs) (hm : m ≤ n) : Kd.C kPair w A m (xs.take m) := by
  have hl : xs.length = n := h.1
  subst hl
  have h1 := Kd.C_take (k := kPair) h hm
  have e : (xs.take m).length = m := by rw [List.length_take]; omega
  rwa [e] at h1
/-- One array more of a level: its parts are cut off the next level's. -/
theorem nd_cut {W : World} {L : List Nat} {Ls : List (List Nat)} {D : List Int} {N : Nat} {ad : Addr} {xs : List (Value × Value)} {j s n : Nat} (hx : ∀ c, c < N → NdT W Ls D c (ndP (xs.getD c pD))) (hxl : xs.length = N) (hs : s = (L.take j).sum) (hn : n = L.getD j 0) (hsn : s + n ≤ N) (hC : Kd.C kPair W (some ad) (N - s) (xs.drop s)) (hpl : Pl ad) :
    NdT W (L :: Ls) D j (ndP (.int .i64 0, .slice (some ad) n n)) := by
  subst hs
  subst hn
  refine ⟨some ad, _, (xs.drop (L.take j).sum).take (L.getD j 0), rfl, Nat.le_refl _, C_take2 hC (by omega), fun ad' h' _ => ⟨trivial, by cases h'; exact hpl⟩, fun c hc => ?_⟩
  have h := hx ((L.take j).sum + c) (by omega)
  have e : ((xs.drop (L.take j).sum).take (L.getD j 0)).getD c pD = xs.getD ((L.take j).sum + c) pD := by
    rw [List.getD_eq_getElem?_getD, List.getElem?_take, if_pos hc, List.getElem?_drop, List.getD_eq_getElem?_getD]
  rw [e]
  exact h
theorem nd_snoc {W : World} {L : List Nat} {Ls : List (List Nat)} {D : List Int} {ys : List (Value × Value)} {p : Value × Value} (h : ∀ c, c < ys.length → NdT W (L :: Ls) D c (ndP (ys.getD c pD))) (hp : NdT W (L :: Ls) D ys.length (ndP p)) : ∀ c, c < (ys ++ [p]).length → NdT W (L :: Ls) D c (ndP ((ys ++ [p]).getD c pD)) := by
  intro c hc
  rw [List.length_append, List.length_singleton] at hc
  by_cases h1 : c < ys.length
  · rw [List.getD_eq_getElem?_getD, List.getElem?_append_left h1, ← List.getD_eq_getElem?_getD]; exact h c h1
  · have : c = ys.length := by omega
    subst this
    rw [List.getD_eq_getElem?_getD, List.getElem?_append_right (Nat.le_refl _), Nat.sub_self]; exact hp
def Lsz (Ls : List (List Nat)) : Prop := Ls.length ≤ 3 ∧ ∀ L ∈ Ls, L.length ≤ 1048576
theorem own_some {W : World} {e base : Nat} {ok : Nat → Prop} {v : Value} {ys : List (Value × Value)} (h : Kd.R kPair e W base ok v ys) (hn : v.ownBlock ≠ none) : ∃ A k, v = .slice (some A) ys.length k ∧ ys.length ≤ k ∧ Kd.C kPair W (some A) ys.length ys ∧ Pl A := by
  obtain ⟨A, c, rfl, hl, hC⟩ := Kd.R_reads h
  cases A with
  | none => exact absurd rfl hn
  | some A => exact ⟨A, c, rfl, hl, hC, by obtain ⟨g, hg⟩ := Kd.R_head h; rw [hg]; rfl⟩
theorem own_none' (W : World) (base m e g : Nat) (cs : Array Value) (hg : g = W.heap.size) (hb : base ≤ W.heap.size) (hm : m ≤ 1048576) (hs : cs.size = m * 2) : Kd.R kPair e (W.alloc (.cells cs e)) base (fun _ => True) (.slice (some ⟨g, 0, none⟩) 0 m) [] := by
  subst hg; exact own_none W base m e cs hb hm hs
theorem cell?_keep_alloc (W : World) (o : Obj) (p : Addr) (u : Value) (h : W.cell? p = some u) : (W.alloc o).cell? p = some u := (World.cell?_alloc_lt _ _ _ (World.block_lt_of_cell? W _ h)).trans h
theorem own_fresh (W : World) (base e : Nat) (hb : base ≤ W.heap.size) : Kd.R kPair e (W.alloc (.cells #[] e)) base (fun _ => True) (.slice (some ⟨W.heap.size, 0, none⟩) 0 0) [] := own_none W base 0 e #[] hb (by omega) rfl
set_option maxHeartbeats 16000000 in
set_option maxRecDepth 100000 in
theorem raised_walk (w : World) (A0 : Option Addr) (c0 : Nat) (Ls : List (List Nat)) (A1 : Option Addr) (c1 : Nat) (D : List Int) (e : Nat) (f : Int) (hr : Kd.C (Kd.slice 3 (Kd.int .i64)) w A0 Ls.length (Ls.map lv_nts)) (hd : Kd.C (Kd.int .i64) w A1 D.length D)
    (hv : VdN e Ls D) (hl : Lsz Ls) (hD : D.length ≤ 1048576) :
    Calls Try.prog 20 #[.agg #[.slice A0 Ls.length c0, .slice A1 D.length c1], .int .i64 f] w fun en w' => ∃ A k, en = .returned (.slice (some A) e k) ∧ e ≤ k ∧ Fo_ w' Ls D (some A) e ∧ Below w.heap.size w w' := by
  have hu := Try.underlying30
  have hua := Try.underlying45
  obtain ⟨n, hn⟩ : ∃ n, n = Ls.length := ⟨_, rfl⟩
  obtain ⟨m, hm⟩ : ∃ m, m = D.length := ⟨_, rfl⟩
  have HN := Aside0.mk hn
  have HM := Aside0.mk hm
  rw [← hn] at hr
  rw [← hm] at hd hD
  rw [← hn, ← hm]
  obtain ⟨W1, hW1⟩ : ∃ W1, W1 = lvW w (.slice A0 n c0) (.slice A1 m c1) := ⟨_, rfl⟩
  have HB1 := Aside0.mk (show Below w.heap.size w W1 from by rw [hW1]; exact lv_below _ _ _)
  have HC0 := Aside0.mk (show W1.cell? ⟨w.heap.size, 0, none⟩ = some (.slice A0 n c0) from by rw [hW1]; exact lv_cell0 _ _ _)
  have HS1 := Aside0.mk (show W1.heap.size = w.heap.size + 1 from by rw [hW1]; exact lv_size _ _ _)
  have HR := Aside0.mk (lv_CS_below hr HB1.out)
  have HDC := Aside0.mk (lv_C_below hd HB1.out)
  have HV := Aside0.mk hv
  have HL := Aside0.mk hl
  have HDL := Aside0.mk hD
  have HNL := Aside0.mk (show n ≤ 3 from by rw [hn]; exact hl.1)
  have hmk := make_arr m hD
  have HO0 := Aside0.mk (show Kd.R kPair 45 ((lvW w (.slice A0 n c0) (.slice A1 m c1)).alloc (.cells (madeCells #[.int .i64 0, .slice none 0 0] (m * 2)) 45)) W1.heap.size (fun _ => True) (.slice (some ⟨w.heap.size + 1, 0, none⟩) 0 m) [] from by rw [← hW1]; exact own_none' W1 W1.heap.size m 45 (w.heap.size + 1) _ (by rw [HS1.out]) (Nat.le_refl _) hD (by rw [size_madeCells]))
  have HB0 := Aside0.mk (show Below W1.heap.size W1 ((lvW w (.slice A0 n c0) (.slice A1 m c1)).alloc (.cells (madeCells #[.int .i64 0, .slice none 0 0] (m * 2)) 45)) from by rw [← hW1]; exact (Below.refl _ _).alloc (Nat.le_refl _) _)
  clear hr hd hv hl hn hm hD hW1
  go_enter Try.func20, Try.ntmps20
  go_wp2
  go_loopg [5, 19] m (fun kq v5 v19 w' => ∃ i : Nat, v19 = .int .i64 (i : Int) ∧ Aside0 (kq + i = m) ∧ Aside0 (Kd.R kPair 45 w' W1.heap.size (fun _ => True) v5 (lvl0 (D.take i))) ∧ Aside0 (v5.ownBlock ≠ none) ∧ Aside0 (Below W1.heap.size W1 w'))
  case atStart => exact ⟨0, rfl, ⟨by omega⟩, HO0, ⟨fun h => by cases h⟩, HB0⟩
  case round =>
    obtain ⟨i, rfl, HI, HO, HON, HB⟩ := hrel
    by_cases hi : i < m
    · have h1 : (i : Int) < (m : Int) := by omega
      have h0 : (0 : Int) ≤ (i : Int) := by omega
      have hil : i < D.length := by rw [← HM.out]; exact hi
      obtain ⟨ad, rfl, hc⟩ := Kd.at_int (lv_C_below HDC.out HB.out) (i : Int) h0 h1
      obtain ⟨x, hx⟩ : ∃ x, x = D.getD i 0 := ⟨_, rfl⟩
      have hc' : wr.cell? (ad.add i) = some (.int .i64 x) := by rw [hx]; simpa [rd] using hc
      have HX := Aside0.mk hx
      have HH := Aside0.mk hi
      have HIL := Aside0.mk hil
      have HLX := Aside0.mk (show (lvl0 (D.take i)).length ≤ 1048576 from by have := HDL.out; unfold lvl0; simp; omega)
      have HW := Aside0.mk (lv_wrap_succ i m hi HDL.out)
      clear hc hi hx hil
      go_wp2_with (first | ((with_reducible refine gate_builtin (b := .append) (xs := #[.tmp 23, .tmp 26]) rfl ?_); at_builtin; refine Kd.R_append kPair (w0 := W1) W1.heap.size rfl (.tmp 23) (.tmp 26) 43 45 (.agg #[.int .i64 0, .slice none 0 0]) 32 rfl Try.underlying43 arr_info rfl (by decide) (by omega) _ (lvl0 (D.take i)) (.int .i64 x, .slice none 0 0) [.int .i64 x, .slice none 0 0] (fun _ => True) (fun _ => False) rfl ?aX ?aP (fun _ hk => hk.elim) ?aF ?aO ?aB ?aS ?aL ?_; (case aX => first | rfl | (simp [Act.eval]; done)); (case aP => exact pair_M _ _ _ _ _ rfl rfl); (case aF => exact fun _ _ => trivial); (case aO => exact HO.out); (case aB => exact HB.out); (case aS => exact HB.out.size); (case aL => have := HLX.out; omega); intro v4 w21 ho hb4 hg4 hat4; have HO3 := Aside0.mk ho; have HB3 := Aside0.mk hb4; have HON4 := Aside0.mk (show v4.ownBlock ≠ none from (by rcases hat4 with e | ⟨b, e, _⟩; rw [e]; exact HON.out; rw [e]; exact fun h => by cases h)); clear ho hb4 hg4 hat4))
      go_roundg (gk - 1)
      case measure => have := HI.out; have := HH.out; omega
      case rel =>
        refine ⟨i + 1, by rw [HW.out], ⟨by have := HI.out; have := HH.out; omega⟩, ⟨?_⟩, HON4, HB3⟩
        rw [lvl0_snoc D i HIL.out, ← HX.out]
        exact HO3.out
    · have h1 : (m : Int) ≤ (i : Int) := by omega
      have HE := Aside0.mk (show i = m from by have := HI.out; omega)
      have hO := HO.out
      rw [HE.out, HM.out, List.take_of_length_le (Nat.le_refl _)] at hO
      obtain ⟨ad0, k0, hv5, hk0, hF⟩ := lvl0_fo hO HON.out
      rw [← HM.out] at hv5 hk0 hF
      subst hv5
      have HF0 := Aside0.mk hF
      have HK0 := Aside0.mk hk0
      have hc0 := lv_cell_keep HB.out _ _ HC0.out
      have hwp : wrap64 ((n : Int) - 1) = (n : Int) - 1 := by have := HNL.out; rw [wrap64]; omega
      have HCNT := Aside0.mk (show lv_cnt (Ls.drop n) D = m from by rw [HN.out, List.drop_length, HM.out]; rfl)
      have HDR := Aside0.mk (show Ls.drop n = [] from by rw [HN.out, List.drop_length])
      have hdec : decide (i < m) = false := decide_eq_false hi
      clear hi hO hF hk0
      go_wp2
      go_loopg [5, 8] n (fun kq v5 v8 w' => ∃ (t : Nat) (ad : Addr) (N k : Nat), v8 = .int .i64 ((t : Int) - 1) ∧ v5 = .slice (some ad) N k ∧ Aside0 (t = kq ∧ t ≤ n) ∧ Aside0 (N = lv_cnt (Ls.drop t) D ∧ N ≤ k) ∧ Aside0 (Fo_ w' (Ls.drop t) D (some ad) N) ∧ Aside0 (Below W1.heap.size W1 w'))
      case atStart => exact ⟨n, ad0, m, k0, by first | rfl | (rw [hwp]; done) | simp, rfl, ⟨rfl, Nat.le_refl _⟩, ⟨HCNT.out.symm, HK0.out⟩, ⟨by rw [HDR.out]; exact HF0.out⟩, HB⟩
      case round =>
        clear hwp
        obtain ⟨WL, hWL⟩ : ∃ WL, WL = wr := ⟨_, rfl⟩
        subst hWL
        obtain ⟨t, ad, N, k, rfl, rfl, HT, HNK, HF, HB⟩ := hrel
        obtain ⟨z, hz⟩ : ∃ z : Int, z = (t : Int) - 1 := ⟨_, rfl⟩
        rw [← hz]
        by_cases ht : t = 0
        · have z1 : decide (z ≥ 0) = false := decide_eq_false (by omega)
          have z2 : decide (0 ≤ z) = false := decide_eq_false (by omega)
          have z3 : decide (z < 0) = true := decide_eq_true (by omega)
          have HE2 := Aside0.mk (show N = e from by rw [HNK.out.1, ht]; exact vd_cnt HV.out)
          have HF2 := Aside0.mk (show Fo_ WL Ls D (some ad) N from by have h := HF.out; rw [ht] at h; exact h)
          have HBB := Aside0.mk (HB1.out.trans (HB.out.mono (by rw [HS1.out]; omega)))
          clear ht hz
          go_wp2
          go_ret
          refine ⟨ad, k, ?_, ?_, ?_, HBB.out⟩
          · rw [← HE2.out]; rfl
          · rw [← HE2.out]; exact HNK.out.2
          · rw [← HE2.out]; exact HF2.out
        · obtain ⟨i, hi⟩ : ∃ i, t = i + 1 := ⟨t - 1, by omega⟩
          have hzi : z = (i : Int) := by omega
          subst hzi
          have hin : i < n := by have := HT.out.2; omega
          have z1 : decide ((i : Int) ≥ 0) = true := decide_eq_true (by omega)
          have z2 : decide ((0 : Int) ≤ (i : Int)) = true := decide_eq_true (by omega)
          have i0 : (0 : Int) ≤ (i : Int) := by omega
          have i1 : (i : Int) < (n : Int) := by omega
          obtain ⟨L, hL⟩ : ∃ L, L = Ls.getD i [] := ⟨_, rfl⟩
          obtain ⟨adr, A2, c2, rfl, hrow, hlc2, hK⟩ := lv_row (lv_CS_below HR.out HB.out) i hin
          rw [← hL] at hrow hlc2 hK
          have hc0 := lv_cell_keep HB.out _ _ HC0.out
          have hc0' := cell?_keep_alloc WL (.cells #[] 45) _ _ hc0
          have hrow' := cell?_keep_alloc WL (.cells #[] 45) _ _ hrow
          have HK := Aside0.mk hK
          have hiL : i < Ls.length := by rw [← HN.out]; exact hin
          have HLM := Aside0.mk (show L.length ≤ 1048576 from HL.out.2 L (by rw [hL, List.getD_eq_getElem?_getD, List.getElem?_eq_getElem hiL]; exact List.getElem_mem _))
          have HNS := Aside0.mk (show N = L.sum from by rw [HNK.out.1, hi, hL]; exact vd_step HV.out i hiL)
          have HDI := Aside0.mk (show Ls.drop i = L :: Ls.drop (i + 1) from by rw [List.drop_eq_getElem_cons hiL, hL, List.getD_eq_getElem?_getD, List.getElem?_eq_getElem hiL]; rfl)
          have HFI := Aside0.mk (show Fo_ WL (Ls.drop (i + 1)) D (some ad) N from by rw [← hi]; exact HF.out)
          have HI2 := Aside0.mk (And.intro hi hin)
          have HNKo := Aside0.mk HNK.out.2
          obtain ⟨xs, hxC, hxP, hxN⟩ := HFI.out
          have HXP := Aside0.mk (hxP ad rfl)
          clear hxP
          have HXC := Aside0.mk hxC
          have HXN := Aside0.mk hxN
          have HXL := Aside0.mk (show xs.length = N from hxC.1)
          have HO1 := Aside0.mk (own_fresh WL WL.heap.size 45 (Nat.le_refl _))
          have HB2 := Aside0.mk (show Below WL.heap.size WL (WL.alloc (.cells #[] 45)) from (Below.refl _ _).alloc (Nat.le_refl _) _)
          have hs0 : k - 0 = k := Nat.sub_zero k
          clear ht hz hi hin hL hK hiL hxC hxN
          go_wp2
          go_loopg [5, 9, 44] L.length (fun kq v5 v9 v44 w' => ∃ (j s : Nat) (ad' : Addr) (ys : List (Value × Value)), v44 = .int .i64 (j : Int) ∧ v5 = .slice (some ad') (N - s) (k - s) ∧ Aside0 (kq + j = L.length) ∧ Aside0 (s = (L.take j).sum) ∧ Aside0 (Kd.C kPair WL (some ad') (N - s) (xs.drop s)) ∧ Aside0 (Pl ad') ∧ Aside0 (Kd.R kPair 45 w' WL.heap.size (fun _ => True) v9 ys) ∧ Aside0 (v9.ownBlock ≠ none) ∧ Aside0 (ys.length = j ∧ ∀ c, c < ys.length → NdT WL (L :: Ls.drop (i + 1)) D c (ndP (ys.getD c pD))) ∧ Aside0 (Below WL.heap.size WL w'))
          case atStart => exact ⟨0, 0, ad, [], rfl, rfl, ⟨by omega⟩, ⟨rfl⟩, HXC, HXP, HO1, ⟨fun h => by cases h⟩, ⟨rfl, fun c hc => by cases hc⟩, HB2⟩
          case round =>
            obtain ⟨j, s, ad', ys, rfl, rfl, HJ, HSS, HCX, HPL, HO, HON, HY, HBI⟩ := hrel
            by_cases hj : j < L.length
            · have h1 : (j : Int) < (L.length : Int) := by omega
              have h0 : (0 : Int) ≤ (j : Int) := by omega
              obtain ⟨adl, rfl, hc⟩ := Kd.at_int (lv_C_below HK.out HBI.out) (j : Int) h0 h1
              rw [lv_nts_at L j hj] at hc
              obtain ⟨nn, hnn⟩ : ∃ nn : Nat, nn = L[j] := ⟨_, rfl⟩
              rw [← hnn] at hc
              have hc' : wr.cell? (adl.add j) = some (.int .i64 (nn : Int)) := by simpa using hc
              have hsn : s + nn ≤ N := by
                have h1 := lv_take_sum L j hj
                have h2 := lv_take_sum_le L (j + 1)
                have h3 := HNS.out
                have h4 := HSS.out
                omega
              have HNN := Aside0.mk (show nn = L.getD j 0 from by rw [hnn, List.getD_eq_getElem?_getD, List.getElem?_eq_getElem hj]; rfl)
              have HSM := Aside0.mk (show s + nn = (L.take (j + 1)).sum from by rw [lv_take_sum L j hj, ← HSS.out, hnn])
              have n0 : (0 : Int) ≤ (nn : Int) := by omega
              have n1 : (nn : Int) ≤ ((N - s : Nat) : Int) := by omega
              have n2 : (nn : Int) ≤ ((k - s : Nat) : Int) := by have := HNKo.out; omega
              have HSN := Aside0.mk hsn
              have HH := Aside0.mk hj
              have HLX := Aside0.mk (show ys.length ≤ 1048576 from by have := HLM.out; have := HY.out.1; omega)
              have HCD := Aside0.mk (show Kd.C kPair WL (some (if k - s = nn then ad' else ad'.add (nn * 2))) (N - (s + nn)) (xs.drop (s + nn)) from by
                have h := C_drop2 (k := k - s) HCX.out (m := nn) (by omega) (by have := HNKo.out; omega)
                rw [List.drop_drop, Nat.sub_sub] at h
                exact h)
              have HND := Aside0.mk (nd_cut (L := L) (Ls := Ls.drop (i + 1)) (D := D) HXN.out HXL.out HSS.out HNN.out hsn HCX.out HPL.out)
              have HW := Aside0.mk (lv_wrap_succ j L.length hj HLM.out)
              clear hc hnn hj hsn
              go_wp2_with (first | ((with_reducible refine gate_builtin (b := .append) (xs := #[.tmp 48, .tmp 54]) rfl ?_); at_builtin; refine Kd.R_append kPair (w0 := WL) WL.heap.size rfl (.tmp 48) (.tmp 54) 43 45 (.agg #[.int .i64 0, .slice none 0 0]) 32 rfl Try.underlying43 arr_info rfl (by decide) (by omega) _ ys (.int .i64 0, .slice (some ad') nn nn) [.int .i64 0, .slice (some ad') nn nn] (fun _ => True) (fun _ => False) rfl ?aX ?aP (fun _ hk => hk.elim) ?aF ?aO ?aB ?aS ?aL ?_; (case aX => first | rfl | (simp [Act.eval]; done)); (case aP => exact pair_M _ _ _ _ _ rfl rfl); (case aF => exact fun _ _ => trivial); (case aO => exact HO.out); (case aB => exact HBI.out); (case aS => exact HBI.out.size); (case aL => have := HLX.out; omega); intro v4 w21 ho hb4 hg4 hat4; have HO3 := Aside0.mk ho; have HB3 := Aside0.mk hb4; have HON4 := Aside0.mk (show v4.ownBlock ≠ none from (by rcases hat4 with e | ⟨b, e, _⟩; rw [e]; exact HON.out; rw [e]; exact fun h => by cases h)); clear ho hb4 hg4 hat4))
              · have hcs : k - s = nn := by assumption
                have HCS := Aside0.mk hcs
                go_roundg (gk - 1)
                case measure => have := HJ.out; have := HH.out; omega
                case rel =>
                  refine ⟨j + 1, s + nn, ad', ys ++ [(.int .i64 0, .slice (some ad') nn nn)], by rw [HW.out], by (have h1 := HCS.out; have e1 : N - s - nn = N - (s + nn) := (by omega); have e2 : (0 : Nat) = k - (s + nn) := (by omega); rw [e1, ← e2]), ⟨by have := HJ.out; have := HH.out; omega⟩, ⟨HSM.out⟩, ⟨?_⟩, HPL, HO3, HON4, ⟨by rw [List.length_append, List.length_singleton, HY.out.1], nd_snoc HY.out.2 (by rw [HY.out.1]; exact HND.out)⟩, HB3⟩
                  have h := HCD.out
                  rw [if_pos HCS.out] at h
                  exact h
              · have hcs : ¬ k - s = nn := by assumption
                have HCS := Aside0.mk hcs
                go_roundg (gk - 1)
                case measure => have := HJ.out; have := HH.out; omega
                case rel =>
                  refine ⟨j + 1, s + nn, ad'.add (nn * 2), ys ++ [(.int .i64 0, .slice (some ad') nn nn)], by rw [HW.out], by rw [Nat.sub_sub, Nat.sub_sub], ⟨by have := HJ.out; have := HH.out; omega⟩, ⟨HSM.out⟩, ⟨?_⟩, ⟨HPL.out.add' _⟩, HO3, HON4, ⟨by rw [List.length_append, List.length_singleton, HY.out.1], nd_snoc HY.out.2 (by rw [HY.out.1]; exact HND.out)⟩, HB3⟩
                  have h := HCD.out
                  rw [if_neg HCS.out] at h
                  exact h
            · have h1 : (L.length : Int) ≤ (j : Int) := by omega
              have HE := Aside0.mk (show j = L.length from by have := HJ.out; omega)
              obtain ⟨A9, k9, hv9, hk9, hC9, hP9⟩ := own_some HO.out HON.out
              subst hv9
              have HY9 := Aside0.mk (show ys.length = L.length from by rw [HY.out.1, HE.out])
              have HF9 := Aside0.mk (show Fo_ wr (Ls.drop i) D (some A9) ys.length from ⟨ys, hC9, fun ad' h' => by cases h'; exact hP9, fun c hc => by rw [HDI.out]; exact nd_below HBI.out _ _ _ _ (HY.out.2 c hc)⟩)
              have HK9 := Aside0.mk hk9
              have HC9 := Aside0.mk (show lv_cnt (Ls.drop i) D = ys.length from by rw [HDI.out, HY9.out]; rfl)
              have HB9 := Aside0.mk (HB.out.trans (HBI.out.mono HB.out.size))
              have HWP := Aside0.mk (show wrap64 ((i : Int) - 1) = (i : Int) - 1 from by have := HI2.out; have := HNL.out; rw [wrap64]; omega)
              clear hj hk9 hC9 hP9
              go_wp2
              go_roundg i
              case measure => have := HT.out; have := HI2.out; omega
              case rel =>
                exact ⟨i, A9, ys.length, k9, by rw [HWP.out], rfl, ⟨rfl, by have := HI2.out; omega⟩, ⟨HC9.out.symm, HK9.out⟩, HF9, HB9⟩
end Go.Proofs.YtlakjonnkggomaaW.PrintMore
