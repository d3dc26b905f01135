/-
  Cut to what this claim uses.
-/
import Derived.Test.YtpklhagedifglaaQTermR
import Derived.Test.YtpklhagedifglaaQTermS
namespace Go.Proofs.YtpklhagedifglaaW.PrintMore
set_option linter.unusedVariables false
set_option linter.unusedSimpArgs false
open Go.Proofs Go.Deep
open Go.RowKit Go.Proofs.YtpklhagedifglaaW.PrintWords Go.Proofs.YtpklhagedifglaaW.PrintLast Go.Proofs.YtpklhagedifglaaW.PrintMore
theorem l5Text_walk (lo : Nat) : ∀ (t : Tm) (v : Value) (w : World), t.wf → t.tx.size ≤ 1000000 → NdAt w lo v t → Calls Try.prog 35 #[v] w fun e w' => e = .returned (.string t.tx) ∧ Below w.heap.size w w' := by
  intro t
  induction t with
  | leaf c =>
    rintro v w hw hs ⟨A, k, rfl⟩
    by_cases hd : isDig c = true
    · rw [if_pos hd]; exact l5text_leaf w 48 48 c rfl A k
    · rw [if_neg hd]; exact l5text_leaf w 97 97 c rfl A k
  | un c x ih =>
    rintro v w hw hs h
    simp only [Tm.tx, ByteArray.size_append] at hs
    rcases nd_parts h with ⟨_, _, _, h, _⟩ | ⟨c', x', q, k, a0, c0, A0, m0, k0, e, rfl, h0, h1, h2, hx⟩ | ⟨_, _, _, _, _, _, _, _, _, _, _, _, _, _, _, _, (h | ⟨_, h, _⟩), _⟩
    · cases h
    · cases e
      exact l5text_un w c q k a0 c0 A0 m0 k0 x.tx h0 h1 h2 (by omega) (fun V hb => ih _ V hw (by omega) (nd_below hb hx))
    · cases h.1
    · cases h
  | bin c x y ih1 ih2 =>
    rintro v w hw hs h
    simp only [Tm.tx, ByteArray.size_append] at hs
    rcases nd_parts h with ⟨_, _, _, h, _⟩ | ⟨_, _, _, _, _, _, _, _, _, h, _⟩ | ⟨c', u, x', y', q, k, a0, c0, A0, m0, k0, a1, c1, A1, m1, k1, (⟨e, rfl⟩ | ⟨_, hz, _⟩), rfl, h0, h1, h2, h3, h4, h5, hx, hy⟩
    · cases h
    · cases h
    · cases e
      exact l5text_bin w c q k a0 c0 A0 m0 k0 a1 c1 A1 m1 k1 x.tx y.tx h0 h1 h2 h3 h4 h5 (by omega) (fun V hb => ih1 _ V hw.1 (by omega) (nd_below hb hx)) (fun V hb => ih2 _ V hw.2 (by omega) (nd_below hb hy))
    · cases hz
  | loop c u x y ih1 ih2 =>
    rintro v w hw hs h
    simp only [Tm.tx, ByteArray.size_append] at hs
    rcases nd_parts h with ⟨_, _, _, h, _⟩ | ⟨_, _, _, _, _, _, _, _, _, h, _⟩ | ⟨c', u', x', y', q, k, a0, c0, A0, m0, k0, a1, c1, A1, m1, k1, (⟨hz, _⟩ | ⟨z, e, rfl⟩), rfl, h0, h1, h2, h3, h4, h5, hx, hy⟩
    · cases h
    · cases h
    · cases hz
    · cases e
      exact l5text_loop w c u hw.1 hw.2.1 q k a0 c0 A0 m0 k0 a1 c1 A1 m1 k1 x.tx y.tx h0 h1 h2 h3 h4 h5 (by omega) (fun V hb => ih1 _ V hw.2.2.1 (by omega) (nd_below hb hx)) (fun V hb => ih2 _ V hw.2.2.2 (by omega) (nd_below hb hy))
theorem app_list (a b : ByteArray) : (a ++ b).data.toList = a.data.toList ++ b.data.toList := by simp
/-- A term is read off its text. -/
theorem parse_tx : ∀ (n : Nat) (l : List UInt8) (t : Tm) (r : List UInt8), parse n l = some (t, r) → l = t.tx.data.toList ++ r := by
  intro n
  induction n with
  | zero => intro l t r h; cases h
  | succ n ih =>
    intro l t r h
    cases l with
    | nil => cases h
    | cons c l =>
      unfold parse at h
      split at h
      · cases h; rfl
      split at h
      · obtain ⟨⟨x, r1⟩, h1, h2⟩ := Option.bind_eq_some_iff.1 h
        cases h2
        have := ih _ _ _ h1
        simp only [Tm.tx, app_list]
        rw [this]; rfl
      split at h
      · rename_i hc
        obtain ⟨⟨x, r1⟩, h1, h2⟩ := Option.bind_eq_some_iff.1 h
        have k1 := ih _ _ _ h1
        cases r1 with
        | nil => cases h2
        | cons g r1 =>
          simp only at h2
          split at h2
          · obtain ⟨⟨y, r2⟩, h3, h4⟩ := Option.bind_eq_some_iff.1 h2
            have k2 := ih _ _ _ h3
            cases r2 with
            | nil => cases h4
            | cons d r2 =>
              simp only at h4
              split at h4
              · rename_i hd
                cases h4
                simp only [Tm.tx, app_list]
                rw [k1, k2, hc, hd]; simp
              · cases h4
          · cases h2
      split at h
      · split at h
        · split at h
          · rename_i hb
            obtain ⟨⟨x, r1⟩, h1, h2⟩ := Option.bind_eq_some_iff.1 h
            have k1 := ih _ _ _ h1
            cases r1 with
            | nil => cases h2
            | cons g r1 =>
              simp only at h2
              split at h2
              · rename_i hg
                obtain ⟨⟨y, r2⟩, h3, h4⟩ := Option.bind_eq_some_iff.1 h2
                have k2 := ih _ _ _ h3
                cases r2 with
                | nil => cases h4
                | cons d r2 =>
                  simp only at h4
                  split at h4
                  · rename_i hd
                    cases h4
                    simp only [Tm.tx, app_list]
                    rw [k1, k2, hb.2, hg, hd]; simp
                  · cases h4
              · cases h2
          · cases h
        · cases h
      · cases h
theorem tmOf_tx {l : List UInt8} {t : Tm} (h : tmOf l = some t) : l = t.tx.data.toList ∧ t.tx.size ≤ 80 := by
  unfold tmOf at h
  split at h
  · rename_i h1
    split at h
    · rename_i h2; cases h
      have := parse_tx _ _ _ _ h2
      rw [List.append_nil] at this
      exact ⟨this, by rw [size_list, ← this]; exact h1⟩
    · cases h
  · cases h
theorem nd_kids {W : World} {lo : Nat} {v : Value} {t : Tm} (hw : t.wf) (h : NdAt W lo v t) : ∃ a c A n k, v = ndV a c A n k ∧ n = t.ps.length ∧
    ∀ j, j < n → ∃ q a0 c0 A0 m0 k0 x, A = some ⟨q, 0, none⟩ ∧ lo ≤ q ∧ W.cell? ⟨q, j * 3, none⟩ = some (.int .u8 a0) ∧ W.cell? ⟨q, j * 3 + 1, none⟩ = some (.int .u8 c0) ∧ W.cell? ⟨q, j * 3 + 2, none⟩ = some (.slice A0 m0 k0) ∧ NdAt W lo (ndV a0 c0 A0 m0 k0) x ∧ t.ps.getD j ⟨#[]⟩ = x.tx ∧ x.wf ∧ x.tx.size ≤ t.tx.size := by
  cases t with
  | leaf c => obtain ⟨A, k, h⟩ := h; exact ⟨_, _, _, _, _, h, rfl, fun j hj => by omega⟩
  | un c x =>
    obtain ⟨q, k, f0, f1, f2, h0, h1, h2, h3, h4, h5, h6⟩ := h
    obtain ⟨a0, c0, A0, m0, k0, e⟩ := nd_shape h6
    unfold ndV at e; simp at e
    obtain ⟨rfl, rfl, rfl⟩ := e
    refine ⟨_, _, _, _, _, h1, rfl, fun j hj => ?_⟩
    have : j = 0 := by omega
    subst this
    exact ⟨q, a0, c0, A0, m0, k0, x, rfl, h0, h3, h4, h5, h6, rfl, hw, by simp [Tm.tx, ByteArray.size_append]⟩
  | bin c x y =>
    obtain ⟨q, k, f0, f1, f2, f3, f4, f5, h0, h1, h2, h3, h4, h5, h6, h7, h8, h9, ha⟩ := h
    obtain ⟨a0, c0, A0, m0, k0, e⟩ := nd_shape h9
    obtain ⟨a1, c1, A1, m1, k1, e'⟩ := nd_shape ha
    unfold ndV at e e'; simp at e e'
    obtain ⟨rfl, rfl, rfl⟩ := e
    obtain ⟨rfl, rfl, rfl⟩ := e'
    refine ⟨_, _, _, _, _, h1, rfl, fun j hj => ?_⟩
    have : j = 0 ∨ j = 1 := by omega
    rcases this with rfl | rfl
    · exact ⟨q, a0, c0, A0, m0, k0, x, rfl, h0, h3, h4, h5, h9, rfl, hw.1, by simp only [Tm.tx, ByteArray.size_append]; omega⟩
    · exact ⟨q, a1, c1, A1, m1, k1, y, rfl, h0, h6, h7, h8, ha, rfl, hw.2, by simp only [Tm.tx, ByteArray.size_append]; omega⟩
  | loop c u x y =>
    obtain ⟨q, k, f0, f1, f2, f3, f4, f5, h0, h1, h2, h3, h4, h5, h6, h7, h8, h9, ha⟩ := h
    obtain ⟨a0, c0, A0, m0, k0, e⟩ := nd_shape h9
    obtain ⟨a1, c1, A1, m1, k1, e'⟩ := nd_shape ha
    unfold ndV at e e'; simp at e e'
    obtain ⟨rfl, rfl, rfl⟩ := e
    obtain ⟨rfl, rfl, rfl⟩ := e'
    refine ⟨_, _, _, _, _, h1, rfl, fun j hj => ?_⟩
    have : j = 0 ∨ j = 1 := by omega
    rcases this with rfl | rfl
    · exact ⟨q, a0, c0, A0, m0, k0, x, rfl, h0, h3, h4, h5, h9, rfl, hw.2.2.1, by simp only [Tm.tx, ByteArray.size_append]; omega⟩
    · exact ⟨q, a1, c1, A1, m1, k1, y, rfl, h0, h6, h7, h8, ha, rfl, hw.2.2.2, by simp only [Tm.tx, ByteArray.size_append]; omega⟩
set_option maxHeartbeats 8000000 in
set_option maxRecDepth 100000 in
theorem spec_PartsOfTerm_walk (s : ByteArray) (w : World) (hs : s.size ≤ 1048576) :
    Calls Try.prog 36 #[.string s] w fun e w' => ∃ v, e = .returned v ∧ Kd.R Kd.string 9 w' w.heap.size (fun _ => True) v ((tmOf s.data.toList).elim [] Tm.ps) ∧ Below w.heap.size w w' := by
  have HS := Aside0.mk hs
  clear hs
  go_enter Try.func36, Try.ntmps36
  go_wp2_with fail
  refine (l5Read_walk s _ HS.out).mono ?_
  rintro e w1 ⟨a', c', A', m', k', rfl, hb, hs1, hs2⟩
  obtain ⟨PS, hPS⟩ : ∃ PS, PS = (tmOf s.data.toList).elim [] Tm.ps := ⟨_, rfl⟩
  have hz : (w.alloc (.cells #[] 9)).heap.size = w.heap.size + 1 := by simp
  obtain ⟨a, c, A, n, k, hv, hn, hk⟩ : ∃ a c A n k, ndV a' c' A' m' k' = ndV a c A n k ∧ n = PS.length ∧
      ∀ j, j < n → ∃ q a0 c0 A0 m0 k0, A = some ⟨q, 0, none⟩ ∧ w.heap.size < q ∧ w1.cell? ⟨q, j * 3, none⟩ = some (.int .u8 a0) ∧ w1.cell? ⟨q, j * 3 + 1, none⟩ = some (.int .u8 c0) ∧ w1.cell? ⟨q, j * 3 + 2, none⟩ = some (.slice A0 m0 k0) ∧
        ∀ W, (∀ k, w.heap.size < k → k < w1.heap.size → W.heap[k]? = w1.heap[k]?) → Calls Try.prog 35 #[ndV a0 c0 A0 m0 k0] W fun e w' => e = .returned (.string (PS.getD j ⟨#[]⟩)) ∧ Below W.heap.size W w' := by
    cases ht : tmOf s.data.toList with
    | none => exact ⟨0, 0, none, 0, 0, hs2 ht, by rw [hPS, ht]; rfl, fun j hj => by omega⟩
    | some t =>
      obtain ⟨a, c, A, n, k, h1, h2, h3⟩ := nd_kids (tmOf_wf ht) (hs1 t ht)
      refine ⟨a, c, A, n, k, h1, by rw [hPS, ht]; exact h2, fun j hj => ?_⟩
      obtain ⟨q, a0, c0, A0, m0, k0, x, e1, e2, e3, e4, e5, e6, e7, e8, e9⟩ := h3 j hj
      refine ⟨q, a0, c0, A0, m0, k0, e1, by omega, e3, e4, e5, fun W hW => ?_⟩
      have h80 := (tmOf_tx ht).2
      have := l5Text_walk _ x _ W e8 (by omega) (nd_blk (fun k h1 h2 => hW k (by omega) h2) e6)
      rw [hPS, ht]
      show Calls _ _ _ _ fun e w' => e = .returned (.string (t.ps.getD j ⟨#[]⟩)) ∧ _
      rw [e7]; exact this
  have hn2 : n ≤ 2 := by rw [hn, hPS]; cases tmOf s.data.toList with
    | none => simp
    | some t => cases t <;> simp [Tm.ps]
  rw [hv]
  have HN := Aside0.mk hn
  have HN2 := Aside0.mk hn2
  have HK := Aside0.mk hk
  have HPS := Aside0.mk hPS
  have HR0 := Aside0.mk (show Kd.R Kd.string 9 w1 w.heap.size (fun k => k = w.heap.size ∨ w1.heap.size ≤ k) (.slice (some ⟨w.heap.size, 0, none⟩) 0 0) [] from (let h := Kd.R_below (own_empty w w.heap.size (Nat.le_refl _)) hb; ⟨fun k hk => .inl (Option.some.inj hk).symm, h.2.imp_ (fun _ _ hp => hp)⟩))
  have HB0 := Aside0.mk (show Below w.heap.size w w1 from ((Below.refl _ w).alloc (Nat.le_refl _) _).trans (hb.mono (by simp)))
  clear hn hn2 hk hb hs1 hs2 hPS hv hz
  unfold ndV
  go_wp2
  go_loopg [3, 17] n (fun kq v3 v17 w' => ∃ i : Nat, v17 = .int .i64 (i : Int) ∧ Aside0 (kq + i = n) ∧ Aside0 (Kd.R Kd.string 9 w' w.heap.size (fun k => k = w.heap.size ∨ w1.heap.size ≤ k) v3 (PS.take i)) ∧ Aside0 (Below w.heap.size w w') ∧ Aside0 (w1.heap.size ≤ w'.heap.size) ∧ Aside0 (∀ k, w.heap.size < k → k < w1.heap.size → w'.heap[k]? = w1.heap[k]?))
  case atStart => exact ⟨0, rfl, ⟨by omega⟩, ⟨Kd.R_below HR0.out (below_alloc (Below.refl _ _) _)⟩, ⟨HB0.out.alloc HB0.out.size _⟩, ⟨by simp⟩, ⟨fun k h1 h2 => Below.heap_alloc _ _ k h2⟩⟩
  case round =>
    obtain ⟨i, rfl, HI, HO, HB, HSZ, HKP⟩ := hrel
    by_cases hi : i < n
    · have h1 : (i : Int) < (n : Int) := by omega
      have h0 : (0 : Int) ≤ (i : Int) := by omega
      obtain ⟨q, a0, c0, A0, m0, k0, rfl, hq, hc0, hc1, hc2, hcall⟩ := HK.out i hi
      have hq2 := World.block_lt_of_cell? w1 _ hc0
      have hd0 : wr.cell? ⟨q, i * 3, none⟩ = some _ := (World.cell?_of_block (w := w1) (HKP.out q hq hq2)).trans hc0
      have hd1 : wr.cell? ⟨q, i * 3 + 1, none⟩ = some _ := (World.cell?_of_block (w := w1) (HKP.out q hq hq2)).trans hc1
      have hd2 : wr.cell? ⟨q, i * 3 + 2, none⟩ = some _ := (World.cell?_of_block (w := w1) (HKP.out q hq hq2)).trans hc2
      have HC := Aside0.mk hcall
      have HH := Aside0.mk hi
      clear hcall hc0 hc1 hc2 hi hq hq2
      go_wp2_with fail
      refine (HC.out _ (fun k h1 h2 => (Below.heap_alloc _ _ k (Nat.lt_of_lt_of_le h2 HSZ.out)).trans (HKP.out k h1 h2))).mono ?_
      rintro e w2 ⟨rfl, hb2⟩
      obtain ⟨P, hP⟩ : ∃ P, P = PS.getD i ⟨#[]⟩ := ⟨_, rfl⟩
      rw [← hP]
      have HPT := Aside0.mk hP
      have HZ2 := Aside0.mk (show wr.heap.size ≤ w2.heap.size from Nat.le_trans (by simp) hb2.size)
      have HKD := Aside0.mk (show ∀ k, k < wr.heap.size → w2.heap[k]? = wr.heap[k]? from fun k hk => (hb2.block k (by simp; omega)).trans (Below.heap_alloc _ _ k hk))
      have HO2 := Aside0.mk (Kd.R_below (Kd.R_below HO.out (below_alloc (Below.refl _ _) _)) hb2)
      have HB2 := Aside0.mk (show Below w.heap.size w w2 from (HB.out.alloc HB.out.size _).trans (hb2.mono (Nat.le_trans HB.out.size (by simp))))
      have HSZ2 := Aside0.mk (Nat.le_trans HSZ.out HZ2.out)
      have HLX := Aside0.mk (show (PS.take i).length ≤ 2 from by have := HN2.out; have := HN.out; simp; omega)
      clear hd0 hd1 hd2 hP hb2
      go_wp2_with (first | ((with_reducible refine gate_builtin (b := .append) (xs := #[.tmp 21, .tmp 24]) rfl ?_); at_builtin; refine Kd.R_append Kd.string (w0 := w) w.heap.size rfl (.tmp 21) (.tmp 24) 27 9 (.string ⟨#[]⟩) 16 rfl Try.underlying27 str_info rfl (by decide) (by omega) _ (PS.take i) P [.string P] (fun k => k = w.heap.size ∨ w1.heap.size ≤ k) (fun _ => False) rfl rfl ?aP (fun _ hk => hk.elim) ?aF ?aO ?aB ?aS ?aL ?_; (case aP => exact rfl); (case aF => exact fun k hk => .inr (Nat.le_trans HSZ2.out hk)); (case aO => exact HO2.out); (case aB => exact HB2.out); (case aS => exact HB2.out.size); (case aL => have := HLX.out; omega); intro v4 w21 ho hb4 hg4 hat4; have HO3 := Aside0.mk ho; have HB3 := Aside0.mk hb4; have HG3 := Aside0.mk hg4; clear ho hb4 hg4 hat4))
      have HG4 := Aside0.mk (show w2.grownBy w21 u3.ownBlock from HG3.out)
      have HW := Aside0.mk (show wrap64 ((i : Int) + 1) = ((i + 1 : Nat) : Int) from by have := HN2.out; have := HH.out; rw [wrap64]; omega)
      go_roundg (gk - 1)
      case measure => have := HI.out; have := HH.out; omega
      case rel =>
        refine ⟨i + 1, by rw [HW.out], ⟨by have := HI.out; have := HH.out; omega⟩, ⟨?_⟩, HB3, ⟨Nat.le_trans HSZ2.out HG4.out.size⟩, ⟨?_⟩⟩
        · have hl : i < PS.length := by have := HH.out; have := HN.out; omega
          have e1 : PS.take (i + 1) = PS.take i ++ [P] := by
            rw [List.take_add_one, HPT.out, List.getD_eq_getElem?_getD, List.getElem?_eq_getElem hl]; rfl
          rw [e1]; exact HO3.out
        · intro k hk1 hk2
          have hk3 := Nat.lt_of_lt_of_le hk2 HSZ.out
          refine (HG4.out.block k (Nat.lt_of_lt_of_le hk3 HZ2.out) fun he => ?_).trans ((HKD.out k hk3).trans (HKP.out k hk1 hk2))
          rcases HO.out.1 k he.symm with h4 | h4
          · omega
          · omega
    · have h1 : (n : Int) ≤ (i : Int) := by omega
      have HE := Aside0.mk (show i = n from by have := HI.out; omega)
      clear hi
      go_wp2
      go_ret
      refine ⟨_, rfl, ?_, HB.out⟩
      have h := HO.out
      rw [HE.out, HN.out, List.take_of_length_le (Nat.le_refl _), HPS.out] at h
      exact Kd.R_mono h (fun _ _ => trivial)
end Go.Proofs.YtpklhagedifglaaW.PrintMore
