/-
  Cut to what this claim uses.
-/
import Derived.Test.YteijndaldkkpfaaQSortF
namespace Go.Proofs.YteijndaldkkpfaaW.SortW
open Go.Proofs Go.Shelf Go.RowKit Go.Lib Go.Deep
open Go.Proofs.YteijndaldkkpfaaW.PrintWords Go.Proofs.YteijndaldkkpfaaW.PrintLast Go.Proofs.YteijndaldkkpfaaW.PrintMore
set_option linter.unusedVariables false
set_option linter.unusedSimpArgs false
set_option maxHeartbeats 16000000 in
set_option maxRecDepth 100000 in
theorem sort_walk (w : World) (A0 A1 : Option Addr) (c0 c1 : Nat) (ls : List Nat) (data : List Int) (hr : Kd.C (Kd.int .i64) w A0 ls.length (nats ls)) (hr1 : Kd.C (Kd.int .i64) w A1 data.length data) (hc0 : ls.length ≤ c0) (hlen : ls.length ≤ 400) (hsum : ls.sum = data.length) (hd4 : data.length ≤ 400) (hd : ∀ z ∈ data, 0 ≤ z ∧ z < 10007)
    (hok : ∀ w1, Below w.heap.size w w1 → Calls Try.prog 55 #[.slice A0 ls.length c0, .slice A1 data.length c1] w1 fun e w' => e = .returned (.bool true) ∧ Below w1.heap.size w1 w') :
    Calls Try.prog 24 #[.slice A0 ls.length c0, .slice A1 data.length c1] w fun e w' => ∃ v, e = .returned (.tuple #[v, .bool true]) ∧ Kd.R (Kd.int .i64) 3 w' w.heap.size (fun _ => True) v (outS data ls ls.length) ∧ Below w.heap.size w w' := by
  have hbW : Below w.heap.size w (w.alloc (.cells #[.slice A1 data.length c1] 22)) := below_alloc (Below.refl _ _) _
  obtain ⟨wB, hwB⟩ : ∃ x, x = w.alloc (.cells #[.slice A1 data.length c1] 22) := ⟨_, rfl⟩
  have HWB := Aside0.mk hwB
  have HBW := Aside0.mk (show Below w.heap.size w wB from hwB ▸ hbW)
  have HBS := Aside0.mk (show wB.heap.size = w.heap.size + 1 from by rw [hwB]; simp)
  have HBX := Aside0.mk (show wB.cell? ⟨w.heap.size, 0, none⟩ = some (.slice A1 data.length c1) from by rw [hwB]; simp)
  have hok' := hok wB (HBW.out)
  have HR := Aside0.mk (C_below hr HBW.out)
  have HR1 := Aside0.mk (C_below hr1 HBW.out)
  have HLE := Aside0.mk hlen
  have HSM := Aside0.mk hsum
  have HD4 := Aside0.mk hd4
  have HC0 := Aside0.mk hc0
  have HDD := Aside0.mk hd
  clear hr hr1 hlen hsum hc0 hok hd4 hd hbW
  go_enter Try.func24, Try.ntmps24
  go_wp2_with fail
  rw [← hwB]
  clear hwB
  refine hok'.mono ?_
  rintro e w1 ⟨rfl, hb1⟩
  have HB1 := Aside0.mk (below_alloc hb1 (.cells #[] 3))
  have HO0 := Aside0.mk (own_emptyS (Value.int .i64) (fun _ => rfl) 3 w1 wB.heap.size hb1.size)
  have HRW := Aside0.mk (C_below HR.out HB1.out)
  have HZ1 := Aside0.mk (show wB.heap.size ≤ w1.heap.size from hb1.size)
  clear hb1 hok'
  go_wp2_with fail
  refine (indices_walk _ A0 c0 ls HRW.out HC0.out HLE.out (by rw [HSM.out]; exact HD4.out)).mono ?_
  rintro e w2 ⟨vr, A, ps, cap, rfl, hA, hrow, hcap, hrows, hpl, hcu, hb2⟩
  have HB2 := Aside0.mk (HB1.out.trans (hb2.mono HB1.out.size))
  have HAW := Aside0.mk (show w1.heap.size < A ∧ wB.heap.size ≤ A from by have := HZ1.out; simp at hA; omega)
  have HO2 := Aside0.mk (show Kd.R (Kd.int .i64) 3 w2 wB.heap.size (fun k => k ≠ A ∧ some k ≠ vr.ownBlock) (.slice (some ⟨w1.heap.size, 0, none⟩) 0 0) [] from by
    refine R_rebase (Kd.R_below HO0.out hb2) (Nat.le_refl _) (fun k hk _ => ?_)
    have hk : w1.heap.size = k := Option.some.inj hk
    refine ⟨by have := HAW.out; omega, fun e => ?_⟩
    have := (Kd.R_bound hrows).1 k e.symm
    have h2 := this.2.1
    simp at h2; omega)
  have HP := Aside0.mk (And.intro hpl hcu)
  have HRS := Aside0.mk (show Kd.R (kCut A) 22 w2 wB.heap.size (fun k => k ≠ A) vr ps from R_rebase hrows (by have := HZ1.out; simp; omega) (fun k hk _ => ((Kd.R_bound hrows).1 k hk).1))
  have HROW := Aside0.mk (show ∃ f, w2.rowIs A 3 cap f ∧ ∀ j, (ls.take 0).sum ≤ j → j < ls.sum → f j = .int .i64 (j : Int) from by obtain ⟨f, h1, h2⟩ := hrow; exact ⟨f, h1, fun j _ hj => h2 j hj⟩)
  have HCAP := Aside0.mk hcap
  obtain ⟨X, xc, hvr, hle, _⟩ := Kd.R_reads hrows
  have hvr' : ∃ m, m = ls.length ∧ vr = .slice X m xc := ⟨_, hpl, hvr⟩
  clear hvr
  obtain ⟨m, hm, hvr⟩ := hvr'
  subst hvr
  subst hm
  clear hA hrow hcap hrows hpl hcu hb2 hle
  go_wp2
  go_loopg [6, 17] (ls.length) (fun kq v4 v14 w' => ∃ (i : Nat), v14 = .int .i64 (i : Int) ∧ Aside0 (kq + i = ls.length) ∧ Aside0 (Kd.R (Kd.int .i64) 3 w' wB.heap.size (fun k => k ≠ A ∧ some k ≠ (Value.slice X ls.length xc).ownBlock) v4 (outS data ls i)) ∧ Aside0 (Kd.R (kCut A) 22 w' wB.heap.size (fun k => k ≠ A) (.slice X ls.length xc) ps) ∧
    Aside0 (∃ f, w'.rowIs A 3 cap f ∧ ∀ j, (ls.take i).sum ≤ j → j < ls.sum → f j = .int .i64 (j : Int)) ∧ Aside0 (Below wB.heap.size wB w'))
  case atStart => exact ⟨0, rfl, ⟨by omega⟩, HO2, HRS, HROW, HB2⟩
  case round =>
    clear HO2 HRS HROW HB2
    obtain ⟨i, rfl, HI, HO, HRS, HROW, HB⟩ := hrel
    by_cases hi : i < ls.length
    · have hlt : (i : Int) < (ls.length : Int) := by omega
      have h0 : (0 : Int) ≤ (i : Int) := by omega
      have HH := Aside0.mk hi
      obtain ⟨g, hX⟩ : ∃ g, X = some ⟨g, 0, none⟩ := by
        rcases (Kd.own_of_R HRS.out).2 with ⟨_, hz⟩ | ⟨g, cp, cur, e, _⟩
        · have := HP.out.1; omega
        · injection e with e; exact ⟨g, e⟩
      subst hX
      obtain ⟨s, hs⟩ : ∃ s, s = (ps.getD i (0, 0)).1 := ⟨_, rfl⟩
      obtain ⟨n, hn⟩ : ∃ n, n = (ps.getD i (0, 0)).2 := ⟨_, rfl⟩
      have hcell : wr.cell? ⟨g, i, none⟩ = some (.slice (some ⟨A, s, none⟩) n n) := by
        have h1 := (Kd.R_celln ((0, 0) : Nat × Nat) (n := ps.length) (by rw [HP.out.1]; exact HRS.out) (i : Int) (by omega) (by rw [HP.out.1]; omega)).1
        rw [show ((i : Nat) : Int).toNat = i from by omega] at h1
        rw [h1]
        unfold rdOf
        rw [show ((i : Nat) : Int).toNat = i from by omega, hs, hn]; rfl
      obtain ⟨hn2, hs2⟩ := HP.out.2 i (by rw [HP.out.1]; exact hi)
      rw [← hn] at hn2
      rw [← hs] at hs2
      have hnl : n = ls[i] := by rw [hn2, List.getD_eq_getElem?_getD, List.getElem?_eq_getElem hi]; rfl
      have hsn : (ls.take i).sum + n ≤ 400 ∧ (ls.take (i + 1)).sum = (ls.take i).sum + n ∧ (ls.take i).sum + n ≤ ls.sum := by
        have h1 := take_sum ls i hi
        have h2 := take_sum_le ls (i + 1)
        have h3 := HSM.out
        have h4 := HD4.out
        rw [hnl]; omega
      have hs3 : n = 0 ∨ s = (ls.take i).sum := by rw [← hn2] at hs2; exact hs2
      obtain ⟨f, hrow, hf⟩ := HROW.out
      obtain ⟨zs, hzs⟩ : ∃ zs, zs = segS data (ls.take i).sum n := ⟨_, rfl⟩
      have hzl : zs.length = n := by rw [hzs, segS_len]
      have hbx : wr.cell? ⟨w.heap.size, 0, none⟩ = some (.slice A1 data.length c1) := (HB.out.cell (World.block_lt_of_cell? wB _ HBX.out)).trans HBX.out
      have hrv : Calls Try.prog 57 #[.slice (some ⟨A, s, none⟩) n n, .func (.func 58) #[] #[.pointer (some ⟨w.heap.size, 0, none⟩)]] wr fun e w' => e = .returned (.tuple #[]) ∧
          Below A wr w' ∧ (∀ k, k ≠ A → k < wr.heap.size → w'.heap[k]? = wr.heap[k]?) ∧ w'.rowIs A 3 cap (fun j => if s ≤ j ∧ j < s + n then .int .i64 (zs.getD (j - s) 0) else f j) := by
        by_cases hz : n = 0
        · refine (by rw [hz]; exact sortNone_walk _ _ _ wr : Calls Try.prog 57 #[.slice (some ⟨A, s, none⟩) n n, .func (.func 58) #[] #[.pointer (some ⟨w.heap.size, 0, none⟩)]] wr fun e w' => e = .returned (.tuple #[]) ∧ w' = wr).mono ?_
          rintro e w' ⟨rfl, rfl⟩
          exact ⟨rfl, Below.refl _ _, fun _ _ _ => rfl, hrow.congr fun j _ => by rw [if_neg (by omega)]⟩
        · have hs4 : s = (ls.take i).sum := by rcases hs3 with h | h; omega; exact h
          rw [hzs, ← hs4]
          have h400 := HD4.out
          have hsum := HSM.out
          have hcp := HCAP.out
          exact segSort_walk w.heap.size A s n cap wB.heap.size A1 c1 data wr f hrow (by omega) (fun j hj => hf (s + j) (by omega) (by omega)) (by omega) h400 HAW.out.2 (by have := HAW.out; have := HBS.out; omega) hbx (fun W hW => C_below HR1.out (HB.out.trans hW)) HDD.out
      have HRV := Aside0.mk hrv
      have HSN := Aside0.mk (And.intro hsn hs3)
      have HZL := Aside0.mk hzl
      have HZS := Aside0.mk (show (segS data (ls.take i).sum (ls.getD i 0)) = zs from by rw [hzs, hn2])
      have HFF := Aside0.mk hf
      clear hs hn hn2 hs2 hnl hsn hs3 hrow hf hzs hzl hrv hi HROW hbx
      go_wp2_with fail
      refine HRV.out.mono ?_
      rintro e w3 ⟨rfl, hbA, hblk, hrow3⟩
      have HB3 := Aside0.mk (show Below wB.heap.size wB w3 from HB.out.trans (hbA.mono HAW.out.2))
      have HO3 := Aside0.mk (Kd.R_step HO.out (fun k hk hkl => hblk k hk.1 hkl))
      have HRS3 := Aside0.mk (Kd.R_step HRS.out (fun k hk hkl => hblk k hk hkl))
      have HROW3 := Aside0.mk (show ∃ f, w3.rowIs A 3 cap f ∧ (∀ j, j < n → f (s + j) = .int .i64 (zs.getD j 0)) ∧ ∀ j, (ls.take (i + 1)).sum ≤ j → j < ls.sum → f j = .int .i64 (j : Int) from by
        refine ⟨_, hrow3, fun j hj => ?_, fun j h1 h2 => ?_⟩
        · rw [if_pos (by omega), show s + j - s = j from by omega]
        · have := HSN.out
          rw [if_neg (by omega)]
          exact HFF.out j (by omega) h2)
      have HC3 := Aside0.mk (show Kd.C (Kd.int .i64) w3 (some ⟨A, s, none⟩) n zs from by
        obtain ⟨f, hrow, hf, _⟩ := HROW3.out
        have h1 := C_of_cells' (W := w3) (A := A) (s := s) (ys := zs) (by rw [HZL.out]; have := HSN.out; omega) (fun j hj => by
          rw [HZL.out] at hj
          have := HSN.out; have := HCAP.out
          rw [hrow.cell (by omega), hf j hj])
        rw [HZL.out] at h1
        exact h1)
      have HLX := Aside0.mk (show (outS data ls i).length ≤ 400 from by rw [outS_len]; have := HSN.out; omega)
      have hcell3 : w3.cell? ⟨g, i, none⟩ = some (.slice (some ⟨A, s, none⟩) n n) := by
        have hgA : g ≠ A := ((Kd.R_bound HRS.out).1 g rfl).1
        exact (World.cell?_of_block (w := wr) (hblk g hgA ((Kd.R_bound HRS.out).1 g rfl).2.2.1)).trans hcell
      clear hbA hblk hrow3 hcell
      go_wp2_with (first | ((with_reducible refine gate_builtin (b := .append) (xs := #[.tmp 24, .tmp 25]) rfl ?_); at_builtin; refine Kd.R_append_row (Value.int .i64) (0 : Int) (h1 := fun _ => rfl) (w0 := wB) wB.heap.size rfl (.tmp 24) (.tmp 25) 22 3 (.int .i64 0) 8 rfl Try.underlying22 int_info rfl (by decide) _ (outS data ls i) zs _ _ _ (fun k => k ≠ A ∧ some k ≠ (Value.slice (some ⟨g, 0, none⟩) ls.length xc).ownBlock) rfl rfl ?aF ?aO ?aC ?aB ?aS ?aL ?_; (case aF => exact fun k hk => sort_new HRS3.out (blk_ltA' HROW3.out) hk); (case aO => exact HO3.out); (case aC => exact HC3.out); (case aB => exact HB3.out); (case aS => exact HB3.out.size); (case aL => have := HLX.out; have := HSN.out; have := HZL.out; omega); intro v4 w21 ho hb4 hg4 hat4; have HO4 := Aside0.mk ho; have HB4 := Aside0.mk hb4; have HG4 := Aside0.mk hg4; clear ho hb4 hg4 hat4))
      go_roundg (gk - 1)
      case measure => have := HI.out; have := HH.out; omega
      case rel =>
        have hgb := HG4.out
        have hne : ∀ k, (k = A ∨ k = g) → some k ≠ u6.ownBlock := fun k hk e => by
          have := ((Kd.R_bound HO3.out).1 k e.symm).1
          rcases hk with rfl | rfl
          · exact this.1 rfl
          · exact this.2 rfl
        refine ⟨i + 1, ?_, ⟨by have := HI.out; have := HH.out; omega⟩, ⟨?_⟩, ⟨?_⟩, ⟨?_⟩, HB4⟩
        · have := HLE.out; have := HH.out
          have e1 : IntKind.i64.wrap ((i : Int) + 1) = ((i + 1 : Nat) : Int) := by rw [IntKind.wrap_i64]; omega
          have e2 : wrap64 ((i : Int) + 1) = ((i + 1 : Nat) : Int) := by rw [wrap64]; omega
          first | rfl | (rw [← e1]; done) | (rw [← e2]; done) | (simp [e1]; done) | (simp [e2]; done) | (show Value.int .i64 _ = _; rw [e1]; done) | (show Value.int .i64 _ = _; rw [e2])
        · rw [outS, HZS.out]; exact HO4.out
        · exact Kd.R_mono (Kd.R_step (Kd.R_tight2 rfl HRS3.out) (fun k hk hkl => hgb.block k hkl (hne k (.inr (Option.some.inj hk.1))))) (fun k hk => hk.2)
        · obtain ⟨f, ⟨c, h1, h2, h3⟩, _, hf⟩ := HROW3.out
          exact ⟨f, ⟨c, blk_grown h1 hgb (hne A (.inl rfl)), h2, h3⟩, hf⟩
    · have h1 : (ls.length : Int) ≤ (i : Int) := by omega
      have HE := Aside0.mk (show i = ls.length from by have := HI.out; omega)
      clear hi
      go_wp2
      refine bodyPost_ret (results_tmp2 rfl _ _ _) rfl ⟨_, rfl, ?_, HBW.out.trans (HB.out.mono HBW.out.size)⟩
      have h := HO.out
      rw [HE.out] at h
      exact R_rebase h (by have := HBS.out; omega) (fun _ _ _ => trivial)
end Go.Proofs.YteijndaldkkpfaaW.SortW
