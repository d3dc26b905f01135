/-
  Cut to what this claim uses.
-/
import Derived.Deep.Upon
import Derived.Test.YteijndaldkkpfaaQTurnC
namespace Go.Proofs.YteijndaldkkpfaaW.PrintMore
set_option linter.unusedVariables false
set_option linter.unusedSimpArgs false
open Go.Proofs Go.Deep
open Go.RowKit Go.Proofs.YteijndaldkkpfaaW.PrintWords Go.Proofs.YteijndaldkkpfaaW.PrintLast Go.Proofs.YteijndaldkkpfaaW.PrintMore
def zsL (s n : Nat) : List Int := (List.range n).map fun (j : Nat) => ((s + j : Nat) : Int)
theorem zsL_len (s n : Nat) : (zsL s n).length = n := by unfold zsL; rw [List.length_map, List.length_range]
def outT (ls : List Nat) : Nat → List Int
  | 0 => []
  | i + 1 => outT ls i ++ (zsL (ls.take i).sum (ls.getD i 0)).reverse
theorem outT_len (ls : List Nat) : ∀ i, (outT ls i).length = (ls.take i).sum := by
  intro i
  induction i with
  | zero => rfl
  | succ i ih =>
    rw [outT, List.length_append, List.length_reverse, zsL_len, ih, List.take_add_one]
    cases h : ls[i]? with
    | none => simp [List.getD_eq_getElem?_getD, h]
    | some n => simp [List.getD_eq_getElem?_getD, h, List.sum_append]
theorem C_of_cells {W : World} {A s : Nat} {ys : List Int} (hb : ys.length ≤ 1000) (h : ∀ j, j < ys.length → W.cell? ⟨A, s + j, none⟩ = some (.int .i64 (ys.getD j 0))) : Kd.C (Kd.int .i64) W (some ⟨A, s, none⟩) ys.length ys :=
  ⟨rfl, by omega, fun _ => ⟨⟨A, s, none⟩, rfl, fun j p hp => ⟨[.int .i64 p], rfl, rfl, fun i u hu => by
    match i, hu with
    | 0, hu =>
      have hj := (List.getElem?_eq_some_iff.1 hp).1
      have h1 := h j hj
      have e : ys.getD j 0 = p := by rw [List.getD_eq_getElem?_getD, hp]; rfl
      rw [e] at h1
      simp only [List.getElem?_cons_zero, Option.some.injEq] at hu
      subst hu
      have e2 : (⟨A, s, none⟩ : Addr).add (j * (Kd.int .i64).sz + 0) = ⟨A, s + j, none⟩ := by
        show (⟨A, s, none⟩ : Addr).add (j * 1 + 0) = _
        rw [Nat.mul_one, Nat.add_zero]
        unfold Addr.add; split <;> simp_all
      rw [e2]; exact h1
    | i + 1, hu => simp at hu⟩⟩⟩
theorem rev_world {w W : World} {A s n cap : Nat} {f : Nat → Value} {zs : List Int} (hA : W.rowIs A 3 cap f) (q : Nat) (hzn : zs.length = n) :
    ((W.drewN q).setCells A s (zs.reverse.map (Value.int .i64))).rowIs A 3 cap (fun j => if s ≤ j ∧ j < s + n then ((zs.reverse.map (Value.int .i64))[j - s]?).getD default else f j) := by
  have h : (W.drewN q).rowIs A 3 cap f := hA
  have := rowIs_setCells (zs.reverse.map (Value.int .i64)) s (W.drewN q) f h
  simpa [hzn] using this
theorem turn_new {w3 : World} {base A g n xc e : Nat} {ps : List (Nat × Nat)} (h : Kd.R (kCut A) e w3 base (fun k => k ≠ A) (.slice (some ⟨g, 0, none⟩) n xc) ps) (hA : A < w3.heap.size) {k : Nat} (hk : w3.heap.size ≤ k) : k ≠ A ∧ some k ≠ (Value.slice (some ⟨g, 0, none⟩) n xc).ownBlock :=
  ⟨by omega, fun e => by have := ((Kd.R_bound h).1 k e.symm).2.2.1; omega⟩
theorem blk_ltA {w3 : World} {A t cap : Nat} {P : (Nat → Value) → Prop} (h : ∃ f, w3.rowIs A t cap f ∧ P f) : A < w3.heap.size := by
  obtain ⟨f, ⟨c, h1, _⟩, _⟩ := h
  exact blk_lt h1
set_option maxHeartbeats 16000000 in
set_option maxRecDepth 100000 in
theorem turn_walk (w : World) (A0 : Option Addr) (c0 : Nat) (ls : List Nat) (hr : Kd.C (Kd.int .i64) w A0 ls.length (nats ls)) (hc0 : ls.length ≤ c0) (hlen : ls.length ≤ 400) (hsum : ls.sum ≤ 400)
    (hok : Calls Try.prog 59 #[.slice A0 ls.length c0] w fun e w' => e = .returned (.bool true) ∧ Below w.heap.size w w') :
    Calls Try.prog 25 #[.slice A0 ls.length c0] w fun e w' => ∃ v, e = .returned (.tuple #[v, .bool true]) ∧ Kd.R (Kd.int .i64) 3 w' w.heap.size (fun _ => True) v (outT ls ls.length) ∧ Below w.heap.size w w' := by
  have HR := Aside0.mk hr
  have HLE := Aside0.mk hlen
  have HSM := Aside0.mk hsum
  have HC0 := Aside0.mk hc0
  clear hr hlen hsum hc0
  go_enter Try.func25, Try.ntmps25
  go_wp2_with fail
  refine hok.mono ?_
  rintro e w1 ⟨rfl, hb1⟩
  have HB1 := Aside0.mk (below_alloc hb1 (.cells #[] 3))
  have HO0 := Aside0.mk (own_emptyS (Value.int .i64) (fun _ => rfl) 3 w1 w.heap.size hb1.size)
  have HRW := Aside0.mk (C_below HR.out HB1.out)
  have HZ1 := Aside0.mk (show w.heap.size ≤ w1.heap.size from hb1.size)
  clear hb1 hok
  go_wp2_with fail
  refine (indices_walk _ A0 c0 ls HRW.out HC0.out HLE.out HSM.out).mono ?_
  rintro e w2 ⟨vr, A, ps, cap, rfl, hA, hrow, hcap, hrows, hpl, hcu, hb2⟩
  have HB2 := Aside0.mk (HB1.out.trans (hb2.mono HB1.out.size))
  have HAW := Aside0.mk (show w1.heap.size < A ∧ w.heap.size ≤ A from by have := HZ1.out; simp at hA; omega)
  have HO2 := Aside0.mk (show Kd.R (Kd.int .i64) 3 w2 w.heap.size (fun k => k ≠ A ∧ some k ≠ vr.ownBlock) (.slice (some ⟨w1.heap.size, 0, none⟩) 0 0) [] from by
    refine R_rebase (Kd.R_below HO0.out hb2) (Nat.le_refl _) (fun k hk _ => ?_)
    have hk : w1.heap.size = k := Option.some.inj hk
    refine ⟨by have := HAW.out; omega, fun e => ?_⟩
    have := (Kd.R_bound hrows).1 k e.symm
    have h2 := this.2.1
    simp at h2; omega)
  have HP := Aside0.mk (And.intro hpl hcu)
  have HRS := Aside0.mk (show Kd.R (kCut A) 22 w2 w.heap.size (fun k => k ≠ A) vr ps from R_rebase hrows (by have := HZ1.out; simp; omega) (fun k hk _ => ((Kd.R_bound hrows).1 k hk).1))
  have HROW := Aside0.mk (show ∃ f, w2.rowIs A 3 cap f ∧ ∀ j, (ls.take 0).sum ≤ j → j < ls.sum → f j = .int .i64 (j : Int) from by obtain ⟨f, h1, h2⟩ := hrow; exact ⟨f, h1, fun j _ hj => h2 j hj⟩)
  have HCAP := Aside0.mk hcap
  obtain ⟨X, xc, hvr, hle, _⟩ := Kd.R_reads hrows
  have hvr' : ∃ m, m = ls.length ∧ vr = .slice X m xc := ⟨_, hpl, hvr⟩
  clear hvr
  obtain ⟨m, hm, hvr⟩ := hvr'
  subst hvr
  subst hm
  clear hA hrow hcap hrows hpl hcu hb2 hle
  go_wp2
  go_loopg [4, 14] (ls.length) (fun kq v4 v14 w' => ∃ (i : Nat), v14 = .int .i64 (i : Int) ∧ Aside0 (kq + i = ls.length) ∧ Aside0 (Kd.R (Kd.int .i64) 3 w' w.heap.size (fun k => k ≠ A ∧ some k ≠ (Value.slice X ls.length xc).ownBlock) v4 (outT ls i)) ∧ Aside0 (Kd.R (kCut A) 22 w' w.heap.size (fun k => k ≠ A) (.slice X ls.length xc) ps) ∧
    Aside0 (∃ f, w'.rowIs A 3 cap f ∧ ∀ j, (ls.take i).sum ≤ j → j < ls.sum → f j = .int .i64 (j : Int)) ∧ Aside0 (Below w.heap.size w w'))
  case atStart => exact ⟨0, rfl, ⟨by omega⟩, HO2, HRS, HROW, HB2⟩
  case round =>
    clear HO2 HRS HROW HB2
    obtain ⟨i, rfl, HI, HO, HRS, HROW, HB⟩ := hrel
    by_cases hi : i < ls.length
    · have hlt : (i : Int) < (ls.length : Int) := by omega
      have h0 : (0 : Int) ≤ (i : Int) := by omega
      have HH := Aside0.mk hi
      obtain ⟨g, hX⟩ : ∃ g, X = some ⟨g, 0, none⟩ := by
        rcases (Kd.own_of_R HRS.out).2 with ⟨_, hz⟩ | ⟨g, cp, cur, e, _⟩
        · have := HP.out.1; omega
        · injection e with e; exact ⟨g, e⟩
      subst hX
      obtain ⟨s, hs⟩ : ∃ s, s = (ps.getD i (0, 0)).1 := ⟨_, rfl⟩
      obtain ⟨n, hn⟩ : ∃ n, n = (ps.getD i (0, 0)).2 := ⟨_, rfl⟩
      have hcell : wr.cell? ⟨g, i, none⟩ = some (.slice (some ⟨A, s, none⟩) n n) := by
        have h1 := (Kd.R_celln ((0, 0) : Nat × Nat) (n := ps.length) (by rw [HP.out.1]; exact HRS.out) (i : Int) (by omega) (by rw [HP.out.1]; omega)).1
        rw [show ((i : Nat) : Int).toNat = i from by omega] at h1
        rw [h1]
        unfold rdOf
        rw [show ((i : Nat) : Int).toNat = i from by omega, hs, hn]; rfl
      obtain ⟨hn2, hs2⟩ := HP.out.2 i (by rw [HP.out.1]; exact hi)
      rw [← hn] at hn2
      rw [← hs] at hs2
      have hnl : n = ls[i] := by rw [hn2, List.getD_eq_getElem?_getD, List.getElem?_eq_getElem hi]; rfl
      have hsn : (ls.take i).sum + n ≤ 400 ∧ (ls.take (i + 1)).sum = (ls.take i).sum + n ∧ (ls.take i).sum + n ≤ ls.sum := by
        have h1 := take_sum ls i hi
        have h2 := take_sum_le ls (i + 1)
        have h3 := HSM.out
        rw [hnl]; omega
      have hs3 : n = 0 ∨ s = (ls.take i).sum := by rw [← hn2] at hs2; exact hs2
      obtain ⟨f, hrow, hf⟩ := HROW.out
      obtain ⟨zs, hzs⟩ : ∃ zs, zs = zsL (ls.take i).sum n := ⟨_, rfl⟩
      have hzl : zs.length = n := by rw [hzs, zsL_len]
      have hrv := rev_walk A s n zs wr (by omega) (by omega) (fun j hj => by
        rw [hzl] at hj
        have hs4 : s = (ls.take i).sum := by rcases hs3 with h | h; omega; exact h
        have := HCAP.out
        rw [hrow.cell (by omega), hf (s + j) (by omega) (by omega), hzs]
        unfold zsL
        rw [List.getD_eq_getElem?_getD, List.getElem?_map, List.getElem?_range hj, hs4]; rfl) (fun j hj => by
        obtain ⟨c, h1, _⟩ := hrow
        exact blk_frozen h1 _)
      rw [List.take_of_length_le (by omega : zs.length ≤ n)] at hrv
      have HRV := Aside0.mk hrv
      have HSN := Aside0.mk (And.intro hsn hs3)
      have HZL := Aside0.mk hzl
      have HZS := Aside0.mk (show (zsL (ls.take i).sum (ls.getD i 0)) = zs from by rw [hzs, hn2])
      have HROW' := Aside0.mk (show ∃ f, wr.rowIs A 3 cap f ∧ ∀ j, (ls.take i).sum ≤ j → j < ls.sum → f j = .int .i64 (j : Int) from ⟨f, hrow, hf⟩)
      clear hs hn hn2 hs2 hnl hsn hs3 hrow hf hzs hzl hrv hi HROW
      go_wp2_with fail
      refine HRV.out.mono ?_
      rintro e w3 ⟨rfl, q, hw3⟩
      have HB3 := Aside0.mk (show Below w.heap.size w w3 from by rw [hw3]; exact below_setCells HAW.out.2 _ _ _ (pw_below_drewN HB.out q))
      have hblk : ∀ k, k ≠ A → k < wr.heap.size → w3.heap[k]? = wr.heap[k]? := fun k hk hkl => by rw [hw3]; exact World.heap_setCells_other (wr.drewN q) A s _ hkl hk
      have HO3 := Aside0.mk (Kd.R_step HO.out (fun k hk hkl => hblk k hk.1 hkl))
      have HRS3 := Aside0.mk (Kd.R_step HRS.out (fun k hk hkl => hblk k hk hkl))
      have HROW3 := Aside0.mk (show ∃ f, w3.rowIs A 3 cap f ∧ (∀ j, j < n → f (s + j) = .int .i64 (zs.reverse.getD j 0)) ∧ ∀ j, (ls.take (i + 1)).sum ≤ j → j < ls.sum → f j = .int .i64 (j : Int) from by
        obtain ⟨f, hrow, hf⟩ := HROW'.out
        refine ⟨_, hw3 ▸ rev_world (w := w) hrow q HZL.out, fun j hj => ?_, fun j h1 h2 => ?_⟩
        · rw [if_pos (by omega), show s + j - s = j from by omega, List.getElem?_map, List.getElem?_eq_getElem (by rw [List.length_reverse, HZL.out]; exact hj), List.getD_eq_getElem?_getD, List.getElem?_eq_getElem (by rw [List.length_reverse, HZL.out]; exact hj)]; rfl
        · have := HSN.out
          rw [if_neg (by omega)]
          exact hf j (by omega) h2)
      have HC3 := Aside0.mk (show Kd.C (Kd.int .i64) w3 (some ⟨A, s, none⟩) n zs.reverse from by
        obtain ⟨f, hrow, hf, _⟩ := HROW3.out
        have h1 := C_of_cells (W := w3) (A := A) (s := s) (ys := zs.reverse) (by rw [List.length_reverse, HZL.out]; have := HSN.out; omega) (fun j hj => by
          rw [List.length_reverse, HZL.out] at hj
          have := HSN.out; have := HCAP.out
          rw [hrow.cell (by omega), hf j hj])
        rw [List.length_reverse, HZL.out] at h1
        exact h1)
      have HLX := Aside0.mk (show (outT ls i).length ≤ 400 from by rw [outT_len]; have := HSN.out; omega)
      have hcell3 : w3.cell? ⟨g, i, none⟩ = some (.slice (some ⟨A, s, none⟩) n n) := by
        have hgA : g ≠ A := ((Kd.R_bound HRS.out).1 g rfl).1
        exact (World.cell?_of_block (w := wr) (hblk g hgA ((Kd.R_bound HRS.out).1 g rfl).2.2.1)).trans hcell
      clear hw3 hblk hcell
      go_wp2_with (first | ((with_reducible refine gate_builtin (b := .append) (xs := #[.tmp 20, .tmp 21]) rfl ?_); at_builtin; refine Kd.R_append_row (Value.int .i64) (0 : Int) (h1 := fun _ => rfl) (w0 := w) w.heap.size rfl (.tmp 20) (.tmp 21) 22 3 (.int .i64 0) 8 rfl Try.underlying22 int_info rfl (by decide) _ (outT ls i) zs.reverse _ _ _ (fun k => k ≠ A ∧ some k ≠ (Value.slice (some ⟨g, 0, none⟩) ls.length xc).ownBlock) rfl rfl ?aF ?aO ?aC ?aB ?aS ?aL ?_; (case aF => exact fun k hk => turn_new HRS3.out (blk_ltA HROW3.out) hk); (case aO => exact HO3.out); (case aC => exact HC3.out); (case aB => exact HB3.out); (case aS => exact HB3.out.size); (case aL => have := HLX.out; have := HSN.out; omega); intro v4 w21 ho hb4 hg4 hat4; have HO4 := Aside0.mk ho; have HB4 := Aside0.mk hb4; have HG4 := Aside0.mk hg4; clear ho hb4 hg4 hat4))
      go_roundg (gk - 1)
      case measure => have := HI.out; have := HH.out; omega
      case rel =>
        have hgb := HG4.out
        have hne : ∀ k, (k = A ∨ k = g) → some k ≠ u4.ownBlock := fun k hk e => by
          have := ((Kd.R_bound HO3.out).1 k e.symm).1
          rcases hk with rfl | rfl
          · exact this.1 rfl
          · exact this.2 rfl
        refine ⟨i + 1, ?_, ⟨by have := HI.out; have := HH.out; omega⟩, ⟨?_⟩, ⟨?_⟩, ⟨?_⟩, HB4⟩
        · have := HLE.out; have := HH.out
          have e1 : IntKind.i64.wrap ((i : Int) + 1) = ((i + 1 : Nat) : Int) := by rw [IntKind.wrap_i64]; omega
          have e2 : wrap64 ((i : Int) + 1) = ((i + 1 : Nat) : Int) := by rw [wrap64]; omega
          first | rfl | (rw [← e1]; done) | (rw [← e2]; done) | (simp [e1]; done) | (simp [e2]; done) | (show Value.int .i64 _ = _; rw [e1]; done) | (show Value.int .i64 _ = _; rw [e2])
        · rw [outT, HZS.out]; exact HO4.out
        · exact Kd.R_mono (Kd.R_step (Kd.R_tight2 rfl HRS3.out) (fun k hk hkl => hgb.block k hkl (hne k (.inr (Option.some.inj hk.1))))) (fun k hk => hk.2)
        · obtain ⟨f, ⟨c, h1, h2, h3⟩, _, hf⟩ := HROW3.out
          exact ⟨f, ⟨c, blk_grown h1 hgb (hne A (.inl rfl)), h2, h3⟩, hf⟩
    · have h1 : (ls.length : Int) ≤ (i : Int) := by omega
      have HE := Aside0.mk (show i = ls.length from by have := HI.out; omega)
      clear hi
      go_wp2
      refine bodyPost_ret (results_tmp2 rfl _ _ _) rfl ⟨_, rfl, ?_, HB.out⟩
      have h := HO.out
      rw [HE.out] at h
      exact Kd.R_mono h (fun _ _ => trivial)
end Go.Proofs.YteijndaldkkpfaaW.PrintMore
