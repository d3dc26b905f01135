/-
  The reference's l2Fold.
-/
import Derived.Test.YtlakjonnkggomaaLvC
namespace Go.Proofs.YtlakjonnkggomaaW.PrintMore
set_option linter.unusedVariables false
set_option linter.unusedSimpArgs false
open Go.Proofs Go.Deep
open Go.RowKit Go.Proofs.YtlakjonnkggomaaW.PrintWords Go.Proofs.YtlakjonnkggomaaW.PrintLast Go.Proofs.YtlakjonnkggomaaW.PrintMore
theorem nd_form {W : World} {ok : Nat → Prop} {Ls : List (List Nat)} {D : List Int} {a : Nat} {u0 u1 : Value} (h : Nd W ok Ls D a (.agg #[u0, u1])) : ∃ z A n k, u0 = .int .i64 z ∧ u1 = .slice A n k := by
  cases Ls with
  | nil =>
    obtain ⟨A, k, e⟩ := h
    injection e with e
    simp at e
    exact ⟨_, _, _, _, e.1, e.2⟩
  | cons L Ls =>
    obtain ⟨A, k, xs, e, _⟩ := h
    injection e with e
    simp at e
    exact ⟨_, _, _, _, e.1, e.2⟩
def fdW (w : World) (a b : Value) : World := ((w.alloc (.cells #[a, b] 30)).alloc (.cells #[.int .i64 0, .slice none 0 0] 52)).alloc (.cells #[a, b, .int .i64 0, .int .i64 0, .int .i64 0, .int .i64 0] 62)
set_option maxHeartbeats 16000000 in
set_option maxRecDepth 100000 in
theorem fold_walk (w : World) (A0 : Option Addr) (n c0 : Nat) (Ls : List (List Nat)) (A1 : Option Addr) (m c1 : Nat) (D : List Int) (hn : n = Ls.length) (hm : m = D.length) (hm1 : m ≤ 1048576) (hL3 : Lsz Ls) (hv : VdN 1 Ls D)
    (hr : Kd.C (Kd.slice 3 (Kd.int .i64)) w A0 n (Ls.map lv_nts)) (hd : Kd.C (Kd.int .i64) w A1 m D) (hsm : ∀ L ∈ Ls, L.sum ≤ 1048576) :
    Calls Try.prog 29 #[.agg #[.slice A0 n c0, .slice A1 m c1]] w fun e w' => ∃ u0 u1, e = .returned (.agg #[u0, u1]) ∧ NdT w' Ls D 0 (.agg #[u0, u1]) ∧ Below w.heap.size w w' := by
  have huf := Try.underlying62
  have hul := Try.underlying30
  have hun := Try.underlying52
  obtain ⟨Z, hZ⟩ : ∃ Z, Z = fdW w (.slice A0 n c0) (.slice A1 m c1) := ⟨_, rfl⟩
  have hb1 : Below w.heap.size w Z := by
    rw [hZ]
    exact (((Below.refl _ w).alloc (Nat.le_refl _) _).alloc (by simp) _).alloc (by simp; omega) _
  have hF : FB Z (w.heap.size + 1 + 1) (.slice A0 n c0) (.slice A1 m c1) (fun _ => 0) := by
    rw [hZ]
    have h := blk_new ((w.alloc (.cells #[.slice A0 n c0, .slice A1 m c1] 30)).alloc (.cells #[.int .i64 0, .slice none 0 0] 52)) (.cells #[.slice A0 n c0, .slice A1 m c1, .int .i64 0, .int .i64 0, .int .i64 0, .int .i64 0] 62)
    have e : ((w.alloc (.cells #[.slice A0 n c0, .slice A1 m c1] 30)).alloc (.cells #[.int .i64 0, .slice none 0 0] 52)).heap.size = w.heap.size + 1 + 1 := by simp
    rw [e] at h
    exact h
  have hR : OB Z (w.heap.size + 1) (.int .i64 0) (.slice none 0 0) := by
    rw [hZ]
    have h := blk_new (w.alloc (.cells #[.slice A0 n c0, .slice A1 m c1] 30)) (.cells #[.int .i64 0, .slice none 0 0] 52)
    have e : (w.alloc (.cells #[.slice A0 n c0, .slice A1 m c1] 30)).heap.size = w.heap.size + 1 := by simp
    rw [e] at h
    exact blk_alloc h _
  have hcall := next_walk w (w.heap.size + 1 + 1) A0 n c0 Ls A1 m c1 D 1 hn hm hm1 hL3 hv hr hd (by omega) hsm Ls.length 0 (fun _ => 0) Z (by omega) hF (fun k _ _ => by simp) (by rw [List.drop_zero, vd_cnt hv]; omega) hb1
  have HC := Aside0.mk hcall
  have HR := Aside0.mk hR
  have HB1 := Aside0.mk hb1
  have HZL := Aside0.mk (blk_lt hR)
  have HZ := Aside0.mk hZ
  clear hcall hR hb1 hF hr hd hsm hv hL3 hm1 hn hm hZ
  go_enter Try.func29, Try.ntmps29
  go_wp2_with fail
  have hc := HC.out
  rw [HZ.out] at hc
  unfold fdW at hc
  refine Calls.mono (show Calls Try.prog 35 #[.pointer (some ⟨w.heap.size + 1 + 1, 0, none⟩), .int .i64 0] _ _ from hc) ?_
  clear hc
  rintro e w2 ⟨u0, u1, p', rfl, h0, h1, hN, hF2, _, _, _, hK2, hB2⟩
  rw [List.drop_zero] at hN
  obtain ⟨z9, A9, n9, k9, rfl, rfl⟩ := nd_form hN
  have hR2 : OB w2 (w.heap.size + 1) (.int .i64 0) (.slice none 0 0) := by
    have h3 := HR.out
    have h4 := HZL.out
    rw [HZ.out] at h3 h4
    exact (hK2.2 _ h4 (by omega) (by simp)).trans h3
  have HR2 := Aside0.mk hR2
  have HB2 := Aside0.mk hB2
  have HN := Aside0.mk hN
  have hze : (fdW w (.slice A0 n c0) (.slice A1 m c1)).heap.size = w.heap.size + 3 := by unfold fdW; simp
  unfold fdW at hze
  have HZ2 := Aside0.mk (show w.heap.size + 3 ≤ w2.heap.size from by rw [← hze]; exact hK2.1)
  have cR0 : w2.cell? ⟨w.heap.size + 1, 0, none⟩ = some (.int .i64 0) := (blk_cell hR2 0).trans rfl
  have cR1 : w2.cell? ⟨w.heap.size + 1, 1, none⟩ = some (.slice none 0 0) := (blk_cell hR2 1).trans rfl
  have fR0 := blk_frozen hR2 0
  have fR1 := blk_frozen hR2 1
  clear hN hF2 hK2 hB2 hR2 hze
  go_wp2
  have HR3 := blk_put (blk_put HR2.out 0 (.int .i64 z9) rfl) 1 (.slice A9 n9 k9) rfl
  refine bodyPost_ret (results_single rfl (.cell (w.heap.size + 1) 52 _ (0, 0) _ rfl HR3 Try.underlying52 rfl node_size .nil)) rfl ?_
  have HMV : ∀ k, k ≠ w.heap.size + 1 → ((w2.setCell ⟨w.heap.size + 1, 0, none⟩ (.int .i64 z9)).setCell ⟨w.heap.size + 1, 1, none⟩ (.slice A9 n9 k9)).heap[k]? = w2.heap[k]? := fun k hk => (Below.heap_setCell _ ⟨w.heap.size + 1, 1, none⟩ _ k hk).trans (Below.heap_setCell _ ⟨w.heap.size + 1, 0, none⟩ _ k hk)
  refine ⟨_, _, rfl, ?_, below_set (below_set HB2.out (by omega)) (by omega)⟩
  have hN2 := nd_mono (ok' := fun k => k ≠ w.heap.size + 1) (fun k _ hk => by
    have h1 := hk.1
    have h2 : (((w.alloc (.cells #[.slice A0 n c0, .slice A1 m c1] 30)).alloc (.cells #[.int .i64 0, .slice none 0 0] 52)).alloc (.cells #[.slice A0 n c0, .slice A1 m c1, .int .i64 0, .int .i64 0, .int .i64 0, .int .i64 0] 62)).heap.size = w.heap.size + 3 := by simp
    rw [h2] at h1
    omega) _ _ _ _ HN.out
  exact nd_mono (fun _ _ _ => trivial) _ _ _ _ (nd_move (fun k hk => HMV k hk) _ _ _ _ hN2)
end Go.Proofs.YtlakjonnkggomaaW.PrintMore
