/-
  The program's laid: the layout of one array.
-/
import Derived.Test.YtlakjonnkggomaaLvE
namespace Go.Proofs.YtlakjonnkggomaaW.PrintMore
set_option linter.unusedVariables false
set_option linter.unusedSimpArgs false
open Go.Proofs Go.Deep
open Go.RowKit Go.Proofs.YtlakjonnkggomaaW.PrintWords Go.Proofs.YtlakjonnkggomaaW.PrintLast Go.Proofs.YtlakjonnkggomaaW.PrintMore
/-- A layout's rows in memory, each of its own. -/
def LSR (W : World) (base gL cL : Nat) (vD : Value) (Ms : List (List Int)) (E : List Int) : Prop := ∃ (rs : Array Value) (f : Nat → Nat), W.heap[gL]? = some (.cells rs 23 (0, 0)) ∧ rs.size = cL ∧ (∀ i, i < Ms.length → ∃ v, rs[i]? = some v ∧ Kd.R kI 3 W base (fun k => f k = i) v (Ms.getD i [])) ∧ Kd.R kI 3 W base (fun k => f k = Ms.length) vD E
/-- The layout of one array. -/
def ldA (Ls : List (List Nat)) (D : List Int) (a : Nat) : List (List Int) × List Int := lyA Ls D 0 a (List.replicate Ls.length [], [])
theorem ldA_len (Ls : List (List Nat)) (D : List Int) (a : Nat) : (ldA Ls D a).1.length = Ls.length := by
  unfold ldA
  rw [lyA_len, List.length_replicate]
theorem lay_size : (Try.prog.info? 30).map (·.size) = some 2 := by kernel_rfl
theorem rows_info : (Try.prog.info? 23).map (fun i => (i.zero, i.size, i.bytes)) = some (some (.slice none 0 0), 1, 24) := by kernel_rfl
set_option maxHeartbeats 16000000 in
set_option maxRecDepth 100000 in
theorem laid_walk (w : World) (g : Nat) (z : Int) (A : Option Addr) (n k d : Nat) (Ls : List (List Nat)) (D : List Int) (a : Nat) (hd : d = Ls.length) (h4 : Ls.length ≤ 3) (hg : w.heap[g]? = some (.cells #[.int .i64 z, .slice A n k] 45 (0, 0)))
    (hN : NdT w Ls D a (.agg #[.int .i64 z, .slice A n k])) (h400 : ∀ L ∈ Ls, ∀ m ∈ L, m ≤ 400) :
    Calls Try.prog 21 #[.slice (some ⟨g, 0, none⟩) 1 1, .int .i64 (d : Int)] w fun e w' => ∃ gL cL vD, e = .returned (.agg #[.slice (some ⟨gL, 0, none⟩) d cL, vD]) ∧ w.heap.size ≤ gL ∧ d ≤ cL ∧ cL ≤ 3 ∧ LSR w' w.heap.size gL cL vD (ldA Ls D a).1 (ldA Ls D a).2 ∧ Below w.heap.size w w' := by
  have hul := Try.underlying30
  have hua := Try.underlying45
  have hdn : (0 : Int) ≤ (d : Int) := by omega
  have hd4 : (d : Int) ≤ 3 := by omega
  have hmk := print_make_of 22 23 (.slice none 0 0) 24 Try.underlying22 rows_info rfl (by decide) d (by omega)
  obtain ⟨W0, hW0⟩ : ∃ W0, W0 = w.alloc (.cells #[.slice none 0 0, .slice none 0 0] 30) := ⟨_, rfl⟩
  have hs0 : W0.heap.size = w.heap.size + 1 := by rw [hW0]; simp
  have hb0 : Below w.heap.size w W0 := by rw [hW0]; exact (Below.refl _ w).alloc (Nat.le_refl _) _
  obtain ⟨W2, hW2⟩ : ∃ W2, W2 = (W0.alloc (.cells (madeCells #[.slice none 0 0] d) 23)).alloc (.cells #[.slice (some ⟨w.heap.size + 1, 0, none⟩) d d, .slice none 0 0] 30) := ⟨_, rfl⟩
  have hb2 : Below W0.heap.size W0 W2 := by rw [hW2]; exact ((Below.refl _ W0).alloc (Nat.le_refl _) _).alloc (by simp) _
  have hS0 : LS W2 (w.heap.size + 1 + 1) W0.heap.size (w.heap.size + 1) d (.slice none 0 0) (List.replicate Ls.length []) [] := by
    have e1 : W2.heap[w.heap.size + 1 + 1]? = some (.cells #[.slice (some ⟨w.heap.size + 1, 0, none⟩) d d, .slice none 0 0] 30 (0, 0)) := by
      have h := blk_new (W0.alloc (.cells (madeCells #[.slice none 0 0] d) 23)) (.cells #[.slice (some ⟨w.heap.size + 1, 0, none⟩) d d, .slice none 0 0] 30)
      have hz : (W0.alloc (.cells (madeCells #[.slice none 0 0] d) 23)).heap.size = w.heap.size + 1 + 1 := by simp [hs0]
      rw [hz, ← hW2] at h
      exact h
    have e2 : W2.heap[w.heap.size + 1]? = some (.cells (madeCells #[.slice none 0 0] d) 23 (0, 0)) := by
      have h := blk_new W0 (.cells (madeCells #[.slice none 0 0] d) 23)
      rw [hs0] at h
      rw [hW2]
      exact blk_below h ((Below.refl _ _).alloc (Nat.le_refl _) _)
    refine ⟨by rw [List.length_replicate, ← hd]; exact e1, by omega, by omega, by rw [List.length_replicate, hd]; exact Nat.le_refl _, rz_of e2 (by simp [size_madeCells]), _, fun _ => 0, e2, fun i hi => ?_, Kd.R_nil _ _ _ _ _⟩
    rw [List.length_replicate] at hi
    refine ⟨.slice none 0 0, ?_, ?_⟩
    · rw [Array.getElem?_eq_getElem (by simp [size_madeCells]; omega)]
      simp [madeCells, Nat.mod_one]
    · rw [List.getD_eq_getElem?_getD, List.getElem?_replicate]
      rw [if_pos hi]
      exact Kd.R_nil _ _ _ _ _
  have HS0 := Aside0.mk hS0
  have HS00 := Aside0.mk hs0
  have HB0 := Aside0.mk hb0
  have HB2 := Aside0.mk hb2
  have HN0 := Aside0.mk (nd_below hb0 _ _ _ _ hN)
  have HGW := Aside0.mk (show W0.heap[g]? = some (.cells #[.int .i64 z, .slice A n k] 45 (0, 0)) from blk_below hg hb0)
  have HXW := Aside0.mk (show W0.heap[w.heap.size]? = some (.cells #[.slice none 0 0, .slice none 0 0] 30 (0, 0)) from by
    rw [hW0]
    exact blk_new w _)
  have HW2 := Aside0.mk hW2
  have HW0 := Aside0.mk hW0
  have HH4 := Aside0.mk h4
  clear hS0 hs0 hb0 hb2 hW0 hW2
  have HN := Aside0.mk hN
  have HG := Aside0.mk hg
  have HD := Aside0.mk hd
  have H400 := Aside0.mk h400
  clear hN hg hd h4 h400
  go_enter Try.func21, Try.ntmps21
  go_wp2_with fail
  rw [show ((w.alloc (Obj.cells #[Value.slice none 0 0, Value.slice none 0 0] 30)).alloc (Obj.cells (madeCells #[Value.slice none 0 0] d) 23)).alloc (Obj.cells #[Value.slice (some { block := w.heap.size + 1, off := 0 }) d d, Value.slice none 0 0] 30) = W2 from by rw [HW2.out, HW0.out]]
  clear hmk
  go_loopg [13] 1 (fun kq v13 w' => Aside0 (Below W0.heap.size W0 w') ∧ ((v13 = .int .i64 0 ∧ Aside0 (kq = 1) ∧ Aside0 (LS w' (w.heap.size + 1 + 1) W0.heap.size (w.heap.size + 1) d (.slice none 0 0) (List.replicate Ls.length []) [])) ∨ (v13 = .int .i64 1 ∧ ∃ vD, Aside0 (LS w' (w.heap.size + 1 + 1) W0.heap.size (w.heap.size + 1) d vD (ldA Ls D a).1 (ldA Ls D a).2))))
  case atStart => exact ⟨HB2, .inl ⟨rfl, ⟨rfl⟩, HS0⟩⟩
  case round =>
    obtain ⟨HB, hrel⟩ := hrel
    rcases hrel with ⟨rfl, HK1, HLS⟩ | ⟨rfl, vD, HLD⟩
    · have hgr : wr.heap[g]? = some (.cells #[.int .i64 z, .slice A n k] 45 (0, 0)) := blk_below HGW.out HB.out
      have hc1 : wr.cell? ⟨g, 0, none⟩ = some (.int .i64 z) := (blk_cell hgr 0).trans rfl
      have hc2 : wr.cell? ⟨g, 1, none⟩ = some (.slice A n k) := (blk_cell hgr 1).trans rfl
      clear hgr
      go_wp2_with fail
      have hcall := lay_walk W0 (w.heap.size + 1 + 1) W0.heap.size (w.heap.size + 1) d rfl Ls D H400.out 0 a (.agg #[.int .i64 z, .slice A n k]) (wr.alloc (.cells #[.int .i64 z, .slice A n k] 45)) (.slice none 0 0) (List.replicate Ls.length []) [] 0 (by rw [List.length_replicate]; omega) (by rw [List.length_replicate]; have := HH4.out; omega) HN0.out (HB.out.alloc HB.out.size _) (HLS.out.move ((Below.refl _ wr).alloc (Nat.le_refl _) _)) ⟨fun M hM => by rw [(List.mem_replicate.1 hM).2]; exact Nat.le_refl _, Nat.le_refl _⟩ (by
        have h := HH4.out
        have h3 : ∀ m, m ≤ 3 → lyC m ≤ 100000000 := by decide
        have := h3 _ h
        omega)
      refine hcall.mono ?_
      clear hcall
      rintro e w2 ⟨vD, rfl, hl2, _, hb2⟩
      have HL2 := Aside0.mk hl2
      have HB22 := Aside0.mk hb2
      clear hl2 hb2
      go_wp2_with fail
      go_roundg 0
      case measure => have := HK1.out; omega
      case rel => exact ⟨HB22, .inr ⟨rfl, vD, HL2⟩⟩
    · have hblk := HLD.out.blk
      have hlen : (ldA Ls D a).1.length = d := by rw [ldA_len, HD.out]
      rw [hlen] at hblk
      have hxr : wr.heap[w.heap.size]? = some (.cells #[.slice none 0 0, .slice none 0 0] 30 (0, 0)) := blk_below HXW.out HB.out
      have hc0 : wr.cell? ⟨w.heap.size + 1 + 1, 0, none⟩ = some (.slice (some ⟨w.heap.size + 1, 0, none⟩) d d) := (blk_cell hblk 0).trans rfl
      have hc1 : wr.cell? ⟨w.heap.size + 1 + 1, 1, none⟩ = some vD := (blk_cell hblk 1).trans rfl
      have hx0 : wr.cell? ⟨w.heap.size, 0, none⟩ = some (.slice none 0 0) := (blk_cell hxr 0).trans rfl
      have hx1 : wr.cell? ⟨w.heap.size, 1, none⟩ = some (.slice none 0 0) := (blk_cell hxr 1).trans rfl
      have hf0 := blk_frozen hxr 0
      have hf1 := blk_frozen hxr 1
      obtain ⟨A9, k9, hv9, _, _⟩ := Kd.R_reads HLD.out.rows.choose_spec.choose_spec.2.2
      subst hv9
      have HXR := Aside0.mk hxr
      clear hblk hlen hxr
      go_wp2_with fail
      first | go_end0 | ((try simp only [Exit.inBlock, Exit.then]))
      have HR2 := blk_put (blk_put HXR.out 0 (.slice (some ⟨w.heap.size + 1, 0, none⟩) d d) rfl) 1 (.slice A9 (ldA Ls D a).2.length k9) rfl
      refine bodyPost_ret (results_single rfl (.cell w.heap.size 30 _ (0, 0) _ rfl HR2 Try.underlying30 rfl lay_size .nil)) rfl ?_
      obtain ⟨rs, f, hrs, hrow, hdat⟩ := HLD.out.rows
      have hle := Nat.le_of_lt (Nat.lt_of_lt_of_le (Nat.lt_succ_self _) (Nat.le_of_eq HS00.out.symm))
      refine ⟨w.heap.size + 1, d, _, rfl, by omega, Nat.le_refl _, by rw [HD.out]; exact HH4.out, ⟨rs, f, ?_, HLD.out.hz rs hrs, fun i hi => ?_, ?_⟩, ?_⟩
      · exact blk_far (blk_far hrs (by show w.heap.size + 1 ≠ w.heap.size; omega) _) (by show w.heap.size + 1 ≠ w.heap.size; omega) _
      · obtain ⟨v, hv, hR⟩ := hrow i hi
        exact ⟨v, hv, Kd.R_lower (Kd.R_set (Kd.R_set hR HXR.out lsT1 0 _) (blk_put HXR.out 0 _ rfl) lsT1 1 _) hle⟩
      · exact Kd.R_lower (Kd.R_set (Kd.R_set hdat HXR.out lsT1 0 _) (blk_put HXR.out 0 _ rfl) lsT1 1 _) hle
      · have hb := HB0.out.trans (HB.out.mono hle)
        exact below_set (below_set hb (Nat.le_refl _)) (Nat.le_refl _)
end Go.Proofs.YtlakjonnkggomaaW.PrintMore
