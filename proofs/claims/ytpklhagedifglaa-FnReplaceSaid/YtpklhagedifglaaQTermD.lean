/-
  Cut to what this claim uses.
-/
import Derived.Test.YtpklhagedifglaaQTermC
namespace Go.Proofs.YtpklhagedifglaaW.PrintMore
set_option linter.unusedVariables false
set_option linter.unusedSimpArgs false
open Go.Proofs Go.Deep
open Go.RowKit Go.Proofs.YtpklhagedifglaaW.PrintWords
/-- The reader in memory. -/
def RD (W : World) (b : Nat) (T : ByteArray) (i : Nat) (bad : Bool) : Prop := W.heap[b]? = some (.cells #[.string T, .int .i64 (i : Int), .bool bad] 79 (0, 0)) ∧ i ≤ T.size
/-- What a call with the reader leaves. -/
def RK (w0 w w' : World) (b : Nat) : Prop := Below w0.heap.size w0 w' ∧ KeepBut w w' b none
theorem RD.set1 {W : World} {b : Nat} {T : ByteArray} {i : Nat} {bad : Bool} (h : RD W b T i bad) (x : Int) (j : Nat) (hx : x = (j : Int)) (hj : j ≤ T.size) : RD (W.setCell ⟨b, 1, none⟩ (.int .i64 x)) b T j bad := by subst hx; exact ⟨blk_put h.1 1 _ rfl, hj⟩
theorem RD.set2 {W : World} {b : Nat} {T : ByteArray} {i : Nat} {bad : Bool} (h : RD W b T i bad) (x : Bool) : RD (W.setCell ⟨b, 2, none⟩ (.bool x)) b T i x := ⟨blk_put h.1 2 _ rfl, h.2⟩
theorem RD.drewN {W : World} {b : Nat} {T : ByteArray} {i : Nat} {bad : Bool} (h : RD W b T i bad) (n : Nat) : RD (W.drewN n) b T i bad := h
set_option maxHeartbeats 2000000 in
set_option maxRecDepth 100000 in
theorem nx_end (w0 w : World) (b : Nat) (T : ByteArray) (i : Nat) (bad : Bool) (hB : Below w0.heap.size w0 w) (hg : w0.heap.size ≤ b) (hr : RD w b T i bad) (hi : T.size ≤ i) :
    Calls Try.prog 62 #[.pointer (some ⟨b, 0, none⟩)] w fun e w' => e = .returned (.int .u8 0) ∧ RD w' b T i true ∧ RK w0 w w' b := by
  have c0 := blk_cell hr.1 0
  have c1 := blk_cell hr.1 1
  have c2 := blk_cell hr.1 2
  have f0 := blk_frozen hr.1 0
  have f1 := blk_frozen hr.1 1
  have f2 := blk_frozen hr.1 2
  have h1 : (T.size : Int) ≤ (i : Int) := by omega
  have HR := Aside0.mk hr
  have HB := Aside0.mk hB
  have HG := Aside0.mk hg
  clear hr hB hg
  go_enter Try.func62, Try.ntmps62
  go_wp2
  go_quiet (fail)
  go_wp2
  go_ret
  exact ⟨rfl, (HR.out.drewN nq).set2 true, below_set (pw_below_drewN HB.out nq) HG.out, (keep_drewN (KeepBut.refl _ _ _) nq).set_ _ _⟩
set_option maxHeartbeats 2000000 in
set_option maxRecDepth 100000 in
theorem nx_more (w0 w : World) (b : Nat) (T : ByteArray) (i : Nat) (bad : Bool) (c : UInt8) (r : List UInt8) (hB : Below w0.heap.size w0 w) (hg : w0.heap.size ≤ b) (hr : RD w b T i bad) (hi : T.data.toList.drop i = c :: r) (hl : T.data.toList.length ≤ 1048576) :
    Calls Try.prog 62 #[.pointer (some ⟨b, 0, none⟩)] w fun e w' => e = .returned (.int .u8 (c.toNat : Int)) ∧ RD w' b T (i + 1) bad ∧ RK w0 w w' b := by
  have hil : i < T.data.toList.length := Nat.lt_of_not_le fun h => by rw [List.drop_eq_nil_of_le h] at hi; cases hi
  have hz := size_list T
  have c0 := blk_cell hr.1 0
  have c1 := blk_cell hr.1 1
  have c2 := blk_cell hr.1 2
  have f0 := blk_frozen hr.1 0
  have f1 := blk_frozen hr.1 1
  have f2 := blk_frozen hr.1 2
  have h1 : (i : Int) < (T.size : Int) := by omega
  have h2 : IntKind.i64.wrap ((i : Int) + 1) = (i : Int) + 1 := by rw [IntKind.wrap_i64]; omega
  have h3 : IntKind.i64.wrap ((i : Int) + 1 - 1) = (i : Int) := by rw [IntKind.wrap_i64]; omega
  have h4 : IntKind.i64.wrap (i : Int) = (i : Int) := by rw [IntKind.wrap_i64]; omega
  have g0 : i < T.size := by omega
  have g1 : T[i] = c := byte_at rfl i c (by rw [List.drop_eq_getElem_cons hil] at hi; injection hi with hi _; rw [List.getElem?_eq_getElem hil, hi]) g0
  have HR := Aside0.mk hr
  have HB := Aside0.mk hB
  have HG := Aside0.mk hg
  clear hr hB hg hi hl hz hil
  go_enter Try.func62, Try.ntmps62
  go_wp2
  go_quiet (fail)
  go_wp2
  go_quiet (fail)
  go_wp2
  go_ret
  refine ⟨rfl, RD.drewN (RD.set1 (HR.out.drewN _) _ _ ?_ ?_) _, pw_below_drewN (below_set (pw_below_drewN HB.out _) HG.out) _, keep_drewN ((keep_drewN (KeepBut.refl _ _ _) _).set_ _ _) _⟩
  · first | exact h2 | rfl | omega
  · omega
set_option maxHeartbeats 2000000 in
set_option maxRecDepth 100000 in
theorem is_end (w0 w : World) (b : Nat) (T : ByteArray) (i : Nat) (bad : Bool) (x : Int) (hB : Below w0.heap.size w0 w) (hg : w0.heap.size ≤ b) (hr : RD w b T i bad) (hi : T.size ≤ i) :
    Calls Try.prog 66 #[.pointer (some ⟨b, 0, none⟩), .int .u8 x] w fun e w' => (∃ v, e = .returned v) ∧ RD w' b T i true ∧ RK w0 w w' b := by
  have HR := Aside0.mk hr
  have HB := Aside0.mk hB
  have HG := Aside0.mk hg
  have HI := Aside0.mk hi
  clear hr hB hg hi
  go_enter Try.func66, Try.ntmps66
  go_wp2_with fail
  refine (nx_end w0 w b T i bad HB.out HG.out HR.out HI.out).mono ?_
  rintro e w1 ⟨rfl, hr1, hb1, hk1⟩
  have c2 := blk_cell hr1.1 2
  have f2 := blk_frozen hr1.1 2
  have HR1 := Aside0.mk hr1
  have HB1 := Aside0.mk hb1
  have HK1 := Aside0.mk hk1
  clear hr1 hb1 hk1
  cases hx : ((0 : Int) != x) with
  | true =>
    go_wp2
    go_end0
    exact ⟨⟨_, rfl⟩, HR1.out.set2 true, below_set HB1.out HG.out, HK1.out.set_ _ _⟩
  | false =>
    go_wp2
    go_end0
    exact ⟨⟨_, rfl⟩, HR1.out.set2 true, below_set HB1.out HG.out, HK1.out.set_ _ _⟩
set_option maxHeartbeats 2000000 in
set_option maxRecDepth 100000 in
theorem is_more (w0 w : World) (b : Nat) (T : ByteArray) (i : Nat) (bad : Bool) (c : UInt8) (r : List UInt8) (x : UInt8) (bad' : Bool) (hB : Below w0.heap.size w0 w) (hg : w0.heap.size ≤ b) (hr : RD w b T i bad) (hi : T.data.toList.drop i = c :: r) (hl : T.data.toList.length ≤ 1048576) (hbad : bad' = (!(c == x) || bad)) :
    Calls Try.prog 66 #[.pointer (some ⟨b, 0, none⟩), .int .u8 (x.toNat : Int)] w fun e w' => (∃ v, e = .returned v) ∧ RD w' b T (i + 1) bad' ∧ RK w0 w w' b := by
  have HR := Aside0.mk hr
  have HB := Aside0.mk hB
  have HG := Aside0.mk hg
  have HI := Aside0.mk hi
  have HL := Aside0.mk hl
  have HX := Aside0.mk hbad
  clear hr hB hg hi hl hbad
  go_enter Try.func66, Try.ntmps66
  go_wp2_with fail
  refine (nx_more w0 w b T i bad c r HB.out HG.out HR.out HI.out HL.out).mono ?_
  rintro e w1 ⟨rfl, hr1, hb1, hk1⟩
  have c2 := blk_cell hr1.1 2
  have f2 := blk_frozen hr1.1 2
  have HR1 := Aside0.mk hr1
  have HB1 := Aside0.mk hb1
  have HK1 := Aside0.mk hk1
  clear hr1 hb1 hk1
  by_cases hx : c = x
  · subst hx
    have h5 : (((c.toNat : Int)) != ((c.toNat : Int))) = false := by simp
    have e5 : bad' = bad := by have := HX.out; simpa using this
    subst e5
    go_wp2
    go_end0
    exact ⟨⟨_, rfl⟩, HR1.out.set2 _, below_set HB1.out HG.out, HK1.out.set_ _ _⟩
  · have h5 : (((c.toNat : Int)) != ((x.toNat : Int))) = true := by simp; intro h; apply hx; apply UInt8.toNat_inj.1; exact_mod_cast h
    have e6 : (c == x) = false := by simp [hx]
    have e5 : bad' = true := by rw [HX.out, e6]; rfl
    clear e6
    subst e5
    go_wp2
    go_end0
    exact ⟨⟨_, rfl⟩, HR1.out.set2 _, below_set HB1.out HG.out, HK1.out.set_ _ _⟩
end Go.Proofs.YtpklhagedifglaaW.PrintMore
