/-
  Cut to what this claim uses.
-/
import Derived.Test.YtpklhagedifglaaQTermE
namespace Go.Proofs.YtpklhagedifglaaW.PrintMore
set_option linter.unusedVariables false
set_option linter.unusedSimpArgs false
open Go.Proofs Go.Deep
open Go.RowKit Go.Proofs.YtpklhagedifglaaW.PrintWords
/-- A term of the reference in memory. -/
def NdAt (W : World) (lo : Nat) : Value → Tm → Prop
  | v, .leaf c => ∃ A k, v = .agg #[.int .u8 (if isDig c = true then 48 else 97), .int .u8 (c.toNat : Int), .slice A 0 k]
  | v, .un c x => ∃ q k f0 f1 f2, lo ≤ q ∧ v = .agg #[.int .u8 (c.toNat : Int), .int .u8 0, .slice (some ⟨q, 0, none⟩) 1 k] ∧ 1 ≤ k ∧ W.cell? ⟨q, 0, none⟩ = some f0 ∧ W.cell? ⟨q, 1, none⟩ = some f1 ∧ W.cell? ⟨q, 2, none⟩ = some f2 ∧ NdAt W lo (.agg #[f0, f1, f2]) x
  | v, .bin c x y => ∃ q k f0 f1 f2 f3 f4 f5, lo ≤ q ∧ v = .agg #[.int .u8 (c.toNat : Int), .int .u8 0, .slice (some ⟨q, 0, none⟩) 2 k] ∧ 2 ≤ k ∧ W.cell? ⟨q, 0, none⟩ = some f0 ∧ W.cell? ⟨q, 1, none⟩ = some f1 ∧ W.cell? ⟨q, 2, none⟩ = some f2 ∧ W.cell? ⟨q, 3, none⟩ = some f3 ∧ W.cell? ⟨q, 4, none⟩ = some f4 ∧ W.cell? ⟨q, 5, none⟩ = some f5 ∧ NdAt W lo (.agg #[f0, f1, f2]) x ∧ NdAt W lo (.agg #[f3, f4, f5]) y
  | v, .loop c u x y => ∃ q k f0 f1 f2 f3 f4 f5, lo ≤ q ∧ v = .agg #[.int .u8 (c.toNat : Int), .int .u8 (u.toNat : Int), .slice (some ⟨q, 0, none⟩) 2 k] ∧ 2 ≤ k ∧ W.cell? ⟨q, 0, none⟩ = some f0 ∧ W.cell? ⟨q, 1, none⟩ = some f1 ∧ W.cell? ⟨q, 2, none⟩ = some f2 ∧ W.cell? ⟨q, 3, none⟩ = some f3 ∧ W.cell? ⟨q, 4, none⟩ = some f4 ∧ W.cell? ⟨q, 5, none⟩ = some f5 ∧ NdAt W lo (.agg #[f0, f1, f2]) x ∧ NdAt W lo (.agg #[f3, f4, f5]) y
theorem nd_keep {W W' : World} {lo : Nat} (h : ∀ (p : Addr) (u : Value), lo ≤ p.block → W.cell? p = some u → W'.cell? p = some u) : ∀ (t : Tm) (v : Value), NdAt W lo v t → NdAt W' lo v t := by
  intro t
  induction t with
  | leaf c => rintro v h; exact h
  | un c x ih => rintro v ⟨q, k, f0, f1, f2, h0, h1, h2, h3, h4, h5, h6⟩; exact ⟨q, k, f0, f1, f2, h0, h1, h2, h _ _ h0 h3, h _ _ h0 h4, h _ _ h0 h5, ih _ h6⟩
  | bin c x y ih1 ih2 => rintro v ⟨q, k, f0, f1, f2, f3, f4, f5, h0, h1, h2, h3, h4, h5, h6, h7, h8, h9, ha⟩; exact ⟨q, k, f0, f1, f2, f3, f4, f5, h0, h1, h2, h _ _ h0 h3, h _ _ h0 h4, h _ _ h0 h5, h _ _ h0 h6, h _ _ h0 h7, h _ _ h0 h8, ih1 _ h9, ih2 _ ha⟩
  | loop c u x y ih1 ih2 => rintro v ⟨q, k, f0, f1, f2, f3, f4, f5, h0, h1, h2, h3, h4, h5, h6, h7, h8, h9, ha⟩; exact ⟨q, k, f0, f1, f2, f3, f4, f5, h0, h1, h2, h _ _ h0 h3, h _ _ h0 h4, h _ _ h0 h5, h _ _ h0 h6, h _ _ h0 h7, h _ _ h0 h8, ih1 _ h9, ih2 _ ha⟩
theorem nd_lo {W : World} {lo lo' : Nat} (h : lo' ≤ lo) : ∀ (t : Tm) (v : Value), NdAt W lo v t → NdAt W lo' v t := by
  intro t
  induction t with
  | leaf c => rintro v h; exact h
  | un c x ih => rintro v ⟨q, k, f0, f1, f2, h0, h1, h2, h3, h4, h5, h6⟩; exact ⟨q, k, f0, f1, f2, Nat.le_trans h h0, h1, h2, h3, h4, h5, ih _ h6⟩
  | bin c x y ih1 ih2 => rintro v ⟨q, k, f0, f1, f2, f3, f4, f5, h0, h1, h2, h3, h4, h5, h6, h7, h8, h9, ha⟩; exact ⟨q, k, f0, f1, f2, f3, f4, f5, Nat.le_trans h h0, h1, h2, h3, h4, h5, h6, h7, h8, ih1 _ h9, ih2 _ ha⟩
  | loop c u x y ih1 ih2 => rintro v ⟨q, k, f0, f1, f2, f3, f4, f5, h0, h1, h2, h3, h4, h5, h6, h7, h8, h9, ha⟩; exact ⟨q, k, f0, f1, f2, f3, f4, f5, Nat.le_trans h h0, h1, h2, h3, h4, h5, h6, h7, h8, ih1 _ h9, ih2 _ ha⟩
/-- A struct of the reference. -/
def ndV (a c : Int) (A : Option Addr) (m k : Nat) : Value := .agg #[.int .u8 a, .int .u8 c, .slice A m k]
/-- A variable that holds one. -/
def LB (W : World) (g : Nat) (a c : Int) (A : Option Addr) (m k : Nat) : Prop := W.heap[g]? = some (.cells #[.int .u8 a, .int .u8 c, .slice A m k] 45 (0, 0))
def PT (n : Nat) (T : ByteArray) (i : Nat) (bad : Bool) (lo : Nat) (w' : World) (v : Value) (i' : Nat) (bad' : Bool) : Prop :=
  (bad' = true ∧ (bad = true ∨ parse n (T.data.toList.drop i) = none)) ∨ (bad' = false ∧ bad = false ∧ ∃ t, parse n (T.data.toList.drop i) = some (t, T.data.toList.drop i') ∧ NdAt w' lo v t)
def NDr (n : Nat) (T : ByteArray) (i : Nat) (bad : Bool) (b : Nat) (w0 w : World) (e : Ending) (w' : World) : Prop :=
  ∃ a c A m k i' bad', e = .returned (ndV a c A m k) ∧ RD w' b T i' bad' ∧ RK w0 w w' b ∧ PT n T i bad w.heap.size w' (ndV a c A m k) i' bad'
theorem nx_gen (w0 w : World) (b : Nat) (T : ByteArray) (i : Nat) (bad : Bool) (hB : Below w0.heap.size w0 w) (hg : w0.heap.size ≤ b) (hr : RD w b T i bad) (hl : T.data.toList.length ≤ 1048576) :
    Calls Try.prog 62 #[.pointer (some ⟨b, 0, none⟩)] w fun e w' => ∃ (c' : Int) (i' : Nat) (bad' : Bool), e = .returned (.int .u8 c') ∧ RD w' b T i' bad' ∧ RK w0 w w' b ∧
      ((bad' = true ∧ (bad = true ∨ T.data.toList.drop i = [])) ∨ (bad' = false ∧ bad = false ∧ ∃ c r, T.data.toList.drop i = c :: r ∧ T.data.toList.drop i' = r ∧ c' = (c.toNat : Int))) := by
  cases hd : T.data.toList.drop i with
  | nil =>
    have : T.size ≤ i := by rw [size_list]; exact List.drop_eq_nil_iff.1 hd
    refine (nx_end w0 w b T i bad hB hg hr this).mono ?_
    rintro e w' ⟨h1, h2, h3⟩
    exact ⟨0, i, true, h1, h2, h3, .inl ⟨rfl, .inr rfl⟩⟩
  | cons c r =>
    refine (nx_more w0 w b T i bad c r hB hg hr hd hl).mono ?_
    rintro e w' ⟨h1, h2, h3⟩
    refine ⟨_, i + 1, bad, h1, h2, h3, ?_⟩
    cases bad with
    | true => exact .inl ⟨rfl, .inl rfl⟩
    | false => exact .inr ⟨rfl, rfl, c, r, rfl, by rw [← List.drop_drop, hd]; rfl, rfl⟩
theorem is_gen (w0 w : World) (b : Nat) (T : ByteArray) (i : Nat) (bad : Bool) (x : UInt8) (xi : Int) (hxi : xi = (x.toNat : Int)) (hB : Below w0.heap.size w0 w) (hg : w0.heap.size ≤ b) (hr : RD w b T i bad) (hl : T.data.toList.length ≤ 1048576) :
    Calls Try.prog 66 #[.pointer (some ⟨b, 0, none⟩), .int .u8 xi] w fun e w' => ∃ (v : Value) (i' : Nat) (bad' : Bool), e = .returned v ∧ RD w' b T i' bad' ∧ RK w0 w w' b ∧
      ((bad' = true ∧ (bad = true ∨ ∀ r, ¬ T.data.toList.drop i = x :: r)) ∨ (bad' = false ∧ bad = false ∧ ∃ r, T.data.toList.drop i = x :: r ∧ T.data.toList.drop i' = r)) := by
  subst hxi
  cases hd : T.data.toList.drop i with
  | nil =>
    have : T.size ≤ i := by rw [size_list]; exact List.drop_eq_nil_iff.1 hd
    refine (is_end w0 w b T i bad _ hB hg hr this).mono ?_
    rintro e w' ⟨⟨v, h1⟩, h2, h3⟩
    exact ⟨v, i, true, h1, h2, h3, .inl ⟨rfl, .inr fun r h => by cases h⟩⟩
  | cons c r =>
    refine (is_more w0 w b T i bad c r x _ hB hg hr hd hl rfl).mono ?_
    rintro e w' ⟨⟨v, h1⟩, h2, h3⟩
    refine ⟨v, i + 1, _, h1, h2, h3, ?_⟩
    by_cases hc : c = x
    · subst hc
      cases bad with
      | true => exact .inl ⟨by simp, .inl rfl⟩
      | false => exact .inr ⟨by simp, rfl, r, rfl, by rw [← List.drop_drop, hd]; rfl⟩
    · exact .inl ⟨by simp [hc], .inr fun r h => hc (by injection h)⟩
theorem node_info : (Try.prog.info? 45).map (·.size) = some 3 := by kernel_rfl
theorem LB.keep {w w' : World} {b g : Nat} {a c : Int} {A : Option Addr} {m k : Nat} (h : LB w g a c A m k) (hk : KeepBut w w' b none) (hg : g ≠ b) : LB w' g a c A m k := hk.blk h hg (by simp)
theorem LB.new (w : World) (a c : Int) (A : Option Addr) (m k : Nat) : LB (w.alloc (.cells #[.int .u8 a, .int .u8 c, .slice A m k] 45)) w.heap.size a c A m k := blk_new w _
theorem RD.lt {W : World} {b : Nat} {T : ByteArray} {i : Nat} {bad : Bool} (h : RD W b T i bad) : b < W.heap.size := blk_lt h.1
theorem RD.alloc {W : World} {b : Nat} {T : ByteArray} {i : Nat} {bad : Bool} (h : RD W b T i bad) (o : Obj) : RD (W.alloc o) b T i bad := ⟨blk_alloc h.1 o, h.2⟩
theorem RK.refl {w0 w : World} {b : Nat} (h : Below w0.heap.size w0 w) : RK w0 w w b := ⟨h, KeepBut.refl _ _ _⟩
theorem RK.alloc {w0 w w' : World} {b : Nat} (h : RK w0 w w' b) (o : Obj) : RK w0 w (w'.alloc o) b := ⟨h.1.alloc h.1.size o, keep_alloc h.2 o⟩
theorem RK.trans {w0 w w' w'' : World} {b : Nat} (h : RK w0 w w' b) (h' : RK w0 w' w'' b) : RK w0 w w'' b := ⟨h'.1, h.2.trans h'.2 (.inl rfl)⟩
theorem nd_blk {W W' : World} {lo : Nat} (h : ∀ k, lo ≤ k → k < W.heap.size → W'.heap[k]? = W.heap[k]?) {t : Tm} {v : Value} (ht : NdAt W lo v t) : NdAt W' lo v t :=
  nd_keep (fun p u hp hc => (World.cell?_of_block (w := W) (h p.block hp (World.block_lt_of_cell? W _ hc))).trans hc) t v ht
theorem nd_kb {W W' : World} {lo b : Nat} (h : KeepBut W W' b none) (hb : b < lo) {t : Tm} {v : Value} (ht : NdAt W lo v t) : NdAt W' lo v t :=
  nd_blk (fun k h1 h2 => h.2 k h2 (by omega) (by simp)) ht
theorem nd_set {W : World} {lo g j : Nat} {u : Value} (hg : g < lo) {t : Tm} {v : Value} (ht : NdAt W lo v t) : NdAt (W.setCell ⟨g, j, none⟩ u) lo v t :=
  nd_blk (fun k h1 h2 => Below.heap_setCell W ⟨g, j, none⟩ u k (by show k ≠ g; omega)) ht
theorem nd_alloc {W : World} {lo : Nat} (o : Obj) {t : Tm} {v : Value} (ht : NdAt W lo v t) : NdAt (W.alloc o) lo v t :=
  nd_blk (fun k h1 h2 => Below.heap_alloc W o k h2) ht
theorem LB.put {W : World} {g : Nat} {a c : Int} {A : Option Addr} {m k : Nat} (h : LB W g a c A m k) (a' c' : Int) (A' : Option Addr) (m' k' : Nat) : LB (((W.setCell ⟨g, 0, none⟩ (.int .u8 a')).setCell ⟨g, 1, none⟩ (.int .u8 c')).setCell ⟨g, 2, none⟩ (.slice A' m' k')) g a' c' A' m' k' :=
  blk_put (blk_put (blk_put h 0 _ rfl) 1 _ rfl) 2 _ rfl
theorem RD.far {W : World} {b : Nat} {T : ByteArray} {i : Nat} {bad : Bool} (h : RD W b T i bad) {g j : Nat} {u : Value} (hg : b ≠ g) : RD (W.setCell ⟨g, j, none⟩ u) b T i bad := ⟨blk_far h.1 hg u, h.2⟩
theorem RK.far {w0 w w' : World} {b : Nat} (h : RK w0 w w' b) {g j : Nat} {u : Value} (h0 : w0.heap.size ≤ w.heap.size) (hg : w.heap.size ≤ g) : RK w0 w (w'.setCell ⟨g, j, none⟩ u) b := ⟨below_set h.1 (Nat.le_trans h0 hg), keep_far h.2 hg u⟩
theorem part_bad (w0 w : World) (b : Nat) (T : ByteArray) (n i : Nat) (hB : Below w0.heap.size w0 w) (hr : RD w b T i true) :
    Calls Try.prog 65 #[.pointer (some ⟨b, 0, none⟩)] w fun e w' => NDr n T i true b w0 w e w' := by
  have c2 : w.cell? ⟨b, 2, none⟩ = some (.bool true) := blk_cell hr.1 2
  have HR := Aside0.mk hr
  have HB := Aside0.mk hB
  have ca : (w.alloc (.cells #[.int .u8 0, .int .u8 0, .slice none 0 0] 45)).cell? ⟨b, 2, none⟩ = some (.bool true) := cell_alloc_keep _ _ _ _ c2
  clear hr hB c2
  go_enter Try.func65, Try.ntmps65
  go_wp2
  refine bodyPost_ret (results_single rfl (.cell w.heap.size 45 _ (0, 0) _ rfl (LB.new w 0 0 none 0 0) Try.underlying45 rfl node_info .nil)) rfl ?_
  exact ⟨0, 0, none, 0, 0, i, true, rfl, HR.out.alloc _, (RK.refl HB.out).alloc _, .inl ⟨rfl, .inl rfl⟩⟩
/-- node's contract at a bound. -/
def NIH (n : Nat) : Prop := ∀ (w0 w : World) (b : Nat) (T : ByteArray) (i : Nat), (T.data.toList.drop i).length ≤ n → T.data.toList.length ≤ 1048576 → Below w0.heap.size w0 w → w0.heap.size ≤ b → RD w b T i false →
  Calls Try.prog 46 #[.pointer (some ⟨b, 0, none⟩)] w fun e w' => NDr n T i false b w0 w e w'
theorem part_good (w0 w : World) (b : Nat) (T : ByteArray) (n i : Nat) (hn : (T.data.toList.drop i).length ≤ n) (hT : T.data.toList.length ≤ 1048576) (hB : Below w0.heap.size w0 w) (hg : w0.heap.size ≤ b) (hr : RD w b T i false) (ih : NIH n) :
    Calls Try.prog 65 #[.pointer (some ⟨b, 0, none⟩)] w fun e w' => NDr n T i false b w0 w e w' := by
  have c2 : w.cell? ⟨b, 2, none⟩ = some (.bool false) := blk_cell hr.1 2
  have HR := Aside0.mk hr
  have HB := Aside0.mk hB
  have HG := Aside0.mk hg
  have HN := Aside0.mk hn
  have HT := Aside0.mk hT
  have HI := Aside0.mk ih
  have HLT := Aside0.mk hr.lt
  have ca : (w.alloc (.cells #[.int .u8 0, .int .u8 0, .slice none 0 0] 45)).cell? ⟨b, 2, none⟩ = some (.bool false) := cell_alloc_keep _ _ _ _ c2
  clear hr hB hg c2 hn hT ih
  go_enter Try.func65, Try.ntmps65
  go_wp2_with fail
  refine (HI.out w0 _ b T i HN.out HT.out (HB.out.alloc HB.out.size _) HG.out (HR.out.alloc _)).mono ?_
  rintro e w1 ⟨a, c, A, m, k, i', bad', rfl, hr1, hk1, hp1⟩
  have hL : LB w1 w.heap.size 0 0 none 0 0 := (LB.new w 0 0 none 0 0).keep hk1.2 (by have := HLT.out; omega)
  have l0 := blk_cell hL 0
  have l1 := blk_cell hL 1
  have l2 := blk_cell hL 2
  have f0 := blk_frozen hL 0
  have f1 := blk_frozen hL 1
  have f2 := blk_frozen hL 2
  have HL := Aside0.mk hL
  have HR1 := Aside0.mk hr1
  have HK1 := Aside0.mk hk1
  have HP1 := Aside0.mk hp1
  clear hL hr1 hk1 hp1
  unfold ndV
  go_wp2
  have hbg : b ≠ w.heap.size := by have := HLT.out; omega
  refine bodyPost_ret (results_single rfl (.cell w.heap.size 45 _ (0, 0) _ rfl (HL.out.put a c A m k) Try.underlying45 rfl node_info .nil)) rfl ?_
  have hk : RK w0 w w1 b := ((RK.refl HB.out).alloc _).trans HK1.out
  refine ⟨a, c, A, m, k, i', bad', rfl, ((HR1.out.far hbg).far hbg).far hbg, ((hk.far HB.out.size (Nat.le_refl _)).far HB.out.size (Nat.le_refl _)).far HB.out.size (Nat.le_refl _), ?_⟩
  rcases HP1.out with h | ⟨h1, h2, t, h3, h4⟩
  · exact .inl h
  · have hlo : w.heap.size < (w.alloc (.cells #[.int .u8 0, .int .u8 0, .slice none 0 0] 45)).heap.size := by simp
    exact .inr ⟨h1, h2, t, h3, nd_lo (Nat.le_of_lt hlo) t _ (nd_set hlo (nd_set hlo (nd_set hlo h4)))⟩
theorem part_gen (w0 w : World) (b : Nat) (T : ByteArray) (n i : Nat) (bad : Bool) (hn : bad = false → (T.data.toList.drop i).length ≤ n) (hT : T.data.toList.length ≤ 1048576) (hB : Below w0.heap.size w0 w) (hg : w0.heap.size ≤ b) (hr : RD w b T i bad) (ih : NIH n) :
    Calls Try.prog 65 #[.pointer (some ⟨b, 0, none⟩)] w fun e w' => NDr n T i bad b w0 w e w' := by
  cases bad with
  | true => exact part_bad w0 w b T n i hB hr
  | false => exact part_good w0 w b T n i (hn rfl) hT hB hg hr ih
end Go.Proofs.YtpklhagedifglaaW.PrintMore
