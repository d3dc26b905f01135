/-
  Cut to what this claim uses.
-/
import Derived.Test.YtpklhagedifglaaQTermF
namespace Go.Proofs.YtpklhagedifglaaW.PrintMore
set_option linter.unusedVariables false
set_option linter.unusedSimpArgs false
open Go.Proofs Go.Deep
open Go.RowKit Go.Proofs.YtpklhagedifglaaW.PrintWords
/-- Is a byte between two numbers? -/
def inR (c : UInt8) (a b : Int) : Bool := decide (a ≤ (c.toNat : Int)) && decide ((c.toNat : Int) ≤ b)
theorem l1In_c (c : UInt8) (a b : Int) (w : World) : Calls Try.prog 63 #[.int .i64 (c.toNat : Int), .int .i64 a, .int .i64 b] w fun e w' => e = .returned (.bool (inR c a b)) ∧ w' = w := l1In_walk _ a b w
theorem l13Find_c (s : ByteArray) (c : UInt8) (x : Bool) (hs : s.size ≤ 1000) (hx : mem1 s.data.toList c = x) (w : World) : Calls Try.prog 64 #[.string s, .int .u8 (c.toNat : Int)] w fun e w' => (∃ y : Int, e = .returned (.int .i64 y) ∧ decide (0 ≤ y) = x) ∧ w' = w := hx ▸ l13Find_walk s c hs w
theorem l13Find_un (c : UInt8) (x : Bool) (hx : isUn c = x) (w : World) : Calls Try.prog 64 #[.string ⟨#[83, 77, 73, 78, 82, 67, 80]⟩, .int .u8 (c.toNat : Int)] w fun e w' => (∃ y : Int, e = .returned (.int .i64 y) ∧ decide (0 ≤ y) = x) ∧ w' = w := l13Find_c ⟨#[83, 77, 73, 78, 82, 67, 80]⟩ c x (by decide) hx w
theorem l13Find_bin (c : UInt8) (x : Bool) (hx : isBin c = x) (w : World) : Calls Try.prog 64 #[.string ⟨#[43, 42, 94, 45, 61, 60, 64]⟩, .int .u8 (c.toNat : Int)] w fun e w' => (∃ y : Int, e = .returned (.int .i64 y) ∧ decide (0 ≤ y) = x) ∧ w' = w := l13Find_c ⟨#[43, 42, 94, 45, 61, 60, 64]⟩ c x (by decide) hx w
theorem inR_dig (c : UInt8) : inR c 48 57 = isDig c := by
  unfold inR isDig
  simp only [UInt8.le_iff_toNat_le]
  congr 1 <;> simp <;> omega
theorem inR_bound (c : UInt8) : inR c 118 122 = isBound c := by
  unfold inR isBound
  simp only [UInt8.le_iff_toNat_le]
  congr 1 <;> simp <;> omega
theorem conv_u8 (c : UInt8) : IntKind.i64.wrap (c.toNat : Int) = (c.toNat : Int) := by have := c.toNat_lt; rw [IntKind.wrap_i64]; omega
theorem nd_ret {n : Nat} {T : ByteArray} {i b : Nat} {w0 w W : World} {i' : Nat} {bad' : Bool} (h0 : w0.heap.size ≤ w.heap.size) (hb : b < w.heap.size) (hk : RK w0 w W b) (hr : RD W b T i' bad') (a c : Int) (A : Option Addr) (m k : Nat)
    (hp : ∀ W' : World, (∀ q, q ≠ w.heap.size → W'.heap[q]? = W.heap[q]?) → PT n T i false w.heap.size W' (ndV a c A m k) i' bad') :
    NDr n T i false b w0 w (.returned (ndV a c A m k)) (((W.setCell ⟨w.heap.size, 0, none⟩ (.int .u8 a)).setCell ⟨w.heap.size, 1, none⟩ (.int .u8 c)).setCell ⟨w.heap.size, 2, none⟩ (.slice A m k)) := by
  have hbg : b ≠ w.heap.size := by omega
  refine ⟨a, c, A, m, k, i', bad', rfl, ((hr.far hbg).far hbg).far hbg, ((hk.far h0 (Nat.le_refl _)).far h0 (Nat.le_refl _)).far h0 (Nat.le_refl _), hp _ fun q hq => ?_⟩
  exact (Below.heap_setCell _ ⟨w.heap.size, 2, none⟩ _ q hq).trans ((Below.heap_setCell _ ⟨w.heap.size, 1, none⟩ _ q hq).trans (Below.heap_setCell _ ⟨w.heap.size, 0, none⟩ _ q hq))
theorem LB.alloc {W : World} {g : Nat} {a c : Int} {A : Option Addr} {m k : Nat} (h : LB W g a c A m k) (o : Obj) : LB (W.alloc o) g a c A m k := blk_alloc h o
set_option maxHeartbeats 4000000 in
set_option maxRecDepth 100000 in
theorem nd_dig (w0 w : World) (b : Nat) (T : ByteArray) (n i : Nat) (c : UInt8) (r : List UInt8) (hl : T.data.toList.drop i = c :: r) (hT : T.data.toList.length ≤ 1048576) (hB : Below w0.heap.size w0 w) (hg : w0.heap.size ≤ b) (hr : RD w b T i false) (hd : isDig c = true) :
    Calls Try.prog 46 #[.pointer (some ⟨b, 0, none⟩)] w fun e w' => NDr (n + 1) T i false b w0 w e w' := by
  have HP := Aside0.mk (show parse (n + 1) (c :: r) = some (.leaf c, r) from by simp [parse, hd])
  have HD := Aside0.mk hd
  have hd1 : inR c 48 57 = true := (inR_dig c).trans hd
  clear hd
  have HR := Aside0.mk hr
  have HB := Aside0.mk hB
  have HG := Aside0.mk hg
  have HT := Aside0.mk hT
  have HL := Aside0.mk hl
  have HLT := Aside0.mk hr.lt
  have hcv := conv_u8 c
  clear hr hB hg hT hl
  go_enter Try.func46, Try.ntmps46
  go_wp2_with fail
  refine (nx_more w0 _ b T i false c r (HB.out.alloc HB.out.size _) HG.out (HR.out.alloc _) HL.out HT.out).mono ?_
  rintro e w1 ⟨rfl, hr1, hk1⟩
  have hL : LB w1 w.heap.size 0 0 none 0 0 := (LB.new w 0 0 none 0 0).keep hk1.2 (by have := HLT.out; omega)
  have HV := Aside0.mk hL
  have HR1 := Aside0.mk hr1
  have HK1 := Aside0.mk (show RK w0 w w1 b from ((RK.refl HB.out).alloc _).trans hk1)
  have HS := Aside0.mk (show w.heap.size < w1.heap.size from blk_lt hL)
  have L0 : ∀ o, (w1.alloc o).cell? ⟨w.heap.size, 0, none⟩ = some (.int .u8 0) := fun o => blk_cell (blk_alloc hL o) 0
  have L1 : ∀ o, (w1.alloc o).cell? ⟨w.heap.size, 1, none⟩ = some (.int .u8 0) := fun o => blk_cell (blk_alloc hL o) 1
  have L2 : ∀ o, (w1.alloc o).cell? ⟨w.heap.size, 2, none⟩ = some (.slice none 0 0) := fun o => blk_cell (blk_alloc hL o) 2
  have F0 : ∀ o, (w1.alloc o).frozen? ⟨w.heap.size, 0, none⟩ = false := fun o => blk_frozen (blk_alloc hL o) 0
  have F1 : ∀ o, (w1.alloc o).frozen? ⟨w.heap.size, 1, none⟩ = false := fun o => blk_frozen (blk_alloc hL o) 1
  have F2 : ∀ o, (w1.alloc o).frozen? ⟨w.heap.size, 2, none⟩ = false := fun o => blk_frozen (blk_alloc hL o) 2
  clear hL hr1 hk1
  go_wp2_with (go_at_call 63; refine (l1In_c _ _ _ _).mono ?_; rintro e w' ⟨rfl, rfl⟩)
  refine bodyPost_ret (results_single rfl (.cell w.heap.size 45 _ (0, 0) _ rfl (LB.put (HV.out.alloc _) 48 (c.toNat : Int) _ 0 0) Try.underlying45 rfl node_info .nil)) rfl ?_
  refine nd_ret HB.out.size HLT.out (HK1.out.alloc _) (HR1.out.alloc _) 48 _ _ 0 0 fun W' hW => .inr ⟨rfl, rfl, .leaf c, ?_, ?_⟩
  · rw [HL.out, HP.out, ← List.drop_drop, HL.out]; rfl
  · exact ⟨_, _, by rw [if_pos HD.out]; rfl⟩
set_option maxHeartbeats 4000000 in
set_option maxRecDepth 100000 in
theorem nd_var (w0 w : World) (b : Nat) (T : ByteArray) (n i : Nat) (c : UInt8) (r : List UInt8) (hl : T.data.toList.drop i = c :: r) (hT : T.data.toList.length ≤ 1048576) (hB : Below w0.heap.size w0 w) (hg : w0.heap.size ≤ b) (hr : RD w b T i false) (hd : isDig c = false) (hv : isVar c = true) :
    Calls Try.prog 46 #[.pointer (some ⟨b, 0, none⟩)] w fun e w' => NDr (n + 1) T i false b w0 w e w' := by
  have HP := Aside0.mk (show parse (n + 1) (c :: r) = some (.leaf c, r) from by simp [parse, hv])
  have HD := Aside0.mk hd
  have hd1 : inR c 48 57 = false := (inR_dig c).trans hd
  have hv1 : ((c.toNat : Int) == 97) = true ∨ (((c.toNat : Int) == 97) = false ∧ ((c.toNat : Int) == 98) = true) ∨ (((c.toNat : Int) == 97) = false ∧ ((c.toNat : Int) == 98) = false ∧ inR c 118 122 = true) := by
    simp only [isVar, List.contains_iff_mem, List.mem_cons, List.not_mem_nil, or_false] at hv
    rcases hv with rfl | rfl | rfl | rfl | rfl | rfl | rfl <;> decide
  clear hd hv
  have HR := Aside0.mk hr
  have HB := Aside0.mk hB
  have HG := Aside0.mk hg
  have HT := Aside0.mk hT
  have HL := Aside0.mk hl
  have HLT := Aside0.mk hr.lt
  have hcv := conv_u8 c
  clear hr hB hg hT hl
  go_enter Try.func46, Try.ntmps46
  go_wp2_with fail
  refine (nx_more w0 _ b T i false c r (HB.out.alloc HB.out.size _) HG.out (HR.out.alloc _) HL.out HT.out).mono ?_
  rintro e w1 ⟨rfl, hr1, hk1⟩
  have hL : LB w1 w.heap.size 0 0 none 0 0 := (LB.new w 0 0 none 0 0).keep hk1.2 (by have := HLT.out; omega)
  have HV := Aside0.mk hL
  have HR1 := Aside0.mk hr1
  have HK1 := Aside0.mk (show RK w0 w w1 b from ((RK.refl HB.out).alloc _).trans hk1)
  have HS := Aside0.mk (show w.heap.size < w1.heap.size from blk_lt hL)
  have L0 : ∀ o, (w1.alloc o).cell? ⟨w.heap.size, 0, none⟩ = some (.int .u8 0) := fun o => blk_cell (blk_alloc hL o) 0
  have L1 : ∀ o, (w1.alloc o).cell? ⟨w.heap.size, 1, none⟩ = some (.int .u8 0) := fun o => blk_cell (blk_alloc hL o) 1
  have L2 : ∀ o, (w1.alloc o).cell? ⟨w.heap.size, 2, none⟩ = some (.slice none 0 0) := fun o => blk_cell (blk_alloc hL o) 2
  have F0 : ∀ o, (w1.alloc o).frozen? ⟨w.heap.size, 0, none⟩ = false := fun o => blk_frozen (blk_alloc hL o) 0
  have F1 : ∀ o, (w1.alloc o).frozen? ⟨w.heap.size, 1, none⟩ = false := fun o => blk_frozen (blk_alloc hL o) 1
  have F2 : ∀ o, (w1.alloc o).frozen? ⟨w.heap.size, 2, none⟩ = false := fun o => blk_frozen (blk_alloc hL o) 2
  clear hL hr1 hk1
  rcases hv1 with hv1 | ⟨hv1, hv2⟩ | ⟨hv1, hv2, hv3⟩
  all_goals
    go_wp2_with (go_at_call 63; refine (l1In_c _ _ _ _).mono ?_; rintro e w' ⟨rfl, rfl⟩)
    refine bodyPost_ret (results_single rfl (.cell w.heap.size 45 _ (0, 0) _ rfl (LB.put (HV.out.alloc _) 97 (c.toNat : Int) _ 0 0) Try.underlying45 rfl node_info .nil)) rfl ?_
    refine nd_ret HB.out.size HLT.out (HK1.out.alloc _) (HR1.out.alloc _) 97 _ _ 0 0 fun W' hW => .inr ⟨rfl, rfl, .leaf c, ?_, ?_⟩
    · rw [HL.out, HP.out, ← List.drop_drop, HL.out]; rfl
    · exact ⟨_, _, by rw [if_neg (by rw [HD.out]; decide)]; rfl⟩
set_option maxHeartbeats 4000000 in
set_option maxRecDepth 100000 in
theorem nd_un (w0 w : World) (b : Nat) (T : ByteArray) (n i : Nat) (c : UInt8) (r : List UInt8) (hl : T.data.toList.drop i = c :: r) (hT : T.data.toList.length ≤ 1048576) (hB : Below w0.heap.size w0 w) (hg : w0.heap.size ≤ b) (hr : RD w b T i false) (hd : isDig c = false) (hv : isVar c = false) (hu : isUn c = true) (hn : r.length ≤ n) (ih : NIH n) :
    Calls Try.prog 46 #[.pointer (some ⟨b, 0, none⟩)] w fun e w' => NDr (n + 1) T i false b w0 w e w' := by
  have HD := Aside0.mk (And.intro hd (And.intro hv hu))
  have HN := Aside0.mk hn
  have HI := Aside0.mk ih
  have hd1 : inR c 48 57 = false := (inR_dig c).trans hd
  have hv1 : ((c.toNat : Int) == 97) = false := by simp; intro h; have : c = 97 := by apply UInt8.toNat_inj.1; exact_mod_cast h
                                                   subst this; exact absurd hv (by decide)
  have hv2 : ((c.toNat : Int) == 98) = false := by simp; intro h; have : c = 98 := by apply UInt8.toNat_inj.1; exact_mod_cast h
                                                   subst this; exact absurd hv (by decide)
  have hv3 : inR c 118 122 = false := by
    rw [inR_bound]; simp only [isUn, mem1, List.contains_iff_mem, List.mem_cons, List.not_mem_nil, or_false] at hu
    rcases hu with rfl | rfl | rfl | rfl | rfl | rfl | rfl <;> decide
  have HU := Aside0.mk hu
  clear hd hv hu hn ih
  have HR := Aside0.mk hr
  have HB := Aside0.mk hB
  have HG := Aside0.mk hg
  have HT := Aside0.mk hT
  have HL := Aside0.mk hl
  have HLT := Aside0.mk hr.lt
  have hcv := conv_u8 c
  clear hr hB hg hT hl
  go_enter Try.func46, Try.ntmps46
  go_wp2_with fail
  refine (nx_more w0 _ b T i false c r (HB.out.alloc HB.out.size _) HG.out (HR.out.alloc _) HL.out HT.out).mono ?_
  rintro e w1 ⟨rfl, hr1, hk1⟩
  have hL : LB w1 w.heap.size 0 0 none 0 0 := (LB.new w 0 0 none 0 0).keep hk1.2 (by have := HLT.out; omega)
  have HV := Aside0.mk hL
  have HR1 := Aside0.mk hr1
  have HK1 := Aside0.mk (show RK w0 w w1 b from ((RK.refl HB.out).alloc _).trans hk1)
  have HS := Aside0.mk (show w.heap.size < w1.heap.size from blk_lt hL)
  clear hL hr1 hk1
  go_wp2_with (first | (go_at_call 63; refine (l1In_c _ _ _ _).mono ?_; rintro e w' ⟨rfl, rfl⟩) | (go_at_call 64; refine (l13Find_un c true HU.out _).mono ?_; rintro e w' ⟨⟨y, rfl, hy⟩, rfl⟩))
  have HD1 := Aside0.mk (show T.data.toList.drop (i + 1) = r from by rw [← List.drop_drop, HL.out]; rfl)
  refine (part_gen w0 _ b T n (i + 1) false (fun _ => by rw [HD1.out]; exact HN.out) HT.out HK1.out.1 HG.out HR1.out HI.out).mono ?_
  rintro e w2 ⟨a2, c2, A2, m2, k2, i2, bad2, rfl, hr2, hk2, hp2⟩
  have hL := HV.out.keep hk2.2 (by have := HLT.out; omega)
  have HV2 := Aside0.mk hL
  have HR2 := Aside0.mk hr2
  have HK2 := Aside0.mk (HK1.out.trans hk2)
  have HS2 := Aside0.mk (show w.heap.size < w2.heap.size from blk_lt hL)
  have HP2 := Aside0.mk hp2
  have L0 : ∀ o, (w2.alloc o).cell? ⟨w.heap.size, 0, none⟩ = some (.int .u8 0) := fun o => blk_cell (blk_alloc hL o) 0
  have L1 : ∀ o, (w2.alloc o).cell? ⟨w.heap.size, 1, none⟩ = some (.int .u8 0) := fun o => blk_cell (blk_alloc hL o) 1
  have L2 : ∀ o, (w2.alloc o).cell? ⟨w.heap.size, 2, none⟩ = some (.slice none 0 0) := fun o => blk_cell (blk_alloc hL o) 2
  have F0 : ∀ o, (w2.alloc o).frozen? ⟨w.heap.size, 0, none⟩ = false := fun o => blk_frozen (blk_alloc hL o) 0
  have F1 : ∀ o, (w2.alloc o).frozen? ⟨w.heap.size, 1, none⟩ = false := fun o => blk_frozen (blk_alloc hL o) 1
  have F2 : ∀ o, (w2.alloc o).frozen? ⟨w.heap.size, 2, none⟩ = false := fun o => blk_frozen (blk_alloc hL o) 2
  clear hL hr2 hk2 hp2
  unfold ndV
  go_wp2
  refine bodyPost_ret (results_single rfl (.cell w.heap.size 45 _ (0, 0) _ rfl (LB.put (HV2.out.alloc _) (c.toNat : Int) 0 _ 1 1) Try.underlying45 rfl node_info .nil)) rfl ?_
  refine nd_ret HB.out.size HLT.out (HK2.out.alloc _) (HR2.out.alloc _) (c.toNat : Int) 0 _ 1 1 fun W' hW => ?_
  rcases HP2.out with ⟨h1, h2⟩ | ⟨h1, _, t, h3, h4⟩
  · refine .inl ⟨h1, .inr ?_⟩
    rcases h2 with h2 | h2
    · cases h2
    · rw [HD1.out] at h2; rw [HL.out]; simp [parse, HD.out.1, HD.out.2.1, HD.out.2.2, h2]
  · rw [HD1.out] at h3
    refine .inr ⟨h1, rfl, .un c t, by rw [HL.out]; simp [parse, HD.out.1, HD.out.2.1, HD.out.2.2, h3], w2.heap.size, 1, .int .u8 a2, .int .u8 c2, .slice A2 m2 k2, Nat.le_of_lt HS2.out, rfl, Nat.le_refl _, ?_, ?_, ?_, ?_⟩
    · exact (World.cell?_of_block (w := w2.alloc _) (hW w2.heap.size (by have := HS2.out; omega))).trans (World.cell?_alloc_new _ _ _ _)
    · exact (World.cell?_of_block (w := w2.alloc _) (hW w2.heap.size (by have := HS2.out; omega))).trans (World.cell?_alloc_new _ _ _ _)
    · exact (World.cell?_of_block (w := w2.alloc _) (hW w2.heap.size (by have := HS2.out; omega))).trans (World.cell?_alloc_new _ _ _ _)
    · exact nd_lo (Nat.le_of_lt HS.out) t _ (nd_blk (fun k h1 h2 => (hW k (by have := HS.out; omega)).trans (Below.heap_alloc w2 _ k h2)) h4)
end Go.Proofs.YtpklhagedifglaaW.PrintMore
