/-
  Cut to what this claim uses.
-/
import Derived.Test.YtpklhagedifglaaQVq1
import Derived.Test.YtpklhagedifglaaQVq2
import Derived.Test.YtpklhagedifglaaQVq3
namespace Go.Proofs.Ytpklhagedifglaa.Vq
open Go.RowKit Go.Proofs.YtpklhagedifglaaW.PrintWords Go.Proofs.YtpklhagedifglaaW.PrintLast Go.Proofs.YtpklhagedifglaaW.PrintMore
set_option linter.unusedVariables false
set_option linter.unusedSimpArgs false
theorem w64 {x : Int} (h0 : -9223372036854775808 ≤ x) (h1 : x ≤ 9223372036854775807) : wrap64 x = x := by unfold wrap64; omega
theorem rd_nat (l : List Int) (i : Nat) : rd l (i : Int) = l.getD i 0 := by simp [rd]
theorem getD_mem {l : List Int} {i : Nat} (h : i < l.length) : l.getD i 0 ∈ l := by
  rw [List.getD_eq_getElem?_getD, List.getElem?_eq_getElem h]; exact List.getElem_mem h
theorem rd_mem {l : List Int} {i : Int} (h0 : 0 ≤ i) (h : i < (l.length : Int)) : rd l i ∈ l := by
  obtain ⟨n, rfl⟩ := Int.eq_ofNat_of_zero_le h0
  rw [rd_nat]; exact getD_mem (by omega)
/-- All numbers lie from 0 to m. -/
def okb (m : Int) (l : List Int) : Bool := l.all fun n => decide (0 ≤ n) && decide (n ≤ m)
theorem okb_iff {m : Int} {l : List Int} : okb m l = true ↔ ∀ n ∈ l, 0 ≤ n ∧ n ≤ m := by
  simp [okb, List.all_eq_true]
theorem okb_take {m : Int} {l : List Int} (h : okb m l = true) (i : Nat) : okb m (l.take i) = true := by
  rw [okb_iff] at h ⊢; exact fun n hn => h n (List.mem_of_mem_take hn)
theorem ofInt_toNat64 (a : Nat) (ha : a < 18446744073709551616) : (BitVec.ofInt 64 (a : Int)).toNat = a := by
  rw [BitVec.ofInt_natCast, BitVec.toNat_ofNat]; exact Nat.mod_eq_of_lt (by omega)
theorem xor_i64 (a b : Nat) (ha : a < 4611686018427387904) (hb : b < 4611686018427387904) : Go.bits .xor .i64 (a : Int) (b : Int) = ((a ^^^ b : Nat) : Int) := by
  have hx : a ^^^ b < 2 ^ 62 := Nat.xor_lt_two_pow (by omega) (by omega)
  show IntKind.i64.wrap ((BitVec.ofInt 64 (a : Int) ^^^ BitVec.ofInt 64 (b : Int)).toNat : Int) = _
  rw [BitVec.toNat_xor, ofInt_toNat64 a (by omega), ofInt_toNat64 b (by omega)]
  simp [IntKind.wrap, IntKind.bits, IntKind.signed]
  omega
theorem xor_nonneg (a b : Int) (h0 : 0 ≤ a) (h1 : a < 4611686018427387904) (h2 : 0 ≤ b) (h3 : b < 4611686018427387904) : 0 ≤ Go.bits .xor .i64 a b := by
  obtain ⟨n, rfl⟩ := Int.eq_ofNat_of_zero_le h0
  obtain ⟨m, rfl⟩ := Int.eq_ofNat_of_zero_le h2
  rw [xor_i64 n m (by omega) (by omega)]; omega
theorem tmod_pos (a b : Int) (h : 0 ≤ a) : Int.tmod a b = a % b := Int.tmod_eq_emod_of_nonneg h
theorem tdiv_pos (a b : Int) (h : 0 ≤ a) : Int.tdiv a b = a / b := Int.tdiv_eq_ediv_of_nonneg h
theorem rd_range {m : Int} {l : List Int} (h : okb m l = true) (i : Int) (h0 : 0 ≤ i) (h1 : i < (l.length : Int)) : 0 ≤ rd l i ∧ rd l i ≤ m := okb_iff.1 h _ (rd_mem h0 h1)
/-- A source of drawn numbers: bytes, and how many have been drawn. -/
def Src (b : List Int) (p : Int) (m : Int) : Prop := okb 255 b = true ∧ b.length ≤ 2000 ∧ 0 ≤ p ∧ p ≤ m ∧ m ≤ 1000000000
theorem Src.mono {b : List Int} {p m m' : Int} (h : Src b p m) (h1 : m ≤ m') (h2 : m' ≤ 1000000000) : Src b p m' := ⟨h.1, h.2.1, h.2.2.1, by have := h.2.2.2.1; omega, h2⟩
theorem pick_any (k : Nat) (b : List Int) (p m n : Int) (hk : 1 ≤ k) (h : Src b p m) (hm : m + 1 ≤ 1000000000) :
    ∃ v, spec_l13Rd_pick.f k b p n = some (v, p + 1) ∧ 0 ≤ v ∧ (1 ≤ n → v < n) ∧ Src b (p + 1) (m + 1) := by
  obtain ⟨h1, h2, h3, h4, h5⟩ := h
  obtain ⟨k, rfl⟩ : ∃ j, k = j + 1 := ⟨k - 1, by omega⟩
  have hS : Src b (p + 1) (m + 1) := ⟨h1, h2, by omega, by omega, hm⟩
  unfold spec_l13Rd_pick.f
  have e0 : wrap64 (p + 1) = p + 1 := w64 (by omega) (by omega)
  have e1 : wrap64 (p + 1 - 1) = p := by rw [w64 (by omega) (by omega)]; omega
  by_cases hn : n < 1
  · rw [if_pos hn, e0, spec_l13Rd_pick.j0, if_pos rfl]
    exact ⟨0, rfl, by omega, fun h => by omega, hS⟩
  rw [if_neg hn, e0, spec_l13Rd_pick.j0]
  by_cases hb : b = []
  · rw [if_pos (by rw [hb]; rfl)]
    exact ⟨0, rfl, by omega, fun h => by omega, hS⟩
  have hbl : 0 < b.length := List.length_pos_iff.2 hb
  rw [if_neg (by simp [hb]), e1]
  have fin : ∀ x : Int, 0 ≤ x → ∃ v, (some (Int.tmod x n, p + 1) : Option (Int × Int)) = some (v, p + 1) ∧ 0 ≤ v ∧ (1 ≤ n → v < n) ∧ Src b (p + 1) (m + 1) := fun x hx =>
    ⟨Int.tmod x n, rfl, by rw [tmod_pos _ _ hx]; exact Int.emod_nonneg _ (by omega), fun _ => by rw [tmod_pos _ _ hx]; exact Int.emod_lt_of_pos _ (by omega), hS⟩
  by_cases hp : p < (b.length : Int)
  · have hr := rd_range h1 p h3 hp
    rw [if_pos hp, if_pos h3, if_neg (by omega), w64 (x := rd b p) (by omega) (by omega)]
    exact fin _ hr.1
  rw [if_neg hp, if_neg (by omega)]
  have q1 : Int.tmod p (b.length : Int) = p % (b.length : Int) := tmod_pos _ _ h3
  have a1 := Int.emod_nonneg p (b := (b.length : Int)) (by omega)
  have a2 := Int.emod_lt_of_pos p (b := (b.length : Int)) (by omega)
  have w7 : wrap64 (wrap64 (p * 7) + 3) = p * 7 + 3 := by rw [w64 (x := p * 7) (by omega) (by omega), w64 (by omega) (by omega)]
  rw [q1, w7]
  have q2 : Int.tmod (p * 7 + 3) (b.length : Int) = (p * 7 + 3) % (b.length : Int) := tmod_pos _ _ (by omega)
  have b1 := Int.emod_nonneg (p * 7 + 3) (b := (b.length : Int)) (by omega)
  have b2 := Int.emod_lt_of_pos (p * 7 + 3) (b := (b.length : Int)) (by omega)
  rw [q2, if_pos a1, if_pos a2, if_pos b1, if_pos b2, if_neg (by omega)]
  have r1 := rd_range h1 _ a1 a2
  have r2 := rd_range h1 _ b1 b2
  have q3 : Int.tdiv p (b.length : Int) = p / (b.length : Int) := tdiv_pos _ _ h3
  have d1 : 0 ≤ p / (b.length : Int) := Int.ediv_nonneg h3 (by omega)
  have d2 : p / (b.length : Int) ≤ p := Int.ediv_le_self _ h3
  generalize rd b (p % (b.length : Int)) = x1 at r1 ⊢
  generalize rd b ((p * 7 + 3) % (b.length : Int)) = x2 at r2 ⊢
  rw [q3]
  generalize p / (b.length : Int) = x3 at d1 d2 ⊢
  rw [w64 (x := x1) (by omega) (by omega), w64 (x := x2) (by omega) (by omega), w64 (x := x3) (by omega) (by omega), w64 (x := x1 * 131) (by omega) (by omega), w64 (x := x2 * 1117) (by omega) (by omega), w64 (x := p * 29) (by omega) (by omega), w64 (x := x3 * 53) (by omega) (by omega),
    w64 (x := x1 * 131 + x2 * 1117) (by omega) (by omega), w64 (x := x1 * 131 + x2 * 1117 + p * 29) (by omega) (by omega), w64 (x := x1 * 131 + x2 * 1117 + p * 29 + x3 * 53) (by omega) (by omega)]
  have z0 : 0 ≤ x1 * 131 + x2 * 1117 + p * 29 + x3 * 53 := by omega
  have z1 : x1 * 131 + x2 * 1117 + p * 29 + x3 * 53 < 4611686018427387904 := by omega
  generalize x1 * 131 + x2 * 1117 + p * 29 + x3 * 53 = z at z0 z1 ⊢
  rw [tdiv_pos _ _ z0, w64 (x := z / 64) (by omega) (by omega)]
  exact fin _ (xor_nonneg _ _ z0 z1 (by omega) (by omega))
theorem open_any (c : List Int) (h : okb 255 c = true) (hl : c.length ≤ 1048576) : ∃ b, spec_l13Open.f c = some (b, 0) ∧ Src b 0 0 := by
  unfold spec_l13Open.f
  by_cases h1 : (c.length : Int) > 2000
  · rw [if_pos h1, if_pos (by omega)]
    exact ⟨_, rfl, okb_take h _, by simp; omega, by omega, by omega, by omega⟩
  · rw [if_neg h1]
    exact ⟨_, rfl, h, by omega, by omega, by omega, by omega⟩
theorem wf_u8 {l : List Int} (h : ∀ x ∈ l, (Lit.int .u8 x).wf = true) : okb 255 l = true := by
  rw [okb_iff]; intro n hn
  have := h n hn
  simp [Lit.wf, IntKind.min, IntKind.max, IntKind.signed, IntKind.bits] at this
  omega
/-- A drawing that returns a text. -/
def Dr (L : Nat) (b : List Int) (B : Nat) (M : Int) (e : Option (ByteArray × Int)) : Prop := ∃ r p', e = some (r, p') ∧ r.size ≤ B ∧ L ≤ r.size ∧ Src b p' M
theorem Dr.some_ {L : Nat} {b : List Int} {B : Nat} {M m : Int} {r : ByteArray} {p : Int} (h : r.size ≤ B) (h1 : L ≤ r.size) (hS : Src b p m) (hm : m ≤ M) (hM : M ≤ 1000000000) : Dr L b B M (some (r, p)) := ⟨r, p, rfl, h, h1, hS.mono hm hM⟩
theorem Dr.chk {L : Nat} {b : List Int} {B : Nat} {M : Int} {c : Prop} [Decidable c] {e : Option (ByteArray × Int)} (hc : c) (h : Dr L b B M e) : Dr L b B M (if c then e else none) := by rw [if_pos hc]; exact h
theorem Dr.ite_ {L : Nat} {b : List Int} {B : Nat} {M : Int} {c : Prop} [Decidable c] {e e' : Option (ByteArray × Int)} (h : c → Dr L b B M e) (h' : ¬ c → Dr L b B M e') : Dr L b B M (if c then e else e') := by
  split
  · exact h ‹_›
  · exact h' ‹_›
theorem Dr.pick {L : Nat} {b : List Int} {B : Nat} {M : Int} {k : Nat} {p m n : Int} {F : Int × Int → Option (ByteArray × Int)} (hk : 1 ≤ k) (hS : Src b p m) (hm : m + 1 ≤ 1000000000) (h : ∀ v q, 0 ≤ v → (1 ≤ n → v < n) → Src b q (m + 1) → Dr L b B M (F (v, q))) : Dr L b B M ((spec_l13Rd_pick.f k b p n).bind F) := by
  obtain ⟨v, e, h0, h1, h2⟩ := pick_any k b p m n hk hS hm
  rw [e]; exact h v (p + 1) h0 h1 h2
theorem of_any (k : Nat) (b : List Int) (p m : Int) (l : List ByteArray) (S : Nat) (hk : 1 ≤ k) (hS : Src b p m) (hm : m + 1 ≤ 1000000000) (hl : l ≠ []) (hz : ∀ x ∈ l, x.size ≤ S) : ∃ s q, spec_l13Rd_of.f k b p l = some (s, q) ∧ s.size ≤ S ∧ Src b q (m + 1) := by
  obtain ⟨v, e, h0, h1, h2⟩ := pick_any k b p m l.length hk hS hm
  have hll : 0 < l.length := List.length_pos_iff.2 hl
  have h1 := h1 (by omega)
  unfold spec_l13Rd_of.f
  rw [e]
  simp only [Option.bind_some]
  rw [if_pos h0, if_pos h1]
  refine ⟨_, _, rfl, hz _ ?_, h2⟩
  unfold rdOf
  rw [List.getD_eq_getElem?_getD, List.getElem?_eq_getElem (by omega : v.toNat < l.length)]
  exact List.getElem_mem _
theorem Dr.of {L : Nat} {b : List Int} {B : Nat} {M : Int} {k : Nat} {p m : Int} {l : List ByteArray} {F : ByteArray × Int → Option (ByteArray × Int)} (S : Nat) (hk : 1 ≤ k) (hS : Src b p m) (hm : m + 1 ≤ 1000000000) (hl : l ≠ []) (hz : ∀ x ∈ l, x.size ≤ S) (h : ∀ s q, s.size ≤ S → Src b q (m + 1) → Dr L b B M (F (s, q))) : Dr L b B M ((spec_l13Rd_of.f k b p l).bind F) := by
  obtain ⟨s, q, e, h1, h2⟩ := of_any k b p m l S hk hS hm hl hz
  rw [e]; exact h s q h1 h2
def DrawOk (d : Nat) : Prop := ∀ (k : Nat) (a2 : Int) (b : List Int) (p m dep : Int) (z o : ByteArray), a2 ≤ d → -100 ≤ a2 → d + 100 ≤ k → z.size + d ≤ 30 → o.size + d ≤ 30 → Src b p m → m + (10 * ((2 ^ d : Nat) : Int) - 2) ≤ 99990000 → Dr 1 b (26 * 2 ^ d - 6) (m + (10 * ((2 ^ d : Nat) : Int) - 2)) (spec_l5Draw.f k b p dep a2 z o)
theorem Dr.draw {L : Nat} {b : List Int} {B : Nat} {M : Int} {d k : Nat} {a2 p m dep : Int} {z o : ByteArray} {F : ByteArray × Int → Option (ByteArray × Int)} (ih : DrawOk d) (h1 : a2 ≤ d) (h2 : -100 ≤ a2) (h3 : d + 100 ≤ k) (h4 : z.size + d ≤ 30) (h5 : o.size + d ≤ 30) (hS : Src b p m) (hm : m + (10 * ((2 ^ d : Nat) : Int) - 2) ≤ 99990000)
    (h : ∀ s q, s.size ≤ 26 * 2 ^ d - 6 → 1 ≤ s.size → Src b q (m + (10 * ((2 ^ d : Nat) : Int) - 2)) → Dr L b B M (F (s, q))) : Dr L b B M ((spec_l5Draw.f k b p dep a2 z o).bind F) := by
  obtain ⟨s, q, e, e1, e2, e3⟩ := ih k a2 b p m dep z o h1 h2 h3 h4 h5 hS hm
  rw [e]; exact h s q e1 e2 e3
theorem unbind_l0 (x v : ByteArray) (hx : x.size ≤ 1000) : ∀ (d i k : Nat) (s : ByteArray), d = x.size - i → i ≤ x.size → d < k → s.size ≤ i → ∃ r, spec_l5Unbind.l0 k x v s x.size i = some r ∧ r.size ≤ x.size := by
  intro d
  induction d with
  | zero =>
    intro i k s hd hi hk hs
    obtain ⟨k, rfl⟩ : ∃ j, k = j + 1 := ⟨k - 1, by omega⟩
    rw [spec_l5Unbind.l0, if_neg (by omega)]
    exact ⟨s, rfl, by omega⟩
  | succ d ih =>
    intro i k s hd hi hk hs
    obtain ⟨k, rfl⟩ : ∃ j, k = j + 1 := ⟨k - 1, by omega⟩
    have e : wrap64 ((i : Int) + 1) = ((i + 1 : Nat) : Int) := by unfold wrap64; omega
    rw [spec_l5Unbind.l0, if_pos (by omega), if_pos (by omega), e, if_pos (by omega), if_pos (by omega)]
    have hz : (x.extract (i : Int).toNat ((i + 1 : Nat) : Int).toNat).size ≤ 1 := by rw [ByteArray.size_extract]; omega
    split
    · exact ih (i + 1) k s (by omega) (by omega) (by omega) (by omega)
    · rw [if_pos (by omega)]
      exact ih (i + 1) k _ (by omega) (by omega) (by omega) (by rw [ByteArray.size_append]; omega)
theorem unbind_any (k : Nat) (x v : ByteArray) (hx : x.size ≤ 1000) (hk : x.size < k) : ∃ r, spec_l5Unbind.f k x v = some r ∧ r.size ≤ x.size := by
  have := unbind_l0 x v hx x.size 0 k ⟨#[]⟩ (by omega) (by omega) hk (by decide)
  exact this
theorem bind_any (k : Nat) (x v : ByteArray) (hx : x.size ≤ 1000) (hv : v.size ≤ 1) (hk : x.size < k) : ∃ r, spec_l5Bind.f k x v = some r ∧ r.size ≤ x.size + 1 := by
  obtain ⟨r, e, h⟩ := unbind_any k x v hx hk
  unfold spec_l5Bind.f
  rw [e]; simp only [Option.bind_some]
  rw [if_pos (by omega)]
  exact ⟨_, rfl, by rw [ByteArray.size_append]; omega⟩
theorem Dr.unbind_ {L : Nat} {b : List Int} {B : Nat} {M : Int} {k : Nat} {x v : ByteArray} {F : ByteArray → Option (ByteArray × Int)} (hx : x.size ≤ 30) (hk : 100 ≤ k) (h : ∀ s, s.size ≤ x.size → Dr L b B M (F s)) : Dr L b B M ((spec_l5Unbind.f k x v).bind F) := by
  obtain ⟨r, e, e1⟩ := unbind_any k x v (by omega) (by omega)
  rw [e]; exact h r e1
theorem Dr.bind_ {L : Nat} {b : List Int} {B : Nat} {M : Int} {k : Nat} {x v : ByteArray} {F : ByteArray → Option (ByteArray × Int)} (hx : x.size ≤ 30) (hv : v.size ≤ 1) (hk : 100 ≤ k) (h : ∀ s, s.size ≤ x.size + 1 → Dr L b B M (F s)) : Dr L b B M ((spec_l5Bind.f k x v).bind F) := by
  obtain ⟨r, e, e1⟩ := bind_any k x v (by omega) hv (by omega)
  rw [e]; exact h r e1
theorem dec_any (k : Nat) (v : Int) (hk : 3 ≤ k) (h0 : 0 ≤ v) (h1 : v < 5) : ∃ r, spec_l13Dec.f k v = some r ∧ r.size = 1 := by
  obtain ⟨k, rfl⟩ : ∃ j, k = j + 2 := ⟨k - 2, by omega⟩
  rw [spec_l13Dec.f, if_neg (by omega), if_neg (by omega), spec_l13Dec.l0, if_neg (by omega)]
  simp only [Option.bind_some]
  have hz : (strOfNums [(wrap64 (48 + v)) % 256]).size = 1 := by rfl
  rw [if_pos (by rw [hz]; decide)]
  exact ⟨_, rfl, by rw [ByteArray.size_append, hz]; decide⟩
theorem Dr.dec {L : Nat} {b : List Int} {B : Nat} {M : Int} {k : Nat} {v : Int} {F : ByteArray → Option (ByteArray × Int)} (hk : 3 ≤ k) (h0 : 0 ≤ v) (h1 : v < 5) (h : ∀ s, s.size = 1 → Dr L b B M (F s)) : Dr L b B M ((spec_l13Dec.f k v).bind F) := by
  obtain ⟨r, e, e1⟩ := dec_any k v hk h0 h1
  rw [e]; exact h r e1
theorem draw_j1 (k : Nat) (b : List Int) (p m dep : Int) (o : ByteArray) (f : Bool) (hk : 10 ≤ k) (ho : o.size ≤ 30) (hS : Src b p m) (hm : m + 8 ≤ 100000000) (hf : f = true → 0 < o.size) : Dr 1 b 20 (m + 4) (spec_l5Draw.j1 k dep o f b p) := by
  obtain ⟨k, rfl⟩ : ∃ j, k = j + 1 := ⟨k - 1, by omega⟩
  rw [spec_l5Draw.j1]
  refine Dr.ite_ (fun h => ?_) (fun h => ?_)
  · have := hf h
    refine Dr.pick (by omega) hS (by omega) fun v q h0 h1 hq => ?_
    have := h1 (by omega)
    have e : wrap64 (v + 1) = v + 1 := by unfold wrap64; omega
    simp only [e]
    refine Dr.chk h0 (Dr.chk (by omega) (Dr.chk (by omega) (Dr.some_ (by rw [ByteArray.size_extract]; omega) (by rw [ByteArray.size_extract]; omega) hq (by omega) (by omega))))
  · refine Dr.ite_ (fun h => Dr.some_ (by decide) (by decide) hS (by omega) (by omega)) (fun h => Dr.some_ (by decide) (by decide) hS (by omega) (by omega))
theorem draw_j0 (k : Nat) (b : List Int) (p m dep : Int) (z o : ByteArray) (f : Bool) (hk : 20 ≤ k) (hz : z.size ≤ 30) (ho : o.size ≤ 30) (hS : Src b p m) (hm : m + 10 ≤ 100000000) (hf : f = true → 0 < z.size) : Dr 1 b 20 (m + 6) (spec_l5Draw.j0 k dep z o f b p) := by
  obtain ⟨k, rfl⟩ : ∃ j, k = j + 1 := ⟨k - 1, by omega⟩
  rw [spec_l5Draw.j0]
  refine Dr.ite_ (fun h => ?_) (fun h => ?_)
  · have := hf h
    refine Dr.pick (by omega) hS (by omega) fun v q h0 h1 hq => ?_
    have := h1 (by omega)
    have e : wrap64 (v + 1) = v + 1 := by unfold wrap64; omega
    simp only [e]
    refine Dr.chk h0 (Dr.chk (by omega) (Dr.chk (by omega) (Dr.some_ (by rw [ByteArray.size_extract]; omega) (by rw [ByteArray.size_extract]; omega) hq (by omega) (by omega))))
  have j1 : ∀ (f : Bool) (p m' : Int), m' ≤ m + 2 → Src b p m' → (f = true → 0 < o.size) → Dr 1 b 20 (m + 6) (spec_l5Draw.j1 k dep o f b p) := fun f p m' hm' hS hf => by
    obtain ⟨r, p', e, e1, e2, e3⟩ := draw_j1 k b p m' dep o f (by omega) ho hS (by omega) hf
    exact ⟨r, p', e, e1, e2, e3.mono (by omega) (by omega)⟩
  refine Dr.ite_ (fun h => ?_) (fun h => Dr.ite_ (fun h => Dr.ite_ (fun h => j1 false p m (by omega) hS (by simp)) (fun h => ?_)) (fun h => j1 false p m (by omega) hS (by simp)))
  · refine Dr.pick (by omega) hS (by omega) fun v q h0 h1 hq => Dr.dec (by omega) h0 (h1 (by omega)) fun s hs => Dr.some_ (by omega) (by omega) hq (by omega) (by omega)
  · refine Dr.pick (by omega) hS (by omega) fun v q h0 h1 hq => j1 _ q (m + 1) (by omega) hq fun _ => ?_
    cases hz : o.size with
    | zero => exfalso; apply h; have : o.data.toList = [] := by rw [← List.length_eq_zero_iff, Array.length_toList]; exact hz
              rw [← this]; exact Lib.toList_data o
    | succ n => omega
set_option maxHeartbeats 4000000 in
theorem draw_any : ∀ d : Nat, d ≤ 10 → DrawOk d := by
  have base : ∀ (k : Nat) (a2 : Int) (b : List Int) (p m dep : Int) (z o : ByteArray), a2 ≤ 0 → 100 ≤ k → z.size ≤ 30 → o.size ≤ 30 → Src b p m → m + 12 ≤ 100000000 → Dr 1 b 20 (m + 8) (spec_l5Draw.f k b p dep a2 z o) := by
    intro k a2 b p m dep z o h2 hk hz ho hS hm
    obtain ⟨k, rfl⟩ : ∃ j, k = j + 1 := ⟨k - 1, by omega⟩
    have j0 : ∀ (f : Bool) (p m' : Int), m' ≤ m + 2 → Src b p m' → (f = true → 0 < z.size) → Dr 1 b 20 (m + 8) (spec_l5Draw.j0 k dep z o f b p) := fun f p m' hm' hS hf => by
      obtain ⟨r, p', e, e1, e2, e3⟩ := draw_j0 k b p m' dep z o f (by omega) hz ho hS (by omega) hf
      exact ⟨r, p', e, e1, e2, e3.mono (by omega) (by omega)⟩
    rw [spec_l5Draw.f, if_pos h2]
    refine Dr.ite_ (fun h => Dr.ite_ (fun h => j0 false p m (by omega) hS (by simp)) (fun h => ?_)) (fun h => j0 false p m (by omega) hS (by simp))
    refine Dr.pick (by omega) hS (by omega) fun v q h0 h1 hq => j0 _ q (m + 1) (by omega) hq fun _ => ?_
    cases hz : z.size with
    | zero => exfalso; apply h; have : z.data.toList = [] := by rw [← List.length_eq_zero_iff, Array.length_toList]; exact hz
              rw [← this]; exact Lib.toList_data z
    | succ n => omega
  intro d
  induction d with
  | zero =>
    intro _ k a2 b p m dep z o h2 _ hk hz ho hS hm
    have := base k a2 b p m dep z o (by omega) (by omega) (by omega) (by omega) hS (by simp at hm; omega)
    simpa using this
  | succ d ih =>
    intro hd k a2 b p m dep z o h2 h2' hk hz ho hS hm
    have IH := ih (by omega)
    clear ih
    have hm0 : 0 ≤ m := by have := hS.2.2.1; have := hS.2.2.2.1; omega
    obtain ⟨C, hC⟩ : ∃ C, C = 2 ^ d := ⟨_, rfl⟩
    have hc : 2 ^ (d + 1) = 2 * C := by rw [Nat.pow_succ, hC]; omega
    have hpos : 1 ≤ C := by rw [hC]; exact Nat.one_le_two_pow
    have hcm : ((2 * C : Nat) : Int) = 2 * (C : Int) := by push_cast; rfl
    rw [hc, hcm] at hm ⊢
    by_cases h0 : a2 ≤ 0
    · obtain ⟨r, p', e, e1, e2, e3⟩ := base k a2 b p m dep z o h0 (by omega) (by omega) (by omega) hS (by omega)
      exact ⟨r, p', e, by omega, e2, e3.mono (by omega) (by omega)⟩
    obtain ⟨k, rfl⟩ : ∃ j, k = j + 1 := ⟨k - 1, by omega⟩
    rw [spec_l5Draw.f, if_neg h0]
    have w1 : wrap64 (a2 - 1) = a2 - 1 := by unfold wrap64; omega
    have w2 : wrap64 (a2 - 2) = a2 - 2 := by unfold wrap64; omega
    have w3 : wrap64 ((wrap64 (a2 + (z.size : Int))) + (wrap64 (2 * (o.size : Int)))) = a2 + z.size + 2 * o.size := by unfold wrap64; omega
    rw [w3]
    have t0 : Int.tmod (a2 + z.size + 2 * o.size) 5 = (a2 + z.size + 2 * o.size) % 5 := tmod_pos _ _ (by omega)
    rw [t0]
    have t1 := Int.emod_nonneg (a2 + z.size + 2 * o.size) (b := 5) (by omega)
    have t2 := Int.emod_lt_of_pos (a2 + z.size + 2 * o.size) (b := 5) (by omega)
    generalize (a2 + (z.size : Int) + 2 * (o.size : Int)) % 5 = i at t1 t2 ⊢
    have w4 : wrap64 (i + 1) = i + 1 := by unfold wrap64; omega
    rw [w4, w1, w2]
    have hnm : ((⟨#[118, 119, 120, 121, 122]⟩ : ByteArray).extract (i : Int).toNat ((i + 1) : Int).toNat).size ≤ 1 := by rw [ByteArray.size_extract]; omega
    generalize (⟨#[118, 119, 120, 121, 122]⟩ : ByteArray).extract (i : Int).toNat ((i + 1) : Int).toNat = nm at hnm ⊢
    have s1 : ∀ x : UInt8, (⟨#[x]⟩ : ByteArray).size = 1 := fun x => rfl
    refine Dr.chk t1 (Dr.chk (by omega) (Dr.chk (by omega) ?_))
    have draw : ∀ {M : Int} (a2 p m' dep : Int) (z o : ByteArray) {F : ByteArray × Int → Option (ByteArray × Int)}, a2 ≤ d → -100 ≤ a2 → z.size + d ≤ 30 → o.size + d ≤ 30 → Src b p m' → m' + (10 * (C : Int) - 2) ≤ 99990000 →
        (∀ s q, s.size ≤ 26 * C - 6 → 1 ≤ s.size → Src b q (m' + (10 * (C : Int) - 2)) → Dr 1 b (26 * (2 * C) - 6) M (F (s, q))) → Dr 1 b (26 * (2 * C) - 6) M ((spec_l5Draw.f k b p dep a2 z o).bind F) := by
      intro M a2 p m' dep z o F g1 g2 g3 g4 g5 g6 g7
      subst hC
      exact Dr.draw IH g1 g2 (by omega) g3 g4 g5 g6 g7
    clear IH hc hcm hC t0 w1 w2 w3 w4 base
    repeat' first
      | (refine draw _ _ _ _ _ _ (by omega) (by omega) (by omega) (by omega) (by assumption) (by omega) ?_; intro s q hs hs1 hq; dsimp only)
      | (refine Dr.pick (by omega) (by assumption) (by omega) ?_; intro v q h0 h1 hq; dsimp only)
      | (refine Dr.of 1 (by omega) (by assumption) (by omega) (by simp) (by simp [s1]) ?_; intro s q hs hq; dsimp only)
      | (refine Dr.unbind_ (by omega) (by omega) ?_; intro s hs)
      | (refine Dr.bind_ (by omega) hnm (by omega) ?_; intro s hs)
      | (refine Dr.chk (by ((try simp only [ByteArray.size_append, s1]); omega)) ?_)
      | (refine Dr.some_ (by ((try simp only [ByteArray.size_append, s1]); omega)) (by ((try simp only [ByteArray.size_append, s1]); omega)) (by assumption) (by omega) (by omega))
      | (refine Dr.ite_ (fun _ => ?_) (fun _ => ?_))
theorem known_any (a : Int) (h0 : 0 ≤ a) : ∃ r, spec_l5Known.f a = some r ∧ r.size ≤ 80 ∧ 1 ≤ r.size := by
  unfold spec_l5Known.f
  simp only [Option.bind_some]
  rw [if_neg (by decide)]
  obtain ⟨n, hn, hi⟩ : ∃ n : Nat, n < 16 ∧ Int.tmod a 16 = (n : Int) := by
    rw [tmod_pos _ _ h0]
    have t1 := Int.emod_nonneg a (b := 16) (by omega)
    have t2 := Int.emod_lt_of_pos a (b := 16) (by omega)
    exact ⟨(a % 16).toNat, by omega, by omega⟩
  rw [show ∀ l : List ByteArray, l.length = 16 → Int.tmod a (l.length : Int) = (n : Int) from fun l h => by rw [h]; exact hi]
  · rw [if_pos (by omega), if_pos (by simp; omega)]
    refine ⟨_, rfl, ?_⟩
    unfold rdOf
    rw [Int.toNat_natCast]
    clear hi
    revert n
    decide
  · rfl
theorem some_j1 (k : Nat) (b : List Int) (p m : Int) (x : ByteArray) (hk : 10 ≤ k) (hx : x.size ≤ 80) (hx1 : 1 ≤ x.size) (hS : Src b p m) (hm : m + 20 ≤ 100000000) : Dr 0 b 100 (m + 10) (spec_l5Some.j1 k x b p) := by
  obtain ⟨k, rfl⟩ : ∃ j, k = j + 1 := ⟨k - 1, by omega⟩
  rw [spec_l5Some.j1]
  have s1 : ∀ x : UInt8, (⟨#[x]⟩ : ByteArray).size = 1 := fun x => rfl
  have s0 : (⟨#[]⟩ : ByteArray).size = 0 := rfl
  refine Dr.pick (by omega) hS (by omega) fun v q h0 h1 hq => ?_
  refine Dr.ite_ (fun _ => Dr.some_ (by omega) (by omega) hq (by omega) (by omega)) (fun _ => ?_)
  refine Dr.pick (by omega) hq (by omega) fun v2 q2 h2 h3 hq2 => ?_
  have h3 := h3 (by omega)
  have z1 : (x.extract 0 v2.toNat).size ≤ 80 := by rw [ByteArray.size_extract]; omega
  refine Dr.chk h2 (Dr.chk (by omega) ?_)
  refine Dr.of 1 (by omega) hq2 (by omega) (by simp) (by simp [s1, s0]) fun s q3 hs hq3 => ?_
  refine Dr.chk (by show (x.extract 0 v2.toNat).size + s.size ≤ _; omega) ?_
  refine Dr.pick (by omega) hq3 (by omega) fun v4 q4 h4 h5 hq4 => ?_
  have h5 := h5 (by omega)
  have e : wrap64 (v2 + v4) = v2 + v4 := by unfold wrap64; omega
  simp only [e]
  have z2 : (x.extract (v2 + v4).toNat x.size).size ≤ 80 := by rw [ByteArray.size_extract]; omega
  have z3 : (x.extract 0 v2.toNat).size + (x.extract (v2 + v4).toNat x.size).size ≤ 80 := by rw [ByteArray.size_extract, ByteArray.size_extract]; omega
  refine Dr.chk (by omega) (Dr.chk (by omega) (Dr.chk (by rw [ByteArray.size_append]; omega) ?_))
  exact Dr.some_ (by rw [ByteArray.size_append, ByteArray.size_append]; omega) (by omega) hq4 (by omega) (by omega)
theorem some_any (k : Nat) (b : List Int) (p m : Int) (hk : 200 ≤ k) (hS : Src b p m) (hm : m + 20000 ≤ 99990000) : Dr 0 b 100 (m + 800) (spec_l5Some.f k b p) := by
  unfold spec_l5Some.f
  have j0 : ∀ (x : ByteArray) (p m' : Int), 1 ≤ x.size → m' ≤ m + 680 → Src b p m' → Dr 0 b 100 (m + 800) (spec_l5Some.j0 k x b p) := by
    intro x p m' hx hm' hS
    obtain ⟨k, rfl⟩ : ∃ j, k = j + 1 := ⟨k - 1, by omega⟩
    rw [spec_l5Some.j0]
    refine Dr.ite_ (fun h => ?_) (fun h => ?_)
    · obtain ⟨r, p', e, e1, e2, e3⟩ := some_j1 k b p m' ⟨#[83, 97]⟩ (by omega) (by decide) (by decide) hS (by omega)
      exact ⟨r, p', e, e1, e2, e3.mono (by omega) (by omega)⟩
    · obtain ⟨r, p', e, e1, e2, e3⟩ := some_j1 k b p m' x (by omega) (by omega) hx hS (by omega)
      exact ⟨r, p', e, e1, e2, e3.mono (by omega) (by omega)⟩
  refine Dr.pick (by omega) hS (by omega) fun v q h0 h1 hq => ?_
  obtain ⟨r, e, e1, e2⟩ := known_any v h0
  simp only [e, Option.bind_some]
  refine Dr.pick (by omega) hq (by omega) fun v2 q2 h2 h3 hq2 => ?_
  refine Dr.ite_ (fun _ => ?_) (fun _ => j0 _ _ _ e2 (by omega) hq2)
  refine Dr.pick (by omega) hq2 (by omega) fun v3 q3 h4 h5 hq3 => ?_
  refine Dr.pick (by omega) hq3 (by omega) fun v4 q4 h6 h7 hq4 => ?_
  have h7 := h7 (by omega)
  have ew : wrap64 (2 + v4) = 2 + v4 := by unfold wrap64; omega
  simp only [ew]
  obtain ⟨r, p', e, e1, e2, e3⟩ := draw_any 6 (by omega) k (2 + v4) b q4 _ v3 ⟨#[]⟩ ⟨#[]⟩ (by omega) (by omega) (by omega) (by decide) (by decide) hq4 (by simp; omega)
  rw [e]
  simp only [Option.bind_some]
  exact j0 _ _ _ e2 (by simp; omega) e3
theorem drawRepl_any (k : Nat) (c : List Int) (hk : 300 ≤ k) (h : okb 255 c = true) (hl : c.length ≤ 1048576) : ∃ t v u, spec_DrawReplaceVar.f k c = some (t, v, u) ∧ t.size ≤ 100 ∧ v.size ≤ 10 ∧ u.size ≤ 10 := by
  unfold spec_DrawReplaceVar.f
  obtain ⟨b, e0, hS⟩ := open_any c h hl
  rw [e0]; simp only [Option.bind_some]
  obtain ⟨r, p', e, e1, _, hS1⟩ := some_any k b 0 0 (by omega) hS (by omega)
  rw [e]; simp only [Option.bind_some]
  obtain ⟨v, p2, e, e2, hS2⟩ := of_any k b p' _ ([(⟨#[97]⟩ : ByteArray), (⟨#[98]⟩ : ByteArray), (⟨#[120]⟩ : ByteArray), (⟨#[121]⟩ : ByteArray), (⟨#[97]⟩ : ByteArray), (⟨#[51]⟩ : ByteArray), (⟨#[113]⟩ : ByteArray)] : List ByteArray) 10 (by omega) hS1 (by omega) (by simp) (by decide)
  rw [e]; simp only [Option.bind_some]
  obtain ⟨u, p3, e, e3, _⟩ := of_any k b p2 _ ([(⟨#[97]⟩ : ByteArray), (⟨#[91, 120, 58, 97, 62, 49, 93]⟩ : ByteArray), (⟨#[120]⟩ : ByteArray), (⟨#[82, 97]⟩ : ByteArray), (⟨#[98]⟩ : ByteArray), (⟨#[73, 51]⟩ : ByteArray), (⟨#[121]⟩ : ByteArray), (⟨#[113]⟩ : ByteArray), (⟨#[40, 120, 43, 49, 41]⟩ : ByteArray)] : List ByteArray) 10 (by omega) hS2 (by omega) (by simp) (by decide)
  rw [e]; simp only [Option.bind_some]
  exact ⟨r, v, u, rfl, e1, e2, e3⟩
theorem ps_small (l : List UInt8) : ((tmOf l).elim [] Tm.ps).length ≤ 2 ∧ ∀ x ∈ (tmOf l).elim [] Tm.ps, x.size ≤ 80 := by
  cases ht : tmOf l with
  | none => simp
  | some t =>
    have h80 := (tmOf_tx ht).2
    cases t with
    | leaf c => simp [Tm.ps]
    | un c x =>
      have hx : x.tx.size ≤ 79 := by simp only [Tm.tx, ByteArray.size_append] at h80; have : (ch c).size = 1 := rfl; omega
      refine ⟨by simp [Tm.ps], fun y hy => ?_⟩
      have hy : y ∈ [x.tx] := hy
      rw [List.mem_singleton] at hy
      rw [hy]; omega
    | bin c x y =>
      have hx : x.tx.size + y.tx.size ≤ 80 := by simp only [Tm.tx, ByteArray.size_append] at h80; omega
      refine ⟨by simp [Tm.ps], fun z hz => ?_⟩
      have hz : z ∈ [x.tx, y.tx] := hz
      rcases List.mem_cons.1 hz with rfl | hz
      · omega
      · rw [List.mem_singleton] at hz
        rw [hz]; omega
    | loop c u x y =>
      have hx : x.tx.size + y.tx.size ≤ 80 := by simp only [Tm.tx, ByteArray.size_append] at h80; omega
      refine ⟨by simp [Tm.ps], fun z hz => ?_⟩
      have hz : z ∈ [x.tx, y.tx] := hz
      rcases List.mem_cons.1 hz with rfl | hz
      · omega
      · rw [List.mem_singleton] at hz
        rw [hz]; omega
theorem drawFree_any (k : Nat) (c : List Int) (hk : 300 ≤ k) (h : okb 255 c = true) (hl : c.length ≤ 1048576) : ∃ s, spec_DrawFreeVars.f k c = some s ∧ s.size ≤ 100 := by
  unfold spec_DrawFreeVars.f
  obtain ⟨b, e0, hS⟩ := open_any c h hl
  rw [e0]; simp only [Option.bind_some]
  obtain ⟨r, p', e, e1, _, hS1⟩ := some_any k b 0 0 (by omega) hS (by omega)
  rw [e]; simp only [Option.bind_some, spec_PartsOfTerm.f]
  rw [if_pos (by omega)]
  simp only [Option.bind_some]
  obtain ⟨hn, hz⟩ := ps_small r.data.toList
  generalize (tmOf r.data.toList).elim [] Tm.ps = P at hn hz ⊢
  by_cases h0 : (P.length : Int) > 0
  case neg => rw [if_neg h0]; exact ⟨r, rfl, e1⟩
  rw [if_pos h0]
  obtain ⟨v, e, _, _, _⟩ := pick_any k b p' _ 2 (by omega) hS1 (by omega)
  rw [e]; simp only [Option.bind_some]
  by_cases hv : v = 0
  case neg => rw [if_neg hv]; exact ⟨r, rfl, e1⟩
  have hw : wrap64 ((P.length : Int) - 1) = (P.length : Int) - 1 := by unfold wrap64; omega
  rw [if_pos hv, hw, if_pos (by omega), if_pos (by omega)]
  refine ⟨_, rfl, Nat.le_trans (hz _ ?_) (by decide)⟩
  unfold rdOf
  rw [List.getD_eq_getElem?_getD, List.getElem?_eq_getElem (by omega : ((P.length : Int) - 1).toNat < P.length)]
  exact List.getElem_mem _
end Go.Proofs.Ytpklhagedifglaa.Vq
