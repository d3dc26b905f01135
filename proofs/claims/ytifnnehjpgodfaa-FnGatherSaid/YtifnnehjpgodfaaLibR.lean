/-
  The drawing of inputs: it returns, and what it draws lies in its bounds.
-/
import Derived.Test.YtifnnehjpgodfaaPrint7
import Derived.Test.YtifnnehjpgodfaaLibA
namespace Go.Proofs.Ytifnnehjpgodfaa.Print
open Go.RowKit Go.Proofs.YtifnnehjpgodfaaW.PrintWords Go.Proofs.YtifnnehjpgodfaaW.PrintLast
set_option linter.unusedVariables false
set_option linter.unusedSimpArgs false
theorem ofInt_toNat64 (a : Nat) (ha : a < 18446744073709551616) : (BitVec.ofInt 64 (a : Int)).toNat = a := by
  rw [BitVec.ofInt_natCast, BitVec.toNat_ofNat]; exact Nat.mod_eq_of_lt (by omega)
theorem xor_i64 (a b : Nat) (ha : a < 4611686018427387904) (hb : b < 4611686018427387904) : Go.bits .xor .i64 (a : Int) (b : Int) = ((a ^^^ b : Nat) : Int) := by
  have hx : a ^^^ b < 2 ^ 62 := Nat.xor_lt_two_pow (by omega) (by omega)
  show IntKind.i64.wrap ((BitVec.ofInt 64 (a : Int) ^^^ BitVec.ofInt 64 (b : Int)).toNat : Int) = _
  rw [BitVec.toNat_xor, ofInt_toNat64 a (by omega), ofInt_toNat64 b (by omega)]
  simp [IntKind.wrap, IntKind.bits, IntKind.signed]
  omega
theorem xor_nonneg (a b : Int) (h0 : 0 ≤ a) (h1 : a < 4611686018427387904) (h2 : 0 ≤ b) (h3 : b < 4611686018427387904) : 0 ≤ Go.bits .xor .i64 a b := by
  obtain ⟨n, rfl⟩ := Int.eq_ofNat_of_zero_le h0
  obtain ⟨m, rfl⟩ := Int.eq_ofNat_of_zero_le h2
  rw [xor_i64 n m (by omega) (by omega)]; omega
theorem tmod_pos (a b : Int) (h : 0 ≤ a) : Int.tmod a b = a % b := Int.tmod_eq_emod_of_nonneg h
theorem tdiv_pos (a b : Int) (h : 0 ≤ a) : Int.tdiv a b = a / b := Int.tdiv_eq_ediv_of_nonneg h
theorem rd_range {m : Int} {l : List Int} (h : okb m l = true) (i : Int) (h0 : 0 ≤ i) (h1 : i < (l.length : Int)) : 0 ≤ rd l i ∧ rd l i ≤ m := okb_iff.1 h _ (rd_mem h0 h1)
/-- A source of drawn numbers: bytes, and how many have been drawn. -/
def Src (b : List Int) (p : Int) (m : Int) : Prop := okb 255 b = true ∧ b.length ≤ 2000 ∧ 0 ≤ p ∧ p ≤ m ∧ m ≤ 1000000000
theorem Src.mono {b : List Int} {p m m' : Int} (h : Src b p m) (h1 : m ≤ m') (h2 : m' ≤ 1000000000) : Src b p m' := ⟨h.1, h.2.1, h.2.2.1, by have := h.2.2.2.1; omega, h2⟩
theorem pick_any (k : Nat) (b : List Int) (p m n : Int) (hk : 1 ≤ k) (h : Src b p m) (hm : m + 1 ≤ 1000000000) :
    ∃ v, spec_l13Rd_pick.f k b p n = some (v, p + 1) ∧ 0 ≤ v ∧ (1 ≤ n → v < n) ∧ Src b (p + 1) (m + 1) := by
  obtain ⟨h1, h2, h3, h4, h5⟩ := h
  obtain ⟨k, rfl⟩ : ∃ j, k = j + 1 := ⟨k - 1, by omega⟩
  have hS : Src b (p + 1) (m + 1) := ⟨h1, h2, by omega, by omega, hm⟩
  unfold spec_l13Rd_pick.f
  have e0 : wrap64 (p + 1) = p + 1 := w64 (by omega) (by omega)
  have e1 : wrap64 (p + 1 - 1) = p := by rw [w64 (by omega) (by omega)]; omega
  by_cases hn : n < 1
  · rw [if_pos hn, e0, spec_l13Rd_pick.j0, if_pos rfl]
    exact ⟨0, rfl, by omega, fun h => by omega, hS⟩
  rw [if_neg hn, e0, spec_l13Rd_pick.j0]
  by_cases hb : b = []
  · rw [if_pos (by rw [hb]; rfl)]
    exact ⟨0, rfl, by omega, fun h => by omega, hS⟩
  have hbl : 0 < b.length := List.length_pos_iff.2 hb
  rw [if_neg (by simp [hb]), e1]
  have fin : ∀ x : Int, 0 ≤ x → ∃ v, (some (Int.tmod x n, p + 1) : Option (Int × Int)) = some (v, p + 1) ∧ 0 ≤ v ∧ (1 ≤ n → v < n) ∧ Src b (p + 1) (m + 1) := fun x hx =>
    ⟨Int.tmod x n, rfl, by rw [tmod_pos _ _ hx]; exact Int.emod_nonneg _ (by omega), fun _ => by rw [tmod_pos _ _ hx]; exact Int.emod_lt_of_pos _ (by omega), hS⟩
  by_cases hp : p < (b.length : Int)
  · have hr := rd_range h1 p h3 hp
    rw [if_pos hp, if_pos h3, if_neg (by omega), w64 (x := rd b p) (by omega) (by omega)]
    exact fin _ hr.1
  rw [if_neg hp, if_neg (by omega)]
  have q1 : Int.tmod p (b.length : Int) = p % (b.length : Int) := tmod_pos _ _ h3
  have a1 := Int.emod_nonneg p (b := (b.length : Int)) (by omega)
  have a2 := Int.emod_lt_of_pos p (b := (b.length : Int)) (by omega)
  have w7 : wrap64 (wrap64 (p * 7) + 3) = p * 7 + 3 := by rw [w64 (x := p * 7) (by omega) (by omega), w64 (by omega) (by omega)]
  rw [q1, w7]
  have q2 : Int.tmod (p * 7 + 3) (b.length : Int) = (p * 7 + 3) % (b.length : Int) := tmod_pos _ _ (by omega)
  have b1 := Int.emod_nonneg (p * 7 + 3) (b := (b.length : Int)) (by omega)
  have b2 := Int.emod_lt_of_pos (p * 7 + 3) (b := (b.length : Int)) (by omega)
  rw [q2, if_pos a1, if_pos a2, if_pos b1, if_pos b2, if_neg (by omega)]
  have r1 := rd_range h1 _ a1 a2
  have r2 := rd_range h1 _ b1 b2
  have q3 : Int.tdiv p (b.length : Int) = p / (b.length : Int) := tdiv_pos _ _ h3
  have d1 : 0 ≤ p / (b.length : Int) := Int.ediv_nonneg h3 (by omega)
  have d2 : p / (b.length : Int) ≤ p := Int.ediv_le_self _ h3
  generalize rd b (p % (b.length : Int)) = x1 at r1 ⊢
  generalize rd b ((p * 7 + 3) % (b.length : Int)) = x2 at r2 ⊢
  rw [q3]
  generalize p / (b.length : Int) = x3 at d1 d2 ⊢
  rw [w64 (x := x1) (by omega) (by omega), w64 (x := x2) (by omega) (by omega), w64 (x := x3) (by omega) (by omega), w64 (x := x1 * 131) (by omega) (by omega), w64 (x := x2 * 1117) (by omega) (by omega), w64 (x := p * 29) (by omega) (by omega), w64 (x := x3 * 53) (by omega) (by omega),
    w64 (x := x1 * 131 + x2 * 1117) (by omega) (by omega), w64 (x := x1 * 131 + x2 * 1117 + p * 29) (by omega) (by omega), w64 (x := x1 * 131 + x2 * 1117 + p * 29 + x3 * 53) (by omega) (by omega)]
  have z0 : 0 ≤ x1 * 131 + x2 * 1117 + p * 29 + x3 * 53 := by omega
  have z1 : x1 * 131 + x2 * 1117 + p * 29 + x3 * 53 < 4611686018427387904 := by omega
  generalize x1 * 131 + x2 * 1117 + p * 29 + x3 * 53 = z at z0 z1 ⊢
  rw [tdiv_pos _ _ z0, w64 (x := z / 64) (by omega) (by omega)]
  exact fin _ (xor_nonneg _ _ z0 z1 (by omega) (by omega))
theorem num_any (k : Nat) (b : List Int) (p m : Int) (l : List Int) (hk : 1 ≤ k) (h : Src b p m) (hm : m + 1 ≤ 1000000000) (hl : l ≠ []) :
    ∃ v, spec_l13Rd_num.f k b p l = some (v, p + 1) ∧ v ∈ l ∧ Src b (p + 1) (m + 1) := by
  obtain ⟨v, hv, h0, h1, hS⟩ := pick_any k b p m (l.length : Int) hk h hm
  have hll : 0 < l.length := List.length_pos_iff.2 hl
  have h1 := h1 (by omega)
  unfold spec_l13Rd_num.f
  rw [hv]
  simp only [Option.bind_some]
  rw [if_pos h0, if_pos h1]
  exact ⟨rd l v, rfl, rd_mem h0 h1, hS⟩
theorem open_any (c : List Int) (h : okb 255 c = true) (hl : c.length ≤ 1048576) : ∃ b, spec_l13Open.f c = some (b, 0) ∧ Src b 0 0 := by
  unfold spec_l13Open.f
  by_cases h1 : (c.length : Int) > 2000
  · rw [if_pos h1, if_pos (by omega)]
    exact ⟨_, rfl, okb_take h _, by simp; omega, by omega, by omega, by omega⟩
  · rw [if_neg h1]
    exact ⟨_, rfl, h, by omega, by omega, by omega, by omega⟩
theorem l4Numbers_l0 (b : List Int) (n : Nat) : ∀ (d i k : Nat) (p m : Int) (s : List Int), d = n - i → i ≤ n → n ≤ 1000 → d + 2 < k → s.length = i → Src b p m → m + 2 * d ≤ 100000000 →
    ∃ r p', spec_l4Numbers.l0 k s n i b p = some (r, p') ∧ r.length = n ∧ Src b p' (m + 2 * d) := by
  intro d
  induction d with
  | zero =>
    intro i k p m s hd hi hn hk hs hS hm
    obtain ⟨k, rfl⟩ : ∃ j, k = j + 1 := ⟨k - 1, by omega⟩
    rw [spec_l4Numbers.l0, if_neg (by omega)]
    exact ⟨s, p, rfl, by omega, hS.mono (by omega) (by omega)⟩
  | succ d ih =>
    intro i k p m s hd hi hn hk hs hS hm
    obtain ⟨k, rfl⟩ : ∃ j, k = j + 1 := ⟨k - 1, by omega⟩
    rw [spec_l4Numbers.l0, if_pos (by omega)]
    obtain ⟨v, e1, _, _, hS1⟩ := pick_any k b p m 50 (by omega) hS (by omega)
    rw [e1]; simp only [Option.bind_some]
    obtain ⟨u, e2, _, hS2⟩ := num_any k b (p + 1) (m + 1) [1, 0, 2, 3, 10006, v, 7] (by omega) hS1 (by omega) (by simp)
    rw [e2]; simp only [Option.bind_some]
    rw [if_pos (by omega), w64_i i (by omega)]
    obtain ⟨r, p', e3, h1, h2⟩ := ih (i + 1) k (p + 1 + 1) (m + 1 + 1) (s ++ [u]) (by omega) (by omega) hn (by omega) (by simp [hs]) hS2 (by omega)
    exact ⟨r, p', e3, h1, h2.mono (by omega) (by omega)⟩
theorem l4Numbers_any (k : Nat) (b : List Int) (p m : Int) (hk : 100 ≤ k) (hS : Src b p m) (hm : m ≤ 1000000) :
    ∃ r p', spec_l4Numbers.f k b p = some (r, p') ∧ r.length ≤ 6 ∧ Src b p' (m + 20) := by
  unfold spec_l4Numbers.f
  obtain ⟨v, e1, h0, h1, hS1⟩ := pick_any k b p m 7 (by omega) hS (by omega)
  have h1 := h1 (by omega)
  obtain ⟨n, rfl⟩ := Int.eq_ofNat_of_zero_le h0
  rw [e1]; simp only [Option.bind_some]
  obtain ⟨r, p', e3, h2, h3⟩ := l4Numbers_l0 b n n 0 k (p + 1) (m + 1) [] (by omega) (by omega) (by omega) (by omega) rfl hS1 (by omega)
  exact ⟨r, p', e3, by omega, h3.mono (by omega) (by omega)⟩
theorem drawGather_l0 (b x : List Int) (hx : x.length ≤ 1000) (n : Nat) : ∀ (d i k : Nat) (p m : Int) (s : List Int), d = n - i → i ≤ n → n ≤ 1000 → d + 2 < k → s.length = i → Src b p m → m + 2 * d ≤ 100000000 →
    ∃ u, spec_DrawGatherData.l0 k x s n i b p = some (x, u) ∧ u.length ≤ n + 1 := by
  intro d
  induction d with
  | zero =>
    intro i k p m s hd hi hn hk hs hS hm
    obtain ⟨k, rfl⟩ : ∃ j, k = j + 1 := ⟨k - 1, by omega⟩
    rw [spec_DrawGatherData.l0, if_neg (by omega)]
    obtain ⟨v, e1, _, _, hS1⟩ := pick_any k b p m 12 (by omega) hS (by omega)
    rw [e1]; simp only [Option.bind_some]
    split
    · obtain ⟨u, e2, _, hS2⟩ := num_any k b (p + 1) (m + 1) [-1, (x.length : Int), 9223372036854775807] (by omega) hS1 (by omega) (by simp)
      rw [e2]; simp only [Option.bind_some]
      rw [if_pos (by omega)]
      exact ⟨_, rfl, by simp; omega⟩
    · exact ⟨_, rfl, by omega⟩
  | succ d ih =>
    intro i k p m s hd hi hn hk hs hS hm
    obtain ⟨k, rfl⟩ : ∃ j, k = j + 1 := ⟨k - 1, by omega⟩
    rw [spec_DrawGatherData.l0, if_pos (by omega)]
    obtain ⟨v, e1, _, _, hS1⟩ := pick_any k b p m (mx (x.length : Int) 1) (by omega) hS (by omega)
    rw [e1]; simp only [Option.bind_some]
    rw [if_pos (by omega), w64_i i (by omega)]
    exact ih (i + 1) k (p + 1) (m + 1) (s ++ [v]) (by omega) (by omega) hn (by omega) (by simp [hs]) hS1 (by omega)
theorem drawGather_any (k : Nat) (c : List Int) (hk : 200 ≤ k) (h : okb 255 c = true) (hl : c.length ≤ 1048576) :
    ∃ x u, spec_DrawGatherData.f k c = some (x, u) ∧ x.length ≤ 1000 ∧ u.length ≤ 1001 := by
  unfold spec_DrawGatherData.f
  obtain ⟨b, e0, hS⟩ := open_any c h hl
  rw [e0]; simp only [Option.bind_some]
  obtain ⟨r, p, e1, h1, hS1⟩ := l4Numbers_any k b 0 0 (by omega) hS (by omega)
  rw [e1]; simp only [Option.bind_some]
  obtain ⟨v, e2, h2, h3, hS2⟩ := pick_any k b p (0 + 20) 7 (by omega) hS1 (by omega)
  have h3 := h3 (by omega)
  rw [e2]; simp only [Option.bind_some]
  obtain ⟨n, rfl⟩ := Int.eq_ofNat_of_zero_le h2
  obtain ⟨u, e3, h4⟩ := drawGather_l0 b r (by omega) n n 0 k (p + 1) (0 + 20 + 1) [] (by omega) (by omega) (by omega) (by omega) rfl hS2 (by omega)
  exact ⟨r, u, e3, by omega, by omega⟩
theorem wf_u8 {l : List Int} (h : ∀ x ∈ l, (Lit.int .u8 x).wf = true) : okb 255 l = true := by
  rw [okb_iff]; intro n hn
  have := h n hn
  simp [Lit.wf, IntKind.min, IntKind.max, IntKind.signed, IntKind.bits] at this
  omega
end Go.Proofs.Ytifnnehjpgodfaa.Print
