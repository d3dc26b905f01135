/-
  InnerOf answers as the reference, for all layouts.
-/
import Derived.Test.YtlakjonnkggomaaLwA
import Derived.Test.YtlakjonnkggomaaIn0
import Derived.Test.YtlakjonnkggomaaIn1
import Derived.Test.YtlakjonnkggomaaIn2
import Derived.Test.YtlakjonnkggomaaIn3
import Derived.Test.YtlakjonnkggomaaIn4
import Derived.Test.YtlakjonnkggomaaIn5
import Derived.Test.YtlakjonnkggomaaLibFnExactInnerOf
namespace Go.Proofs.Ytlakjonnkggomaa.Pure
open Go.RowKit Go.Proofs.Ytlakjonnkggomaa.In Go.Proofs.YtlakjonnkggomaaW.PrintWords Go.Proofs.YtlakjonnkggomaaW.PrintLast Go.Proofs.YtlakjonnkggomaaW.PrintMore
set_option linter.unusedVariables false
set_option linter.unusedSimpArgs false
theorem tot_toN : ∀ (r : List Int), okb 400 r = true → tot r = ((toN r).sum : Int)
  | [], _ => rfl
  | a :: t, h => by
    obtain ⟨h1, h2, h3⟩ := okb_tail h
    have h4 := tot_toN t h3
    have h5 : (toN (a :: t)).sum = a.toNat + (toN t).sum := rfl
    show a + tot t = ((toN (a :: t)).sum : Int)
    rw [h4, h5]
    omega
theorem in_go (n : Int) (d : List Int) (hn : 0 ≤ n) : ∀ (t : List (List Int)) (i e : Int), 0 ≤ i → wrongGo n d i e t = -1 → t.all natL = true ∧ vdB e.toNat (t.map toN) d = true ∧ (t = [] ∨ i + (t.length : Int) ≤ 3) ∧ okb 10006 d = true
  | [], i, e, hi, h => by
    unfold wrongGo at h
    split at h
    · rename_i hc
      refine ⟨rfl, ?_, .inl rfl, hc.2⟩
      show (d.length == e.toNat) = true
      rw [← hc.1]
      simp
    · omega
  | r :: t, i, e, hi, h => by
    unfold wrongGo at h
    split at h
    · rename_i hc
      obtain ⟨h1, h2, h3, h4⟩ := in_go n d hn t (i + 1) (tot r) (by omega) h
      refine ⟨?_, ?_, .inr ?_, h4⟩
      · rw [List.all_cons, h1, Bool.and_true]; exact hc.2.2
      · rw [tot_toN r hc.2.2, Int.toNat_natCast] at h2
        show ((toN r).length == e.toNat && vdB (toN r).sum (t.map toN) d) = true
        rw [h2, Bool.and_true, ← hc.2.1]
        simp [toN]
      · rcases h3 with rfl | h3
        · have := hc.1; simp; omega
        · rw [List.length_cons]; omega
    · omega
theorem inOk_valid (l : List (List Int)) (d : List Int) (hw : wrongV l d < 0) (g2 : ∀ r ∈ l, r.length ≤ 1048576) (g3 : d.length ≤ 1048576) : inOk l d = true := by
  unfold wrongV at hw
  have h0 := wrongGo_cases (l.length : Int) d (by omega) l 0 1 (by omega) hw
  obtain ⟨h1, h2, h3, h4⟩ := in_go _ d (by omega) l 0 1 (by omega) h0
  unfold inOk
  simp only [Bool.and_eq_true, decide_eq_true_eq]
  refine ⟨⟨⟨⟨h1, h2⟩, ?_⟩, ?_⟩, g3⟩
  · rcases h3 with rfl | h3
    · exact Nat.zero_le _
    · omega
  · rw [List.all_eq_true]
    intro r hr
    simpa using g2 r hr
theorem marks_succ (k : Int) (n : Nat) : marks k (n + 1) = k :: marks (k + 1) n := by
  unfold marks
  rw [List.range_succ_eq_map, List.map_cons, List.map_map]
  congr 1
  · simp
  · apply List.map_congr_left
    intro i _
    show k + ((i + 1 : Nat) : Int) = k + 1 + (i : Int)
    omega
theorem marks_ramp : ∀ (n : Nat) (k : Int), marks k n = ramp k n
  | 0, _ => rfl
  | n + 1, k => by rw [marks_succ, marks_ramp n, ramp]
theorem ownLL_l0 (l : List (List Int)) (hl : l.length ≤ 1048576) (hr : ∀ r ∈ l, r.length ≤ 1048576) : ∀ (t : List (List Int)) (i k : Nat), l.drop i = t → t.length < k →
    spec_l13OwnListListint.l0 k (l.take i) l l.length i = some l := by
  intro t
  induction t with
  | nil =>
    intro i k hd hk
    obtain ⟨k, rfl⟩ : ∃ m, k = m + 1 := ⟨k - 1, by omega⟩
    rw [spec_l13OwnListListint.l0, if_neg (drop_nil_info hd), List.take_of_length_le (by have := List.drop_eq_nil_iff.1 hd; omega)]
  | cons a t ih =>
    intro i k hd hk
    obtain ⟨k, rfl⟩ : ∃ m, k = m + 1 := ⟨k - 1, by omega⟩
    obtain ⟨hi', ha, hd'⟩ := ddrop_cons_info hd
    simp only [List.length_cons] at hk
    have hal := hr a (List.mem_of_getElem? ha)
    rw [spec_l13OwnListListint.l0, if_pos (by omega), if_pos (by omega), if_pos (by omega), rdRow_of ha]
    simp only [Option.bind_some]
    rw [if_pos (by simp; omega), if_pos (by simp; omega), w64_i i (by omega)]
    have ht : l.take i ++ [([] : List Int) ++ a] = l.take (i + 1) := by
      rw [List.take_add_one, ha]; rfl
    rw [ht]
    exact ih (i + 1) k hd' (by omega)
theorem ownLay_eq (k : Nat) (l : List (List Int)) (d : List Int) (hk : 4100000 ≤ k) (hl : l.length ≤ 1048576) (hr : ∀ r ∈ l, r.length ≤ 1048576) (hd : d.length ≤ 1048576) : spec_l13OwnLayout.f k l d = some (l, d) := by
  unfold spec_l13OwnLayout.f spec_l13OwnListListint.f
  have := ownLL_l0 l hl hr l 0 k (by simp) (by omega)
  rw [List.take_zero, show ((0 : Nat) : Int) = 0 from rfl] at this
  rw [this]
  simp only [Option.bind_some, List.nil_append]
  rw [if_pos (by simp; omega)]
/-- Layouts of bounded sizes. -/
def SmS (xs : List S30) : Prop := xs.length ≤ 1048576 ∧ ∀ x ∈ xs, x.f0.length ≤ 1048576 ∧ (∀ r ∈ x.f0, r.length ≤ 1048576) ∧ x.f1.length ≤ 1048576
theorem rdT_of {xs : List S30} {i : Nat} {a : S30} (h : xs[i]? = some a) : rd_T30 xs (i : Int) = a := by
  unfold rd_T30; rw [Int.toNat_natCast, List.getD_eq_getElem?_getD, h]; rfl
theorem ownLS_l0 (xs : List S30) (hs : SmS xs) : ∀ (t : List S30) (i k : Nat), xs.drop i = t → t.length + 4100000 < k →
    spec_l13OwnListLayout.l0 k (xs.take i) xs xs.length i = some xs := by
  have hl := hs.1
  intro t
  induction t with
  | nil =>
    intro i k hd hk
    obtain ⟨k, rfl⟩ : ∃ m, k = m + 1 := ⟨k - 1, by omega⟩
    rw [spec_l13OwnListLayout.l0, if_neg (drop_nil_info hd), List.take_of_length_le (by have := List.drop_eq_nil_iff.1 hd; omega)]
  | cons a t ih =>
    intro i k hd hk
    obtain ⟨k, rfl⟩ : ∃ m, k = m + 1 := ⟨k - 1, by omega⟩
    obtain ⟨hi', ha, hd'⟩ := ddrop_cons_info hd
    simp only [List.length_cons] at hk
    obtain ⟨b1, b2, b3⟩ := hs.2 a (List.mem_of_getElem? ha)
    rw [spec_l13OwnListLayout.l0, if_pos (by omega), if_pos (by omega), if_pos (by omega), rdT_of ha, ownLay_eq k _ _ (by omega) b1 b2 b3]
    simp only [Option.bind_some]
    rw [if_pos (by simp; omega), w64_i i (by omega)]
    have ht : xs.take i ++ [(⟨a.f0, a.f1⟩ : S30)] = xs.take (i + 1) := by
      rw [List.take_add_one, ha]; rfl
    rw [ht]
    exact ih (i + 1) k hd' (by omega)
theorem ownLS_eq (k : Nat) (xs : List S30) (hk : 6000000 ≤ k) (hs : SmS xs) : spec_l13OwnListLayout.f k xs = some xs := by
  unfold spec_l13OwnListLayout.f
  have hl := hs.1
  have := ownLS_l0 xs hs xs 0 k (by simp) (by omega)
  rw [List.take_zero, show ((0 : Nat) : Int) = 0 from rfl] at this
  exact this
theorem eqLS_l0 (xs : List S30) (hs : SmS xs) : ∀ (t : List S30) (i k : Nat), xs.drop i = t → t.length + 4100000 < k →
    laws_eqLayoutS.l0 k xs xs i = some true := by
  have hl := hs.1
  intro t
  induction t with
  | nil =>
    intro i k hd hk
    obtain ⟨k, rfl⟩ : ∃ m, k = m + 1 := ⟨k - 1, by omega⟩
    rw [laws_eqLayoutS.l0, if_neg (drop_nil_info hd)]
  | cons a t ih =>
    intro i k hd hk
    obtain ⟨k, rfl⟩ : ∃ m, k = m + 1 := ⟨k - 1, by omega⟩
    obtain ⟨hi', ha, hd'⟩ := ddrop_cons_info hd
    simp only [List.length_cons] at hk
    obtain ⟨b1, b2, b3⟩ := hs.2 a (List.mem_of_getElem? ha)
    rw [laws_eqLayoutS.l0, if_pos (by omega), if_pos (by omega), if_pos (by omega), rdT_of ha, eqLayout_eq k _ _ (by omega) b1 b2 b3]
    simp only [Option.bind_some, if_true]
    rw [w64_i i (by omega)]
    exact ih (i + 1) k hd' (by omega)
theorem eqLS_eq (k : Nat) (xs : List S30) (hk : 6000000 ≤ k) (hs : SmS xs) : laws_eqLayoutS.f k xs xs = some true := by
  unfold laws_eqLayoutS.f
  have hl := hs.1
  have := eqLS_l0 xs hs xs 0 k (by simp) (by omega)
  rw [show ((0 : Nat) : Int) = 0 from rfl] at this
  rw [if_pos rfl, this]
/-- Rows with running numbers. -/
def rampS : List Nat → Int → List (List Int)
  | [], _ => []
  | n :: t, m => ramp m n :: rampS t (m + n)
theorem rampS_length : ∀ (ns : List Nat) (m : Int), (rampS ns m).length = ns.length
  | [], _ => rfl
  | n :: t, m => by rw [rampS, List.length_cons, List.length_cons, rampS_length t]
theorem heldSS_l0 (l : List (List Int)) (hl : l.length ≤ 1048576) : ∀ (ns : List Nat) (i k : Nat) (m : Int), (∀ n ∈ ns, n ≤ 1048576) → l.drop i = rampS ns m → ns.length + 3000000 < k → 0 ≤ m → m + (ns.sum : Nat) ≤ 4000000000000 →
    laws_heldIntSS.l0 k l m i = some (m + (ns.sum : Nat)) := by
  intro ns
  induction ns with
  | nil =>
    intro i k m hn hd hk h0 h1
    obtain ⟨k, rfl⟩ : ∃ m, k = m + 1 := ⟨k - 1, by omega⟩
    rw [laws_heldIntSS.l0, if_neg (drop_nil_info hd)]
    simp
  | cons n t ih =>
    intro i k m hn hd hk h0 h1
    obtain ⟨k, rfl⟩ : ∃ m, k = m + 1 := ⟨k - 1, by omega⟩
    rw [rampS] at hd
    obtain ⟨hi', ha, hd'⟩ := ddrop_cons_info hd
    simp only [List.length_cons, List.sum_cons] at hk h1
    rw [laws_heldIntSS.l0, if_pos (by omega), if_pos (by omega), rdRow_of ha, heldIntS_eq k n m (by omega) (hn n List.mem_cons_self) h0 (by omega)]
    simp only [Option.bind_some]
    rw [if_neg (by omega), w64_i i (by omega), ih (i + 1) k (m + n) (fun q hq => hn q (List.mem_cons_of_mem _ hq)) hd' (by omega) (by omega) (by omega), List.sum_cons]
    congr 1
    omega
theorem mkLay1_ramp : ∀ (Ms : List (List Int)) (k : Int), (List.range Ms.length).map (fun j => marks (k + preL Ms j) (Ms.getD j []).length) = rampS (Ms.map List.length) k
  | [], _ => rfl
  | M :: Ms, k => by
    rw [List.length_cons, List.range_succ_eq_map, List.map_cons, List.map_map, List.map_cons, rampS]
    congr 1
    · show marks (k + (preL (M :: Ms) 0 : Nat)) M.length = _
      rw [marks_ramp]
      simp [preL]
    · rw [← mkLay1_ramp Ms (k + M.length)]
      apply List.map_congr_left
      intro j _
      show marks (k + (preL (M :: Ms) (j + 1) : Nat)) ((M :: Ms).getD (j + 1) []).length = marks (k + M.length + (preL Ms j : Nat)) (Ms.getD j []).length
      have e : preL (M :: Ms) (j + 1) = M.length + preL Ms j := by unfold preL; simp
      rw [e]
      simp only [List.getD_cons_succ]
      congr 1
      omega
theorem preL_all (Ms : List (List Int)) : preL Ms Ms.length = (Ms.map List.length).sum := by unfold preL; rw [List.take_of_length_le (Nat.le_refl _)]
/-- Layouts that are marked one behind the other. -/
def mkR' : List (List (List Int) × List Int) → Int → List (List (List Int) × List Int)
  | [], _ => []
  | z :: t, k => mkLay z.1 z.2 k :: mkR' t (k + (szL z : Nat))
theorem mkLS_r : ∀ (zs : List (List (List Int) × List Int)) (k : Int), mkLS zs k = mkR' zs k
  | [], _ => rfl
  | z :: zs, k => by
    unfold mkLS
    rw [List.length_cons, List.range_succ_eq_map, List.map_cons, List.map_map, mkR']
    congr 1
    · unfold mkAt
      show mkLay z.1 z.2 (k + (preS (z :: zs) 0 : Nat)) = _
      simp [preS]
    · rw [← mkLS_r zs (k + (szL z : Nat))]
      unfold mkLS
      apply List.map_congr_left
      intro j _
      show mkLay ((z :: zs).getD (j + 1) ([], [])).1 ((z :: zs).getD (j + 1) ([], [])).2 (k + (preS (z :: zs) (j + 1) : Nat)) = mkLay (zs.getD j ([], [])).1 (zs.getD j ([], [])).2 (k + (szL z : Nat) + (preS zs j : Nat))
      have e : preS (z :: zs) (j + 1) = szL z + preS zs j := by unfold preS; simp
      rw [e]
      simp only [List.getD_cons_succ]
      congr 1
      omega
theorem heldLS_l0 (X : List S30) (hX : X.length ≤ 1048576) : ∀ (zs : List (List (List Int) × List Int)) (i k : Nat) (m : Int), (∀ z ∈ zs, z.1.length ≤ 1048576 ∧ (∀ r ∈ z.1, r.length ≤ 1048576) ∧ z.2.length ≤ 1048576) → X.drop i = (mkR' zs m).map toS30 → zs.length + 4100000 < k → 0 ≤ m → m + ((zs.map szL).sum : Nat) ≤ 2000000000000 →
    laws_heldLayoutS.l0 k X m i = some (m + ((zs.map szL).sum : Nat)) := by
  intro zs
  induction zs with
  | nil =>
    intro i k m hz hd hk h0 h1
    obtain ⟨k, rfl⟩ : ∃ m, k = m + 1 := ⟨k - 1, by omega⟩
    rw [laws_heldLayoutS.l0, if_neg (drop_nil_info hd)]
    simp
  | cons z t ih =>
    intro i k m hz hd hk h0 h1
    obtain ⟨k, rfl⟩ : ∃ m, k = m + 1 := ⟨k - 1, by omega⟩
    rw [mkR', List.map_cons] at hd
    obtain ⟨hi', ha, hd'⟩ := ddrop_cons_info hd
    obtain ⟨b1, b2, b3⟩ := hz z List.mem_cons_self
    rw [List.map_cons, List.sum_cons] at h1 ⊢
    simp only [List.length_cons] at hk
    have hsz : szL z = (z.1.map List.length).sum + z.2.length := by unfold szL; rw [preL_all]
    have e0 : (toS30 (mkLay z.1 z.2 m)).f0 = rampS (z.1.map List.length) m := mkLay1_ramp z.1 m
    have e1 : (toS30 (mkLay z.1 z.2 m)).f1 = ramp (m + ((z.1.map List.length).sum : Nat)) z.2.length := by
      show marks (m + (preL z.1 z.1.length : Nat)) z.2.length = _
      rw [marks_ramp, preL_all]
    have hh := heldSS_l0 (rampS (z.1.map List.length) m) (by rw [rampS_length, List.length_map]; exact b1) (z.1.map List.length) 0 k m (fun n hn => by obtain ⟨r, hr, rfl⟩ := List.mem_map.1 hn; exact b2 r hr) (by simp) (by rw [List.length_map]; omega) h0 (by omega)
    rw [show ((0 : Nat) : Int) = 0 from rfl] at hh
    rw [laws_heldLayoutS.l0, if_pos (by omega), if_pos (by omega), rdT_of ha, e0, e1]
    unfold laws_heldIntSS.f
    rw [hh]
    simp only [Option.bind_some]
    rw [if_neg (by omega), heldIntS_eq k z.2.length _ (by omega) b3 (by omega) (by omega)]
    simp only [Option.bind_some]
    have e2 : m + ((z.1.map List.length).sum : Nat) + (z.2.length : Int) = m + (szL z : Nat) := by rw [hsz]; omega
    rw [if_neg (by omega), w64_i i (by omega), e2, ih (i + 1) k _ (fun q hq => hz q (List.mem_cons_of_mem _ hq)) hd' (by omega) (by omega) (by omega)]
    congr 1
    omega
theorem preS_all (zs : List (List (List Int) × List Int)) : preS zs zs.length = (zs.map szL).sum := by unfold preS; rw [List.take_of_length_le (Nat.le_refl _)]
theorem heldLS_eq (k : Nat) (zs : List (List (List Int) × List Int)) (hk : 6000000 ≤ k) (hl : zs.length ≤ 1048576) (hz : ∀ z ∈ zs, z.1.length ≤ 1048576 ∧ (∀ r ∈ z.1, r.length ≤ 1048576) ∧ z.2.length ≤ 1048576) (hs : preS zs zs.length ≤ 100000000000) :
    laws_heldLayoutS.f k ((mkLS zs 1).map toS30) 1 = some (1 + (preS zs zs.length : Int)) := by
  unfold laws_heldLayoutS.f
  rw [preS_all] at hs ⊢
  have := heldLS_l0 ((mkLS zs 1).map toS30) (by unfold mkLS; rw [List.length_map, List.length_map, List.length_range]; exact hl) zs 0 k 1 hz (by rw [mkLS_r]; simp) (by omega) (by omega) (by omega)
  rw [show ((0 : Nat) : Int) = 0 from rfl] at this
  exact this
theorem lbd_lyA : ∀ (Ls : List (List Nat)) (D : List Int) (lev a B : Nat) (s : List (List Int) × List Int), (∀ L ∈ Ls, ∀ n ∈ L, n ≤ 400) → LBd s.1 s.2 B → LBd (lyA Ls D lev a s).1 (lyA Ls D lev a s).2 (B + lyC Ls.length)
  | [], D, lev, a, B, s, _, h => by
    unfold lyA
    refine ⟨fun M hM => Nat.le_succ_of_le (h.1 M hM), ?_⟩
    show (s.2 ++ [D.getD a 0]).length ≤ B + 1
    rw [List.length_append]
    exact Nat.succ_le_succ h.2
  | L :: Ls, D, lev, a, B, s, h4, h => by
    unfold lyA
    have hn : L.getD a 0 ≤ 400 := by
      rw [List.getD_eq_getElem?_getD]
      cases hi : L[a]? with
      | none => exact Nat.zero_le _
      | some n => exact h4 L List.mem_cons_self n (List.mem_of_getElem? hi)
    have hst : ∀ i : Nat, LBd ((List.range i).foldl (fun s c => lyA Ls D (lev + 1) ((L.take a).sum + c) s) (s.1.set lev (s.1.getD lev [] ++ [((L.getD a 0 : Nat) : Int)]), s.2)).1 ((List.range i).foldl (fun s c => lyA Ls D (lev + 1) ((L.take a).sum + c) s) (s.1.set lev (s.1.getD lev [] ++ [((L.getD a 0 : Nat) : Int)]), s.2)).2 (B + 1 + i * lyC Ls.length) := by
      intro i
      induction i with
      | zero => rw [Nat.zero_mul]; exact h.set lev _
      | succ i ih =>
        rw [List.range_succ, List.foldl_append, List.foldl_cons, List.foldl_nil]
        have := lbd_lyA Ls D (lev + 1) ((L.take a).sum + i) _ _ (fun M hM => h4 M (List.mem_cons_of_mem _ hM)) ih
        exact this.mono (by rw [Nat.succ_mul]; omega)
    refine (hst _).mono ?_
    have := Nat.mul_le_mul_right (lyC Ls.length) hn
    show B + 1 + L.getD a 0 * lyC Ls.length ≤ B + (400 * lyC Ls.length + 1)
    omega
theorem ldA_bd (Ls : List (List Nat)) (D : List Int) (a : Nat) (h4 : ∀ L ∈ Ls, ∀ n ∈ L, n ≤ 400) (hl : Ls.length ≤ 2) : LBd (ldA Ls D a).1 (ldA Ls D a).2 160401 := by
  have := lbd_lyA Ls D 0 a 0 (List.replicate Ls.length [], []) h4 ⟨fun M hM => by rw [(List.mem_replicate.1 hM).2]; exact Nat.le_refl _, Nat.le_refl _⟩
  unfold ldA
  refine this.mono ?_
  have h : ∀ n, n ≤ 2 → 0 + lyC n ≤ 160401 := by decide
  exact h _ hl
theorem inZ_sizes (L : List Int) (Ls : List (List Int)) (D : List Int) (h : inOk (L :: Ls) D = true) : (inZ L Ls D).length ≤ 400 ∧ ∀ z ∈ inZ L Ls D, z.1.length ≤ 2 ∧ (∀ r ∈ z.1, r.length ≤ 160401) ∧ z.2.length ≤ 160401 := by
  have hh := inOk_of h
  have hlen : Ls.length ≤ 2 := by
    have := hh.lsz.1
    rw [List.length_map, List.length_cons] at this
    omega
  have h4 := hh.l400
  rw [List.map_cons] at h4
  constructor
  · unfold inZ
    rw [List.length_map, List.length_range, List.getD_eq_getElem?_getD]
    cases hi : (toN L)[0]? with
    | none => exact Nat.zero_le _
    | some n => exact h4 _ List.mem_cons_self n (List.mem_of_getElem? hi)
  · intro z hz
    unfold inZ at hz
    obtain ⟨c, _, rfl⟩ := List.mem_map.1 hz
    have hb := ldA_bd (Ls.map toN) D (((toN L).take 0).sum + c) (fun M hM => h4 M (List.mem_cons_of_mem _ hM)) (by rw [List.length_map]; exact hlen)
    refine ⟨?_, hb.1, hb.2⟩
    rw [ldA_len, List.length_map]
    exact hlen
theorem sum_bd (B : Nat) : ∀ (l : List Nat), (∀ n ∈ l, n ≤ B) → l.sum ≤ l.length * B
  | [], _ => by simp
  | n :: t, h => by
    have := sum_bd B t (fun m hm => h m (List.mem_cons_of_mem _ hm))
    have := h n List.mem_cons_self
    rw [List.sum_cons, List.length_cons, Nat.succ_mul]
    omega
theorem szL_bd (z : List (List Int) × List Int) (n B : Nat) (h1 : z.1.length ≤ n) (h2 : ∀ r ∈ z.1, r.length ≤ B) (h3 : z.2.length ≤ B) : szL z ≤ n * B + B := by
  unfold szL
  rw [preL_all]
  have := sum_bd B (z.1.map List.length) (fun m hm => by obtain ⟨r, hr, rfl⟩ := List.mem_map.1 hm; exact h2 r hr)
  rw [List.length_map] at this
  have := Nat.mul_le_mul_right B h1
  omega
/-- What InnerOf gives is of bounded sizes. -/
theorem in_sizes (l : List (List Int)) (d : List Int) (hv : l = [] ∨ inOk l d = true) : (inZ' l d).length ≤ 400 ∧ (∀ z ∈ inZ' l d, z.1.length ≤ 2 ∧ (∀ r ∈ z.1, r.length ≤ 160401) ∧ z.2.length ≤ 160401) := by
  cases l with
  | nil => exact ⟨Nat.zero_le _, fun z hz => by cases hz⟩
  | cons L Ls => exact inZ_sizes L Ls d (by rcases hv with h | h; cases h; exact h)
theorem preS_bd (zs : List (List (List Int) × List Int)) (hl : zs.length ≤ 400) (hz : ∀ z ∈ zs, z.1.length ≤ 2 ∧ (∀ r ∈ z.1, r.length ≤ 160401) ∧ z.2.length ≤ 160401) : preS zs zs.length ≤ 100000000000 := by
  rw [preS_all]
  have := sum_bd 481203 (zs.map szL) (fun m hm => by obtain ⟨z, hq, rfl⟩ := List.mem_map.1 hm; obtain ⟨b1, b2, b3⟩ := hz z hq; have := szL_bd z 2 160401 b1 b2 b3; omega)
  rw [List.length_map] at this
  have := Nat.mul_le_mul_right 481203 hl
  omega
theorem inner_of (K : Nat) (l : List (List Int)) (d : List Int) (left : Int) (hK : 6000000 ≤ K) (e1 : laws_szLayout.f K l d 1048576 = some left) (h0 : 0 ≤ left) (g1 : l.length ≤ 1048576) (g2 : ∀ r ∈ l, r.length ≤ 1048576) (g3 : d.length ≤ 1048576) (zs : List (List (List Int) × List Int)) (t : Bool)
    (hl : zs.length ≤ 400) (hz : ∀ z ∈ zs, z.1.length ≤ 2 ∧ (∀ r ∈ z.1, r.length ≤ 160401) ∧ z.2.length ≤ 160401) (hsp : spec_l2RawInnerOf.f K l d = some (zs.map toS30, t)) (him : impl_InnerOf.f K l d = some (zs.map toS30, t)) : InLaw K l d left (zs.map toS30) t := by
  have hs : SmS (zs.map toS30) := by
    refine ⟨by rw [List.length_map]; omega, fun x hx => ?_⟩
    obtain ⟨z, hq, rfl⟩ := List.mem_map.1 hx
    obtain ⟨b1, b2, b3⟩ := hz z hq
    refine ⟨?_, fun r hr => ?_, ?_⟩
    · show z.1.length ≤ _; omega
    · have := b2 r hr; omega
    · show z.2.length ≤ _; omega
  have hb := preS_bd zs hl hz
  refine ⟨e1, h0, toLayout_eq K l d (by omega) g1 g2 g3, ?_, him, eqLS_eq K _ hK hs, eqLayout_eq K l d (by omega) g1 g2 g3, ?_, by omega, ?_, by rw [List.length_map]; omega, fun i => ?_, ?_⟩
  · unfold spec_InnerOf.f
    rw [hsp]
    simp only [Option.bind_some]
    rw [ownLS_eq K _ hK hs]
    rfl
  · rw [ofS30_map]
    exact heldLS_eq K zs hK (by omega) (fun z hq => by obtain ⟨b1, b2, b3⟩ := hz z hq; exact ⟨by omega, fun r hr => by have := b2 r hr; omega, by omega⟩) hb
  · have := szL_bd (l, d) 1048576 1048576 g1 g2 g3
    omega
  · rw [ofS30_map, List.getD_eq_getElem?_getD]
    cases hi : zs[i]? with
    | none => exact Nat.zero_le _
    | some z => have := (hz z (List.mem_of_getElem? hi)).1; show z.1.length ≤ _; omega
  · rw [ofS30_map]; exact hb
theorem FnExactInnerOf (l : List (List Int)) (d : List Int) (hl : l.length ≤ maxLen) (hr : ∀ r ∈ l, r.length ≤ maxLen) (hd : d.length ≤ maxLen) : ∃ k left, laws_szLayout.f k l d 1048576 = some left ∧ (left < 0 ∨ ∃ xs t, InLaw k l d left xs t) := by
  unfold maxLen at hl hr hd
  obtain ⟨K, hK⟩ : ∃ K, 6000000 ≤ K := ⟨6000000, Nat.le_refl _⟩
  obtain ⟨v, e1, e2⟩ := szLayout_any K l d (by omega) (by omega) (fun r h => by have := hr r h; omega) (by omega)
  refine ⟨K, v, e1, ?_⟩
  by_cases hv : v < 0
  · exact .inl hv
  obtain ⟨g1, g2, g3⟩ := e2 (by omega)
  refine .inr ?_
  by_cases hc : wrongV l d < 0 ∧ l ≠ []
  · have hok := inOk_valid l d hc.1 g2 g3
    obtain ⟨s1, s2⟩ := in_sizes l d (.inr hok)
    refine ⟨_, true, inner_of K l d v hK e1 (by omega) g1 g2 g3 (inZ' l d) true s1 s2 ?_ ?_⟩
    · unfold spec_l2RawInnerOf.f
      rw [spec_Valid_eq K l d (by omega) g1 g2 g3, Option.bind_some, if_pos ⟨decide_eq_true hc.1, hc.2⟩, if_pos hok]
    · unfold impl_InnerOf.f
      rw [impl_Valid_eq K l d (by omega) g1 g2 g3, Option.bind_some, if_pos ⟨decide_eq_true hc.1, hc.2⟩, if_pos hok]
  · refine ⟨_, false, inner_of K l d v hK e1 (by omega) g1 g2 g3 [] false (Nat.zero_le _) (fun z hz => by cases hz) ?_ ?_⟩
    · unfold spec_l2RawInnerOf.f
      rw [spec_Valid_eq K l d (by omega) g1 g2 g3, Option.bind_some, if_neg (fun h => hc ⟨of_decide_eq_true h.1, h.2⟩), if_pos g1]
      rfl
    · unfold impl_InnerOf.f
      rw [impl_Valid_eq K l d (by omega) g1 g2 g3, Option.bind_some, if_neg (fun h => hc ⟨of_decide_eq_true h.1, h.2⟩), if_pos g1]
      rfl
end Go.Proofs.Ytlakjonnkggomaa.Pure
