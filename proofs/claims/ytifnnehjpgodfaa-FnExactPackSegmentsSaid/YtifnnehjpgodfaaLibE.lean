/-
  What packing computes.
-/
import Derived.Test.YtifnnehjpgodfaaPrint9
import Derived.Test.YtifnnehjpgodfaaLibA
import Derived.Test.YtifnnehjpgodfaaLibB
import Derived.Test.YtifnnehjpgodfaaLibC
namespace Go.Proofs.Ytifnnehjpgodfaa.Print
open Go.RowKit Go.Proofs.YtifnnehjpgodfaaW.PrintWords Go.Proofs.YtifnnehjpgodfaaW.PrintLast
set_option linter.unusedVariables false
set_option linter.unusedSimpArgs false
/-- The numbers that have a flag that is not 0. -/
def sel : List Int → List Int → List Int
  | d :: ds, f :: fs => if f = 0 then sel ds fs else d :: sel ds fs
  | _, _ => []
/-- How many of each segment are flagged, and these. -/
def packGo : List Int → List Int → List Int → List Int × List Int
  | [], _, _ => ([], [])
  | a :: t, d, f => (((sel (d.take a.toNat) (f.take a.toNat)).length : Int) :: (packGo t (d.drop a.toNat) (f.drop a.toNat)).1, sel (d.take a.toNat) (f.take a.toNat) ++ (packGo t (d.drop a.toNat) (f.drop a.toNat)).2)
def pacOk (l d f : List Int) : Bool := segOk l d && (decide (f.length = d.length) && okb 10006 f)
def pacV (l d f : List Int) : List Int × List Int × Bool := if pacOk l d f = true then ((packGo l d f).1, (packGo l d f).2, true) else ([], [], false)
theorem sel_len (d f : List Int) : (sel d f).length ≤ d.length := by
  induction d generalizing f with
  | nil => simp [sel]
  | cons a t ih =>
    cases f with
    | nil => simp [sel]
    | cons b u =>
      rw [sel]; have := ih u
      split
      · simp; omega
      · simp; omega
theorem packGo_len1 (l d f : List Int) : (packGo l d f).1.length = l.length := by
  induction l generalizing d f with
  | nil => rfl
  | cons a t ih => simp [packGo, ih]
theorem packGo_len2 (l d f : List Int) : (packGo l d f).2.length ≤ d.length := by
  induction l generalizing d f with
  | nil => simp [packGo]
  | cons a t ih =>
    have h1 := sel_len (d.take a.toNat) (f.take a.toNat)
    have h2 := ih (d.drop a.toNat) (f.drop a.toNat)
    simp only [packGo, List.length_append]
    simp at h1 h2; omega
theorem pacOk_iff {l d f : List Int} : pacOk l d f = true ↔ segOk l d = true ∧ f.length = d.length ∧ okb 10006 f = true := by simp [pacOk]
theorem pacV_len1 (l d f : List Int) : (pacV l d f).1.length ≤ 1048576 := by
  unfold pacV; split
  · rename_i h; obtain ⟨h1, h2, h3⟩ := pacOk_iff.1 h; have := lenOk_iff.1 (segOk_iff.1 h1).1; simp only [packGo_len1]; omega
  · simp
theorem pacV_len2 (l d f : List Int) : (pacV l d f).2.1.length ≤ 1048576 := by
  unfold pacV; split
  · rename_i h; obtain ⟨h1, h2, h3⟩ := pacOk_iff.1 h; have := datOk_iff.1 (segOk_iff.1 h1).2.1; have := packGo_len2 l d f; simp only; omega
  · simp
theorem drop_uncons {l : List Int} {i : Nat} (h : i < l.length) : l.drop i = rd l (i : Int) :: l.drop (i + 1) := by
  rw [List.drop_eq_getElem_cons h, rd_nat, List.getD_eq_getElem?_getD, List.getElem?_eq_getElem h]; rfl
theorem impl_Pack_l1 {i : Nat} (l d f : List Int) (hl : l.length ≤ 400) (hd : d.length ≤ 400) (hf : f.length = d.length) (s9 : List Int) (hs9 : s9.length = i) (hi : i < l.length) (c : Nat) (P1 P2 : List Int) (a0 n : Nat) (hn : a0 + n ≤ d.length)
    (ih : ∀ (k : Nat) (s s' : List Int), s.length = i + 1 → s'.length ≤ a0 + n → c < k → impl_PackSegments.l0 k d f s s' ((a0 + n : Nat) : Int) l l.length ((i + 1 : Nat) : Int) = some (s ++ P1, s' ++ P2, true)) :
    ∀ (r j q k : Nat) (s10 : List Int) (had : Nat), r + j = n → q = a0 + j → r + 1 + c < k → s10.length ≤ a0 + j → had ≤ s10.length →
      impl_PackSegments.l1 k d f s9 s10 (q : Int) had l l.length i n j = some (s9 ++ (((s10.length : Int) - had + (sel ((d.drop q).take r) ((f.drop q).take r)).length) :: P1), s10 ++ (sel ((d.drop q).take r) ((f.drop q).take r) ++ P2), true) := by
  intro r
  induction r with
  | zero =>
    intro j q k s10 had hr hq hk hs hh
    obtain ⟨k, rfl⟩ : ∃ m, k = m + 1 := ⟨k - 1, by omega⟩
    have hj : j = n := by omega
    have hq2 : q = a0 + n := by omega
    rw [impl_PackSegments.l1, if_neg (by omega), if_pos (by omega), w64_i i (by omega), w64 (x := (s10.length : Int) - had) (by omega) (by omega), hq2, ih k _ s10 (by simp [hs9]) (by omega) (by omega)]
    simp [sel]
  | succ r ih2 =>
    intro j q k s10 had hr hq hk hs hh
    obtain ⟨k, rfl⟩ : ∃ m, k = m + 1 := ⟨k - 1, by omega⟩
    have hfd : q < f.length := by omega
    have hdd : q < d.length := by omega
    rw [impl_PackSegments.l1, if_pos (by omega), if_pos (by omega), if_pos (by omega), drop_uncons hdd, drop_uncons hfd, List.take_succ_cons, List.take_succ_cons, sel]
    rw [w64_i q (by omega), w64_i j (by omega)]
    by_cases h0 : rd f (q : Int) = 0
    · rw [if_pos h0, if_pos h0, ih2 (j + 1) (q + 1) k s10 had (by omega) (by omega) (by omega) (by omega) hh]
    · rw [if_neg h0, if_neg h0, if_pos (by omega), if_pos (by omega), ih2 (j + 1) (q + 1) k _ had (by omega) (by omega) (by omega) (by simp; omega) (by simp; omega)]
      simp; omega
theorem impl_Pack_l0 (l d f : List Int) (hl : l.length ≤ 400) (hd : d.length ≤ 400) (hf : f.length = d.length) : ∀ (t : List Int) (i k a0 : Nat) (s9 s10 : List Int), l.drop i = t → cst t < k → s9.length = i → s10.length ≤ a0 → okb 400 t = true → (a0 : Int) + tot t ≤ d.length →
    impl_PackSegments.l0 k d f s9 s10 a0 l l.length i = some (s9 ++ (packGo t (d.drop a0) (f.drop a0)).1, s10 ++ (packGo t (d.drop a0) (f.drop a0)).2, true) := by
  intro t
  induction t with
  | nil =>
    intro i k a0 s9 s10 hdr hk hs9 hs10 hok ht
    obtain ⟨k, rfl⟩ : ∃ m, k = m + 1 := ⟨k - 1, by simp only [cst] at hk; omega⟩
    rw [impl_PackSegments.l0, if_neg (drop_nil_info hdr)]; simp [packGo]
  | cons a t ih =>
    intro i k a0 s9 s10 hdr hk hs9 hs10 hok ht
    simp only [cst] at hk
    obtain ⟨k, rfl⟩ : ∃ m, k = m + 1 := ⟨k - 1, by omega⟩
    obtain ⟨hi, hr, hd'⟩ := drop_cons_info hdr
    rw [okb_cons] at hok
    simp only [Bool.and_eq_true, decide_eq_true_eq] at hok
    obtain ⟨⟨ha0, ha1⟩, hok'⟩ := hok
    have hnn := tot_nonneg hok'
    simp only [tot] at ht
    obtain ⟨n, rfl⟩ := Int.eq_ofNat_of_zero_le ha0
    rw [impl_PackSegments.l0, if_pos (by omega), if_pos (by omega), if_pos (by omega), hr]
    have := impl_Pack_l1 (i := i) l d f hl hd hf s9 hs9 hi (cst t) (packGo t (d.drop (a0 + n)) (f.drop (a0 + n))).1 (packGo t (d.drop (a0 + n)) (f.drop (a0 + n))).2 a0 n (by omega)
      (fun k s s' h1 h2 h3 => ih (i + 1) k (a0 + n) s s' hd' h3 h1 h2 hok' (by omega)) n 0 a0 k s10 s10.length (by omega) (by omega) (by omega) (by omega) (Nat.le_refl _)
    rw [show ((0 : Nat) : Int) = 0 from rfl] at this
    rw [this]
    simp only [packGo, List.drop_drop, Int.toNat_natCast]
    simp
theorem impl_Pack_eq (k : Nat) (l d f : List Int) (hk : 3001000 ≤ k) (hl : l.length ≤ 1048576) (hd : d.length ≤ 1048576) (hf : f.length ≤ 1048576) : impl_PackSegments.f k l d f = some (pacV l d f) := by
  obtain ⟨k, rfl⟩ : ∃ m, k = m + 1 := ⟨k - 1, by omega⟩
  unfold impl_PackSegments.f
  rw [impl_SegmentsValid_eq (k + 1) l d (by omega) hl hd, dataOk_eq f hf]
  simp only [Option.bind_some]
  cases h1 : segOk l d with
  | false => simp [impl_PackSegments.j0, pacV, pacOk, h1]
  | true =>
    obtain ⟨g1, g2, g3⟩ := segOk_iff.1 h1
    have hl1 := lenOk_iff.1 g1
    have hd1 := datOk_iff.1 g2
    simp only [if_true]
    by_cases h2 : f.length = d.length
    · have e : ((f.length : Int) != (d.length : Int)) = false := by simp [h2]
      cases h3 : okb 10006 f with
      | false =>
        have : datOk f = false := by simp [datOk, h3]
        simp [impl_PackSegments.j0, pacV, pacOk, this, h3]
      | true =>
        have : datOk f = true := by simp [datOk, h3]; omega
        rw [this, e, if_pos rfl, impl_PackSegments.j0, if_neg (by decide)]
        have hc := cst_len g1
        have := impl_Pack_l0 l d f hl1.1 hd1.1 h2 l 0 k 0 [] [] (by simp) (by omega) (by simp) (by simp) hl1.2.1 (by omega)
        rw [show ((0 : Nat) : Int) = 0 from rfl] at this
        rw [this]; simp [pacV, pacOk, h1, h2, h3]
    · have e : ((f.length : Int) != (d.length : Int)) = true := by simp; omega
      rw [e]
      simp [impl_PackSegments.j0, pacV, pacOk, h2]
theorem spec_Pack_l1 {i : Nat} (l d f : List Int) (hl : l.length ≤ 400) (hd : d.length ≤ 400) (hf : f.length = d.length) (s9 : List Int) (hs9 : s9.length = i) (hi : i < l.length) (c : Nat) (P1 P2 : List Int) (a0 n : Nat) (hn : a0 + n ≤ d.length)
    (ih : ∀ (k : Nat) (s s' : List Int), s.length = i + 1 → s'.length ≤ a0 + n → c < k → spec_PackSegments.l0 k d f s s' ((a0 + n : Nat) : Int) l l.length ((i + 1 : Nat) : Int) = some (s ++ P1, s' ++ P2, true)) :
    ∀ (r j q k : Nat) (s10 : List Int) (cnt : Nat), r + j = n → q = a0 + j → r + 1 + c < k → s10.length ≤ a0 + j → cnt ≤ j →
      spec_PackSegments.l1 k d f s9 s10 (q : Int) cnt l l.length i n j = some (s9 ++ (((cnt : Int) + (sel ((d.drop q).take r) ((f.drop q).take r)).length) :: P1), s10 ++ (sel ((d.drop q).take r) ((f.drop q).take r) ++ P2), true) := by
  intro r
  induction r with
  | zero =>
    intro j q k s10 cnt hr hq hk hs hh
    obtain ⟨k, rfl⟩ : ∃ m, k = m + 1 := ⟨k - 1, by omega⟩
    have hj : j = n := by omega
    have hq2 : q = a0 + n := by omega
    rw [spec_PackSegments.l1, if_neg (by omega), if_pos (by omega), w64_i i (by omega), hq2, ih k _ s10 (by simp [hs9]) (by omega) (by omega)]
    simp [sel]
  | succ r ih2 =>
    intro j q k s10 cnt hr hq hk hs hh
    obtain ⟨k, rfl⟩ : ∃ m, k = m + 1 := ⟨k - 1, by omega⟩
    have hfd : q < f.length := by omega
    have hdd : q < d.length := by omega
    rw [spec_PackSegments.l1, if_pos (by omega), if_pos (by omega), if_pos (by omega), drop_uncons hdd, drop_uncons hfd, List.take_succ_cons, List.take_succ_cons, sel]
    rw [w64_i q (by omega), w64_i j (by omega), w64_i cnt (by omega)]
    by_cases h0 : rd f (q : Int) = 0
    · rw [if_pos h0, if_pos h0, ih2 (j + 1) (q + 1) k s10 cnt (by omega) (by omega) (by omega) (by omega) (by omega)]
    · rw [if_neg h0, if_neg h0, if_pos (by omega), if_pos (by omega), ih2 (j + 1) (q + 1) k _ (cnt + 1) (by omega) (by omega) (by omega) (by simp; omega) (by omega)]
      simp; omega
theorem spec_Pack_l0 (l d f : List Int) (hl : l.length ≤ 400) (hd : d.length ≤ 400) (hf : f.length = d.length) : ∀ (t : List Int) (i k a0 : Nat) (s9 s10 : List Int), l.drop i = t → cst t < k → s9.length = i → s10.length ≤ a0 → okb 400 t = true → (a0 : Int) + tot t ≤ d.length →
    spec_PackSegments.l0 k d f s9 s10 a0 l l.length i = some (s9 ++ (packGo t (d.drop a0) (f.drop a0)).1, s10 ++ (packGo t (d.drop a0) (f.drop a0)).2, true) := by
  intro t
  induction t with
  | nil =>
    intro i k a0 s9 s10 hdr hk hs9 hs10 hok ht
    obtain ⟨k, rfl⟩ : ∃ m, k = m + 1 := ⟨k - 1, by simp only [cst] at hk; omega⟩
    rw [spec_PackSegments.l0, if_neg (drop_nil_info hdr)]; simp [packGo]
  | cons a t ih =>
    intro i k a0 s9 s10 hdr hk hs9 hs10 hok ht
    simp only [cst] at hk
    obtain ⟨k, rfl⟩ : ∃ m, k = m + 1 := ⟨k - 1, by omega⟩
    obtain ⟨hi, hr, hd'⟩ := drop_cons_info hdr
    rw [okb_cons] at hok
    simp only [Bool.and_eq_true, decide_eq_true_eq] at hok
    obtain ⟨⟨ha0, ha1⟩, hok'⟩ := hok
    have hnn := tot_nonneg hok'
    simp only [tot] at ht
    obtain ⟨n, rfl⟩ := Int.eq_ofNat_of_zero_le ha0
    rw [spec_PackSegments.l0, if_pos (by omega), if_pos (by omega), if_pos (by omega), hr]
    have := spec_Pack_l1 (i := i) l d f hl hd hf s9 hs9 hi (cst t) (packGo t (d.drop (a0 + n)) (f.drop (a0 + n))).1 (packGo t (d.drop (a0 + n)) (f.drop (a0 + n))).2 a0 n (by omega)
      (fun k s s' h1 h2 h3 => ih (i + 1) k (a0 + n) s s' hd' h3 h1 h2 hok' (by omega)) n 0 a0 k s10 0 (by omega) (by omega) (by omega) (by omega) (Nat.le_refl _)
    rw [show ((0 : Nat) : Int) = 0 from rfl] at this
    rw [this]
    simp only [packGo, List.drop_drop, Int.toNat_natCast]
    simp
theorem spec_Pack_eq (k : Nat) (l d f : List Int) (hk : 3001000 ≤ k) (hl : l.length ≤ 1048576) (hd : d.length ≤ 1048576) (hf : f.length ≤ 1048576) : spec_PackSegments.f k l d f = some (pacV l d f) := by
  obtain ⟨k, rfl⟩ : ∃ m, k = m + 1 := ⟨k - 1, by omega⟩
  unfold spec_PackSegments.f
  simp only [Option.bind_some]
  rw [spec_SegmentsValid_eq (k + 1) l d (by omega) hl hd]
  simp only [Option.bind_some]
  cases h1 : segOk l d with
  | false => simp [spec_PackSegments.j0, pacV, pacOk, h1]
  | true =>
    obtain ⟨g1, g2, g3⟩ := segOk_iff.1 h1
    have hl1 := lenOk_iff.1 g1
    have hd1 := datOk_iff.1 g2
    simp only [if_true]
    by_cases h2 : f.length = d.length
    · rw [if_pos (by omega), l3Numbers_eq (k + 1) f (by omega) hf]
      simp only [Option.bind_some]
      cases h3 : okb 10006 f with
      | false => simp [spec_PackSegments.j0, pacV, pacOk, h3]
      | true =>
        rw [spec_PackSegments.j0, if_neg (by decide)]
        have hc := cst_len g1
        have := spec_Pack_l0 l d f hl1.1 hd1.1 h2 l 0 k 0 [] [] (by simp) (by omega) (by simp) (by simp) hl1.2.1 (by omega)
        rw [show ((0 : Nat) : Int) = 0 from rfl] at this
        rw [this]; simp [pacV, pacOk, h1, h2, h3]
    · rw [if_neg (by omega)]
      simp [spec_PackSegments.j0, pacV, pacOk, h2]
end Go.Proofs.Ytifnnehjpgodfaa.Print
