/-
  ParseLayout answers as the reference, for all texts.
-/
import Derived.Test.YtlakjonnkggomaaDoorPaF
import Derived.Test.YtlakjonnkggomaaDoorPa1
import Derived.Test.YtlakjonnkggomaaDoorPa2
import Derived.Test.YtlakjonnkggomaaDoorPa3
import Derived.Test.YtlakjonnkggomaaDoorPa4
import Derived.Test.YtlakjonnkggomaaDoorPa5
import Derived.Test.YtlakjonnkggomaaDoorLibFnExactParseLayout
namespace Go.Proofs.YtlakjonnkggomaaDoor.Pure
open Go.RowKit Go.Proofs.YtlakjonnkggomaaDoor.Pa Go.Proofs.YtlakjonnkggomaaDoorW.PrintWords Go.Proofs.YtlakjonnkggomaaDoorW.PrintLast Go.Proofs.YtlakjonnkggomaaDoorW.PrintMore
set_option linter.unusedVariables false
set_option linter.unusedSimpArgs false
theorem marks_succ (k : Int) (n : Nat) : marks k (n + 1) = k :: marks (k + 1) n := by
  unfold marks
  rw [List.range_succ_eq_map, List.map_cons, List.map_map]
  congr 1
  · simp
  · apply List.map_congr_left
    intro i _
    show k + ((i + 1 : Nat) : Int) = k + 1 + (i : Int)
    omega
theorem marks_ramp : ∀ (n : Nat) (k : Int), marks k n = ramp k n
  | 0, _ => rfl
  | n + 1, k => by rw [marks_succ, marks_ramp n, ramp]
theorem ownLL_l0 (l : List (List Int)) (hl : l.length ≤ 1048576) (hr : ∀ r ∈ l, r.length ≤ 1048576) : ∀ (t : List (List Int)) (i k : Nat), l.drop i = t → t.length < k →
    spec_l13OwnListListint.l0 k (l.take i) l l.length i = some l := by
  intro t
  induction t with
  | nil =>
    intro i k hd hk
    obtain ⟨k, rfl⟩ : ∃ m, k = m + 1 := ⟨k - 1, by omega⟩
    rw [spec_l13OwnListListint.l0, if_neg (drop_nil_info hd), List.take_of_length_le (by have := List.drop_eq_nil_iff.1 hd; omega)]
  | cons a t ih =>
    intro i k hd hk
    obtain ⟨k, rfl⟩ : ∃ m, k = m + 1 := ⟨k - 1, by omega⟩
    obtain ⟨hi', ha, hd'⟩ := ddrop_cons_info hd
    simp only [List.length_cons] at hk
    have hal := hr a (List.mem_of_getElem? ha)
    rw [spec_l13OwnListListint.l0, if_pos (by omega), if_pos (by omega), if_pos (by omega), rdRow_of ha]
    simp only [Option.bind_some]
    rw [if_pos (by simp; omega), if_pos (by simp; omega), w64_i i (by omega)]
    have ht : l.take i ++ [([] : List Int) ++ a] = l.take (i + 1) := by
      rw [List.take_add_one, ha]; rfl
    rw [ht]
    exact ih (i + 1) k hd' (by omega)
theorem ownLay_eq (k : Nat) (l : List (List Int)) (d : List Int) (hk : 4100000 ≤ k) (hl : l.length ≤ 1048576) (hr : ∀ r ∈ l, r.length ≤ 1048576) (hd : d.length ≤ 1048576) : spec_l13OwnLayout.f k l d = some (l, d) := by
  unfold spec_l13OwnLayout.f spec_l13OwnListListint.f
  have := ownLL_l0 l hl hr l 0 k (by simp) (by omega)
  rw [List.take_zero, show ((0 : Nat) : Int) = 0 from rfl] at this
  rw [this]
  simp only [Option.bind_some, List.nil_append]
  rw [if_pos (by simp; omega)]
/-- Rows with running numbers. -/
def rampS : List Nat → Int → List (List Int)
  | [], _ => []
  | n :: t, m => ramp m n :: rampS t (m + n)
theorem rampS_length : ∀ (ns : List Nat) (m : Int), (rampS ns m).length = ns.length
  | [], _ => rfl
  | n :: t, m => by rw [rampS, List.length_cons, List.length_cons, rampS_length t]
theorem heldSS_l0 (l : List (List Int)) (hl : l.length ≤ 1048576) : ∀ (ns : List Nat) (i k : Nat) (m : Int), (∀ n ∈ ns, n ≤ 1048576) → l.drop i = rampS ns m → ns.length + 3000000 < k → 0 ≤ m → m + (ns.sum : Nat) ≤ 4000000000000 →
    laws_heldIntSS.l0 k l m i = some (m + (ns.sum : Nat)) := by
  intro ns
  induction ns with
  | nil =>
    intro i k m hn hd hk h0 h1
    obtain ⟨k, rfl⟩ : ∃ m, k = m + 1 := ⟨k - 1, by omega⟩
    rw [laws_heldIntSS.l0, if_neg (drop_nil_info hd)]
    simp
  | cons n t ih =>
    intro i k m hn hd hk h0 h1
    obtain ⟨k, rfl⟩ : ∃ m, k = m + 1 := ⟨k - 1, by omega⟩
    rw [rampS] at hd
    obtain ⟨hi', ha, hd'⟩ := ddrop_cons_info hd
    simp only [List.length_cons, List.sum_cons] at hk h1
    rw [laws_heldIntSS.l0, if_pos (by omega), if_pos (by omega), rdRow_of ha, heldIntS_eq k n m (by omega) (hn n List.mem_cons_self) h0 (by omega)]
    simp only [Option.bind_some]
    rw [if_neg (by omega), w64_i i (by omega), ih (i + 1) k (m + n) (fun q hq => hn q (List.mem_cons_of_mem _ hq)) hd' (by omega) (by omega) (by omega), List.sum_cons]
    congr 1
    omega
theorem mkLay1_ramp : ∀ (Ms : List (List Int)) (k : Int), (List.range Ms.length).map (fun j => marks (k + preL Ms j) (Ms.getD j []).length) = rampS (Ms.map List.length) k
  | [], _ => rfl
  | M :: Ms, k => by
    rw [List.length_cons, List.range_succ_eq_map, List.map_cons, List.map_map, List.map_cons, rampS]
    congr 1
    · show marks (k + (preL (M :: Ms) 0 : Nat)) M.length = _
      rw [marks_ramp]
      simp [preL]
    · rw [← mkLay1_ramp Ms (k + M.length)]
      apply List.map_congr_left
      intro j _
      show marks (k + (preL (M :: Ms) (j + 1) : Nat)) ((M :: Ms).getD (j + 1) []).length = marks (k + M.length + (preL Ms j : Nat)) (Ms.getD j []).length
      have e : preL (M :: Ms) (j + 1) = M.length + preL Ms j := by unfold preL; simp
      rw [e]
      simp only [List.getD_cons_succ]
      congr 1
      omega
theorem preL_all (Ms : List (List Int)) : preL Ms Ms.length = (Ms.map List.length).sum := by unfold preL; rw [List.take_of_length_le (Nat.le_refl _)]
theorem sum_bd (B : Nat) : ∀ (l : List Nat), (∀ n ∈ l, n ≤ B) → l.sum ≤ l.length * B
  | [], _ => by simp
  | n :: t, h => by
    have := sum_bd B t (fun m hm => h m (List.mem_cons_of_mem _ hm))
    have := h n List.mem_cons_self
    rw [List.sum_cons, List.length_cons, Nat.succ_mul]
    omega
theorem szL_bd (z : List (List Int) × List Int) (n B : Nat) (h1 : z.1.length ≤ n) (h2 : ∀ r ∈ z.1, r.length ≤ B) (h3 : z.2.length ≤ B) : szL z ≤ n * B + B := by
  unfold szL
  rw [preL_all]
  have := sum_bd B (z.1.map List.length) (fun m hm => by obtain ⟨r, hr, rfl⟩ := List.mem_map.1 hm; exact h2 r hr)
  rw [List.length_map] at this
  have := Nat.mul_le_mul_right B h1
  omega

theorem heldLay_eq (k : Nat) (X : List (List Int)) (Y : List Int) (hk : 6000000 ≤ k) (hl : X.length ≤ 1048576) (hr : ∀ r ∈ X, r.length ≤ 1048576) (hd : Y.length ≤ 1048576) : laws_heldLayout.f k (mkLay X Y 1).1 (mkLay X Y 1).2 1 = some (1 + (szL (X, Y) : Int)) := by
  have hsz : szL (X, Y) = (X.map List.length).sum + Y.length := by unfold szL; rw [preL_all]
  have hb := szL_bd (X, Y) 1048576 1048576 hl hr hd
  have e0 : (mkLay X Y 1).1 = rampS (X.map List.length) 1 := mkLay1_ramp X 1
  have e1 : (mkLay X Y 1).2 = ramp (1 + ((X.map List.length).sum : Nat)) Y.length := by
    show marks (1 + (preL X X.length : Nat)) Y.length = _
    rw [marks_ramp, preL_all]
  have hh := heldSS_l0 (rampS (X.map List.length) 1) (by rw [rampS_length, List.length_map]; exact hl) (X.map List.length) 0 k 1 (fun n hn => by obtain ⟨r, hr2, rfl⟩ := List.mem_map.1 hn; exact hr r hr2) (by simp) (by rw [List.length_map]; omega) (by omega) (by omega)
  rw [show ((0 : Nat) : Int) = 0 from rfl] at hh
  rw [e0, e1]
  unfold laws_heldLayout.f laws_heldIntSS.f
  rw [hh]
  simp only [Option.bind_some]
  rw [if_neg (by omega), heldIntS_eq k Y.length _ (by omega) hd (by omega) (by omega)]
  simp only [Option.bind_some]
  have e2 : 1 + ((X.map List.length).sum : Nat) + (Y.length : Int) = 1 + (szL (X, Y) : Int) := by rw [hsz]; omega
  rw [if_neg (by omega), e2]
theorem bt_of {s : ByteArray} {i : Nat} {b : UInt8} (h : s.data.toList[i]? = some b) : bt s (i : Int) = b.toNat := by
  obtain ⟨h1, h2⟩ := List.getElem?_eq_some_iff.1 h
  have hi : i < s.size := by rw [← size_list]; exact h1
  unfold bt
  rw [Int.toNat_natCast, dif_pos hi]
  have e : s[i]'hi = b := by rw [← h2]; rfl
  rw [e]
/-- The cut of the reference. -/
theorem l13Cut_l0 (s : ByteArray) (c : UInt8) (hs : s.size ≤ 1048576) : ∀ (t : List UInt8) (i fr k : Nat) (acc : List ByteArray), s.data.toList.drop i = t → fr ≤ i → i ≤ s.size → acc.length ≤ i → t.length + 3 < k →
    ∃ R, spec_l13Cut.l0 k s (c.toNat : Int) acc fr i = some (acc ++ R) ∧ R.map (·.data.toList) = cutGo c ((s.data.toList.drop fr).take (i - fr)) t := by
  intro t
  induction t with
  | nil =>
    intro i fr k acc hd hf hi ha hk
    obtain ⟨k, rfl⟩ : ∃ m, k = m + 2 := ⟨k - 2, by simp at hk; omega⟩
    have hi2 : i = s.size := by have := List.drop_eq_nil_iff.1 hd; rw [size_list] at this; omega
    refine ⟨[s.extract fr i], ?_, ?_⟩
    · rw [spec_l13Cut.l0, if_pos (by omega), if_pos (by omega), if_pos (by omega), if_pos (by omega), if_pos (by omega), w64_i i (by omega), spec_l13Cut.l0, if_neg (by omega)]
      simp
    · rw [cutGo, List.map_singleton, Lib.extract_data]
  | cons b t ih =>
    intro i fr k acc hd hf hi ha hk
    obtain ⟨k, rfl⟩ : ∃ m, k = m + 1 := ⟨k - 1, by omega⟩
    obtain ⟨hi', hb, hd'⟩ := ddrop_cons_info hd
    rw [size_list] at hi'
    simp only [List.length_cons] at hk
    have htk : ((s.data.toList.drop fr).take (i - fr)) ++ [b] = (s.data.toList.drop fr).take (i + 1 - fr) := by
      rw [show i + 1 - fr = (i - fr) + 1 from by omega, List.take_add_one, List.getElem?_drop, show fr + (i - fr) = i from by omega, hb]
      rfl
    by_cases hc : b = c
    · obtain ⟨R, e1, e2⟩ := ih (i + 1) (i + 1) k (acc ++ [s.extract fr i]) hd' (Nat.le_refl _) (by omega) (by rw [List.length_append, List.length_singleton]; omega) (by omega)
      refine ⟨s.extract fr i :: R, ?_, ?_⟩
      · rw [spec_l13Cut.l0, if_pos (by omega), if_neg (by omega), if_pos (by omega), if_pos (by omega), bt_of hb, if_pos (by rw [hc]), if_pos (by omega), if_pos (by omega), if_pos (by omega), w64_i i (by omega)]
        simp only [Int.toNat_natCast]
        rw [e1, List.append_assoc]
        rfl
      · rw [cutGo, if_pos hc, List.map_cons, e2, Lib.extract_data, Nat.sub_self, List.take_zero]
    · obtain ⟨R, e1, e2⟩ := ih (i + 1) fr k acc hd' (by omega) (by omega) (by omega) (by omega)
      have hcn : ¬ (b.toNat : Int) = (c.toNat : Int) := fun e => hc (UInt8.toNat_inj.1 (by omega))
      refine ⟨R, ?_, ?_⟩
      · rw [spec_l13Cut.l0, if_pos (by omega), if_neg (by omega), if_pos (by omega), if_pos (by omega), bt_of hb, if_neg hcn, w64_i i (by omega), e1]
      · rw [cutGo, if_neg hc, e2, htk]
theorem l13Cut_eq (k : Nat) (s : ByteArray) (c : UInt8) (hs : s.size ≤ 1048576) (hk : 3000000 ≤ k) : ∃ R, spec_l13Cut.f k s (c.toNat : Int) = some R ∧ R.map (·.data.toList) = cutGo c [] s.data.toList := by
  obtain ⟨R, e1, e2⟩ := l13Cut_l0 s c hs s.data.toList 0 0 k [] rfl (Nat.le_refl _) (Nat.zero_le _) (Nat.zero_le _) (by rw [size_list]; omega)
  refine ⟨R, ?_, e2⟩
  unfold spec_l13Cut.f
  exact e1
/-- The number that digits spell, behind one. -/
def digV (v : Nat) (l : List UInt8) : Nat := l.foldl (fun v b => v * 10 + (b.toNat - 48)) v
theorem digV_nil (v : Nat) : digV v [] = v := by unfold digV; rw [List.foldl_nil]
theorem digV_cons (v : Nat) (b : UInt8) (t : List UInt8) : digV v (b :: t) = digV (v * 10 + (b.toNat - 48)) t := by unfold digV; rw [List.foldl_cons]
theorem digV_app (a b : List UInt8) (v : Nat) : digV v (a ++ b) = digV (digV v a) b := by unfold digV; rw [List.foldl_append]
theorem digV_dec (u : Nat) : digV 0 (Lib.decDigits u) = u := by
  induction u using Nat.strongRecOn with
  | _ u ih =>
    have hd : ∀ m, m < 10 → (UInt8.ofNat (48 + m)).toNat = 48 + m := fun m hm => by rw [UInt8.toNat_ofNat']; omega
    by_cases h : u < 10
    · rw [Lib.decDigits, dif_pos h, digV_cons, digV_nil, hd u h]; omega
    · rw [Lib.decDigits, dif_neg h, digV_app, ih (u / 10) (by omega), digV_cons, digV_nil, hd (u % 10) (by omega)]; omega
/-- How a number's reading ends. -/
def numE : Option Int → Int × Bool
  | none => (0, false)
  | some n => (n, true)
theorem num_l0 (s : ByteArray) (neg : Bool) (hs : s.size ≤ 17) : ∀ (t : List UInt8) (i k v : Nat), s.data.toList.drop i = t → i ≤ s.size → v < 10 ^ i → t.length < k →
    ∃ o, spec_l13Num.l0 k s neg v i = some (numE o) ∧ (∀ n, o = some n → -1000000000000000000 ≤ n ∧ n ≤ 1000000000000000000) ∧ ((∀ b ∈ t, dig b) → neg = false → o = some ((digV v t : Nat) : Int)) := by
  intro t
  induction t with
  | nil =>
    intro i k v hd hi hv hk
    obtain ⟨k, rfl⟩ : ∃ m, k = m + 1 := ⟨k - 1, by simp at hk; omega⟩
    have hi2 : i = s.size := by have := List.drop_eq_nil_iff.1 hd; rw [size_list] at this; omega
    have hv2 : v < 100000000000000000 := Nat.lt_of_lt_of_le hv (Nat.pow_le_pow_right (n := 10) (by decide) (show i ≤ 17 by omega))
    rw [spec_l13Num.l0, if_neg (by omega)]
    cases neg with
    | true =>
      refine ⟨some (-(v : Int)), ?_, fun n hn => ?_, fun _ h => by cases h⟩
      · rw [if_pos rfl, w64 (by omega) (by omega)]; rfl
      · have := Option.some.inj hn; omega
    | false =>
      refine ⟨some (v : Int), ?_, fun n hn => ?_, fun _ _ => rfl⟩
      · rw [if_neg (by decide)]; rfl
      · have := Option.some.inj hn; omega
  | cons b t ih =>
    intro i k v hd hi hv hk
    obtain ⟨k, rfl⟩ : ∃ m, k = m + 1 := ⟨k - 1, by omega⟩
    obtain ⟨hi', hb, hd'⟩ := ddrop_cons_info hd
    rw [size_list] at hi'
    simp only [List.length_cons] at hk
    have hv2 : v < 10000000000000000 := Nat.lt_of_lt_of_le hv (Nat.pow_le_pow_right (n := 10) (by decide) (show i ≤ 16 by omega))
    rw [spec_l13Num.l0, if_pos (by omega), if_pos (by omega), bt_of hb]
    by_cases h1 : (b.toNat : Int) < 48
    · refine ⟨none, by rw [if_pos h1]; rfl, fun n hn => (by cases hn), fun hdg _ => ?_⟩
      have := (hdg b List.mem_cons_self).1
      omega
    rw [if_neg h1]
    by_cases h2 : (b.toNat : Int) > 57
    · refine ⟨none, by rw [if_pos h2]; rfl, fun n hn => (by cases hn), fun hdg _ => ?_⟩
      have := (hdg b List.mem_cons_self).2
      omega
    rw [if_neg h2]
    have hm : ((b.toNat : Int) - 48) % 256 = (b.toNat : Int) - 48 := by omega
    have hvn : v * 10 + (b.toNat - 48) < 10 ^ (i + 1) := by rw [Nat.pow_succ]; omega
    obtain ⟨o, e1, e2, e3⟩ := ih (i + 1) k (v * 10 + (b.toNat - 48)) hd' (by omega) hvn (by omega)
    refine ⟨o, ?_, e2, fun hdg hn => ?_⟩
    · rw [hm, w64 (x := (v : Int) * 10) (by omega) (by omega), w64 (by omega) (by omega), w64_i i (by omega)]
      have e : (v : Int) * 10 + ((b.toNat : Int) - 48) = ((v * 10 + (b.toNat - 48) : Nat) : Int) := by omega
      rw [e, e1]
    · rw [e3 (fun d hd => hdg d (List.mem_cons_of_mem _ hd)) hn, digV_cons]
theorem num_j1 (s : ByteArray) (neg : Bool) (k : Nat) (hk : 100 ≤ k) :
    ∃ o, spec_l13Num.j1 k s neg = some (numE o) ∧ (∀ n, o = some n → 0 < s.size ∧ -1000000000000000000 ≤ n ∧ n ≤ 1000000000000000000) ∧ (0 < s.size → s.size ≤ 17 → (bt s 0 = 48 → s.size ≤ 1) → (∀ b ∈ s.data.toList, dig b) → neg = false → o = some ((digV 0 s.data.toList : Nat) : Int)) := by
  obtain ⟨k, rfl⟩ : ∃ m, k = m + 2 := ⟨k - 2, by omega⟩
  rw [spec_l13Num.j1]
  by_cases h0 : (s.size : Int) = 0
  · refine ⟨none, by rw [if_pos h0, spec_l13Num.j2, if_pos rfl]; rfl, fun n hn => (by cases hn), fun h => by omega⟩
  rw [if_neg h0]
  by_cases h1 : (s.size : Int) > 17
  · refine ⟨none, by rw [if_pos h1, spec_l13Num.j2, if_pos rfl]; rfl, fun n hn => (by cases hn), fun _ h => by omega⟩
  rw [if_neg h1, if_pos (by omega)]
  obtain ⟨o, e1, e2, e3⟩ := num_l0 s neg (by omega) s.data.toList 0 k 0 rfl (Nat.zero_le _) (by decide) (by rw [size_list]; omega)
  rw [show ((0 : Nat) : Int) = 0 from rfl] at e1
  have e2' : ∀ n, o = some n → 0 < s.size ∧ -1000000000000000000 ≤ n ∧ n ≤ 1000000000000000000 := fun n hn => ⟨by omega, e2 n hn⟩
  by_cases h2 : bt s 0 = 48
  · rw [if_pos h2]
    by_cases h3 : (s.size : Int) > 1
    · refine ⟨none, by rw [if_pos h3, spec_l13Num.j2, if_pos rfl]; rfl, fun n hn => (by cases hn), fun _ _ h => ?_⟩
      have := h h2
      omega
    · rw [if_neg h3]
      cases neg with
      | true => exact ⟨none, by rw [spec_l13Num.j2, if_pos rfl]; rfl, fun n hn => (by cases hn), fun _ _ _ _ h => by cases h⟩
      | false => exact ⟨o, by rw [spec_l13Num.j2, if_neg (by decide), e1], e2', fun _ _ _ hd hn => e3 hd hn⟩
  · rw [if_neg h2]
    exact ⟨o, by rw [spec_l13Num.j2, if_neg (by decide), e1], e2', fun _ _ _ hd hn => e3 hd hn⟩
theorem dig0 {u : Nat} (h : u ≤ 1000000) (h1 : 1 < (Lib.decDigits u).length) : ∀ b, (Lib.decDigits u)[0]? = some b → b.toNat ≠ 48 := by
  have hd : ∀ m, m < 10 → (UInt8.ofNat (48 + m)).toNat = 48 + m := fun m hm => by rw [UInt8.toNat_ofNat']; omega
  have key : ∀ u : Nat, 0 < u → ∀ b, (Lib.decDigits u)[0]? = some b → b.toNat ≠ 48 := by
    intro u
    induction u using Nat.strongRecOn with
    | _ u ih =>
      intro h0 b hb
      by_cases hu : u < 10
      · rw [Lib.decDigits, dif_pos hu] at hb
        have e : UInt8.ofNat (48 + u) = b := by simpa using hb
        rw [← e, hd u hu]; omega
      · rw [Lib.decDigits, dif_neg hu] at hb
        have hl : 0 < (Lib.decDigits (u / 10)).length := by rw [Lib.decDigits_length]; exact Lib.nDigits_pos _
        rw [List.getElem?_append_left hl] at hb
        exact ih (u / 10) (by omega) (by omega) b hb
  intro b hb
  refine key u ?_ b hb
  rcases Nat.eq_zero_or_pos u with rfl | h0
  · rw [Lib.decDigits_one (by decide)] at h1
    simp at h1
  · exact h0
theorem num_eq (k : Nat) (s : ByteArray) (hk : 200 ≤ k) :
    ∃ o, spec_l13Num.f k s = some (numE o) ∧ (∀ n, o = some n → 0 < s.size ∧ -1000000000000000000 ≤ n ∧ n ≤ 1000000000000000000) ∧ (∀ n, 0 ≤ n → n ≤ 1000000 → s.data.toList = Lib.itoa n → o = some n) := by
  obtain ⟨k, rfl⟩ : ∃ m, k = m + 1 := ⟨k - 1, by omega⟩
  unfold spec_l13Num.f
  by_cases h0 : (s.size : Int) > 0
  case neg =>
    rw [if_neg h0, spec_l13Num.j0, if_neg (by decide)]
    obtain ⟨o, e1, e2, _⟩ := num_j1 s false k (by omega)
    refine ⟨o, e1, e2, fun n h1 h2 he => ?_⟩
    have h3 : s.data.toList.length = 0 := by rw [size_list]; omega
    rw [he] at h3
    exact absurd (List.length_eq_zero_iff.1 h3) (itoa_ne n)
  rw [if_pos h0, if_pos (by omega)]
  by_cases hm : bt s 0 = 45
  · rw [hm, spec_l13Num.j0, if_pos (by decide), if_pos (by omega)]
    obtain ⟨o, e1, e2, _⟩ := num_j1 (s.extract 1 s.size) ((45 : Int) == 45) k (by omega)
    refine ⟨o, e1, fun n hn => ⟨by omega, (e2 n hn).2⟩, fun n h1 h2 he => ?_⟩
    exfalso
    obtain ⟨b, r, hbr⟩ := List.exists_cons_of_ne_nil (itoa_ne n)
    have hb : s.data.toList[0]? = some b := by rw [he, hbr]; rfl
    have := bt_of hb
    have hdg := (itoa_dig n h1 b (by rw [hbr]; exact List.mem_cons_self)).1
    rw [show ((0 : Nat) : Int) = 0 from rfl, hm] at this
    omega
  · have hf : (bt s 0 == 45) = false := beq_eq_false_iff_ne.mpr hm
    rw [hf, spec_l13Num.j0, if_neg (by decide)]
    obtain ⟨o, e1, e2, e3⟩ := num_j1 s false k (by omega)
    refine ⟨o, e1, e2, fun n h1 h2 he => ?_⟩
    have hl : s.size = (Lib.decDigits n.toNat).length := by rw [← size_list, he, itoa_pos n h1]
    have hl7 : (Lib.decDigits n.toNat).length ≤ 7 := by
      rw [Lib.decDigits_length]
      have hmono : ∀ u : Nat, u ≤ 1000000 → Lib.nDigits u ≤ 7 := by
        intro u hu
        rcases Nat.lt_or_ge 7 (Lib.nDigits u) with h | h
        · exfalso
          have h8 : ∀ (m u : Nat), m + 1 ≤ Lib.nDigits u → 0 < m → 10 ^ m ≤ u := by
            intro m
            induction m with
            | zero => intro u _ h; omega
            | succ m ih =>
              intro u hu _
              by_cases h10 : u < 10
              · rw [Lib.nDigits_small h10] at hu; omega
              · rw [Lib.nDigits_big h10] at hu
                by_cases hm0 : m = 0
                · subst hm0; simpa using Nat.le_of_not_lt h10
                · have := ih (u / 10) (by omega) (by omega)
                  rw [Nat.pow_succ]; omega
          have := h8 7 u h (by decide)
          omega
        · exact h
      exact hmono _ (by omega)
    have hv : digV 0 s.data.toList = n.toNat := by rw [he, itoa_pos n h1, digV_dec]
    have := e3 (by omega) (by omega) (fun h48 => by
      rcases Nat.lt_or_ge 1 s.size with h | h
      · exfalso
        obtain ⟨b, r, hbr⟩ := List.exists_cons_of_ne_nil (itoa_ne n)
        have hb : s.data.toList[0]? = some b := by rw [he, hbr]; rfl
        have h9 := bt_of hb
        rw [show ((0 : Nat) : Int) = 0 from rfl, h48] at h9
        rw [he, itoa_pos n h1] at hb
        exact dig0 (u := n.toNat) (by omega) (by omega) b hb (by omega)
      · exact h) (fun b hb => itoa_dig n h1 b (by rw [← he]; exact hb)) rfl
    rw [this, hv]
    congr 1
    omega
/-- How a row's reading ends. -/
def rowE : Option (List Int) → List Int × Bool
  | none => ([], false)
  | some l => (l, true)
theorem rdOf_of {l : List ByteArray} {i : Nat} {a : ByteArray} (h : l[i]? = some a) : rdOf ByteArray.empty l (i : Int) = a := by
  unfold rdOf; rw [Int.toNat_natCast, List.getD_eq_getElem?_getD, h]; rfl
theorem l2Read_l0 (P : List ByteArray) (hP : P.length ≤ 1048577) : ∀ (t : List ByteArray) (i k : Nat) (acc : List Int), P.drop i = t → acc.length ≤ i → t.length + 1000 < k → InR acc →
    ∃ o, spec_l2Read.l0 k acc P P.length i = some (rowE o) ∧ (∀ l, o = some l → l.length = acc.length + t.length ∧ (∀ x ∈ t, 0 < x.size) ∧ InR l) ∧ (∀ l, Okn l → t.map (·.data.toList) = wds l → o = some (acc ++ l)) := by
  intro t
  induction t with
  | nil =>
    intro i k acc hd ha hk hR
    obtain ⟨k, rfl⟩ : ∃ m, k = m + 1 := ⟨k - 1, by simp at hk; omega⟩
    refine ⟨some acc, ?_, fun l hl => ?_, fun l _ hl => ?_⟩
    · rw [spec_l2Read.l0, if_neg (drop_nil_info hd)]; rfl
    · rw [← Option.some.inj hl]
      exact ⟨rfl, fun x hx => (by cases hx), hR⟩
    · have : l = [] := by
        cases l with
        | nil => rfl
        | cons a t => unfold wds at hl; simp at hl
      rw [this, List.append_nil]
  | cons x t ih =>
    intro i k acc hd ha hk hR
    obtain ⟨k, rfl⟩ : ∃ m, k = m + 1 := ⟨k - 1, by omega⟩
    obtain ⟨hi', hx, hd'⟩ := ddrop_cons_info hd
    simp only [List.length_cons] at hk
    obtain ⟨o1, f1, f2, f3⟩ := num_eq k x (by omega)
    rw [spec_l2Read.l0, if_pos (by omega), if_pos (by omega), if_pos (by omega), rdOf_of hx, f1]
    simp only [Option.bind_some]
    cases o1 with
    | none =>
      refine ⟨none, by rw [if_neg (show ¬ (numE none).2 = true by decide)]; rfl, fun l hl => (by cases hl), fun l ho hl => ?_⟩
      exfalso
      cases l with
      | nil => unfold wds at hl; simp at hl
      | cons n l =>
        unfold wds at hl
        rw [List.map_cons, List.map_cons] at hl
        injection hl with h1 h2
        have hn := ho n List.mem_cons_self
        have := f3 n hn.1 hn.2 h1
        cases this
    | some n =>
      obtain ⟨hp, hb1, hb2⟩ := f2 n rfl
      have hR2 : InR (acc ++ [n]) := by
        intro m hm
        rcases List.mem_append.1 hm with hm | hm
        · exact hR m hm
        · rw [List.mem_singleton.1 hm]; omega
      obtain ⟨o, e1, e2, e3⟩ := ih (i + 1) k (acc ++ [n]) hd' (by rw [List.length_append, List.length_singleton]; omega) (by omega) hR2
      refine ⟨o, ?_, fun l hl => ?_, fun l ho hl => ?_⟩
      · rw [if_pos (show (numE (some n)).2 = true from rfl), if_pos (by omega), w64_i i (by omega)]
        exact e1
      · obtain ⟨g1, g2, g3⟩ := e2 l hl
        refine ⟨by rw [g1, List.length_append, List.length_singleton, List.length_cons]; omega, fun y hy => ?_, g3⟩
        rcases List.mem_cons.1 hy with rfl | hy
        · exact hp
        · exact g2 y hy
      · cases l with
        | nil => unfold wds at hl; simp at hl
        | cons m l =>
          unfold wds at hl
          rw [List.map_cons, List.map_cons] at hl
          injection hl with h1 h2
          have hm := ho m List.mem_cons_self
          have h4 := f3 m hm.1 hm.2 h1
          injection h4 with h4
          subst h4
          rw [e3 l (fun q hq => ho q (List.mem_cons_of_mem _ hq)) h2, List.append_assoc]
          rfl
theorem cutGo_sum (c : UInt8) : ∀ (l cur : List UInt8), ((cutGo c cur l).map List.length).sum + (cutGo c cur l).length = cur.length + l.length + 1
  | [], cur => by rw [cutGo]; simp
  | b :: l, cur => by
    rw [cutGo]
    by_cases h : b = c
    · have := cutGo_sum c l []
      rw [if_pos h]
      simp only [List.map_cons, List.sum_cons, List.length_cons, List.length_nil] at this ⊢
      omega
    · have := cutGo_sum c l (cur ++ [b])
      rw [if_neg h, this, List.length_append, List.length_singleton, List.length_cons]
      omega
theorem sum_pos : ∀ (l : List Nat), (∀ n ∈ l, 0 < n) → l.length ≤ l.sum
  | [], _ => Nat.le_refl _
  | n :: t, h => by
    have := sum_pos t (fun m hm => h m (List.mem_cons_of_mem _ hm))
    have := h n List.mem_cons_self
    rw [List.length_cons, List.sum_cons]
    omega
theorem l2Read_eq (k : Nat) (x : ByteArray) (hx : x.size ≤ 1048576) (hk : 3000000 ≤ k) :
    ∃ o, spec_l2Read.f k x = some (rowE o) ∧ (∀ l, o = some l → l.length ≤ 1048576 ∧ InR l) ∧ (∀ l, Okn l → x.data.toList = spL l → o = some l) := by
  unfold spec_l2Read.f
  simp only [Option.bind_some]
  by_cases hd : x.toList = ([45] : List UInt8)
  · rw [if_pos hd]
    refine ⟨some [], rfl, fun l hl => ?_, fun l ho hl => ?_⟩
    · rw [← Option.some.inj hl]; exact ⟨Nat.zero_le _, fun n hn => by cases hn⟩
    · rw [← Lib.toList_data, hd] at hl
      congr 1
      have h1 := prow_spL ho
      rw [← hl] at h1
      rw [← h1]
      rfl
  rw [if_neg hd]
  obtain ⟨R, e1, e2⟩ := l13Cut_eq k x 32 hx hk
  rw [show ((32 : UInt8).toNat : Int) = 32 from rfl] at e1
  rw [e1]
  simp only [Option.bind_some]
  have hsum := cutGo_sum 32 x.data.toList []
  have hRl : R.length = (cutGo 32 [] x.data.toList).length := by rw [← e2, List.length_map]
  rw [size_list, List.length_nil, ← hRl] at hsum
  obtain ⟨o, f1, f2, f3⟩ := l2Read_l0 R (by omega) R 0 k [] rfl (Nat.zero_le _) (by omega) (fun n hn => by cases hn)
  rw [show ((0 : Nat) : Int) = 0 from rfl] at f1
  refine ⟨o, f1, fun l hl => ?_, fun l ho hl => ?_⟩
  · obtain ⟨g1, g2, g3⟩ := f2 l hl
    refine ⟨?_, g3⟩
    have hp := sum_pos ((cutGo 32 [] x.data.toList).map List.length) (fun n hn => by
      obtain ⟨y, hy, rfl⟩ := List.mem_map.1 hn
      rw [← e2] at hy
      obtain ⟨z, hz, rfl⟩ := List.mem_map.1 hy
      rw [size_list]
      exact g2 z hz)
    rw [List.length_map, ← hRl] at hp
    rw [g1, List.length_nil]
    omega
  · have hne : ¬ l = [] := fun e => by
      rw [e] at hl
      exact hd (by rw [Lib.toList_data, hl]; rfl)
    have := f3 l ho (by
      rw [e2, hl]
      unfold spL
      rw [if_neg hne]
      cases l with
      | nil => exact absurd rfl hne
      | cons n l =>
        unfold wds
        rw [List.map_cons, Lib.join_cons]
        refine cutGo_tail 32 _ _ [] (fun y hy => ?_)
        have hy' : y ∈ (n :: l).map Lib.itoa := hy
        obtain ⟨m, hm, rfl⟩ := List.mem_map.1 hy'
        intro hb
        have := itoa_dig m (ho m hm).1 32 hb
        have h1 := this.1
        have h2 : (32 : UInt8).toNat = 32 := rfl
        omega)
    rw [this]
    rfl
/-- How a text's reading ends. -/
def finE (s : ByteArray) : Option (List (List Int) × List Int) → List (List Int) × List Int × Bool
  | none => ([], [], false)
  | some (L, D) => if wrongV L D < 0 ∧ (fmB L D).toList = s.toList then (L, D, true) else ([], [], false)
theorem finE_some (s : ByteArray) (L : List (List Int)) (D : List Int) : finE s (some (L, D)) = if wrongV L D < 0 ∧ (fmB L D).toList = s.toList then (L, D, true) else ([], [], false) := rfl
theorem raw_l0 (s : ByteArray) (P : List ByteArray) (hP : P.length ≤ 1048577) (hS : ∀ x ∈ P, x.size ≤ 1048576) : ∀ (t : List ByteArray) (i k : Nat) (L : List (List Int)) (D : List Int), P.drop i = t → i ≤ P.length → L.length ≤ i → (i = P.length → L.length ≤ 1048576) → t.length + 6000000 < k →
    (∀ r ∈ L, r.length ≤ 1048576 ∧ InR r) → D.length ≤ 1048576 → InR D →
    ∃ o, spec_l2RawParseLayout.l0 k s P P P.length i L D = some (finE s o) ∧ (∀ (Ls : List (List Int)) (E : List Int), (∀ l ∈ Ls, Okn l) → Okn E → t.map (·.data.toList) = Ls.map spL ++ [spL E] → o = some (L ++ Ls, E)) := by
  intro t
  induction t with
  | nil =>
    intro i k L D hd hi hL hL2 hk hr hD hDR
    obtain ⟨k, rfl⟩ : ∃ m, k = m + 1 := ⟨k - 1, by simp at hk; omega⟩
    have hi2 : i = P.length := by have := List.drop_eq_nil_iff.1 hd; omega
    have g1 := hL2 hi2
    refine ⟨some (L, D), ?_, fun Ls E _ _ h => ?_⟩
    · rw [spec_l2RawParseLayout.l0, if_neg (drop_nil_info hd), spec_Valid_eq k L D (by omega) g1 (fun r h => (hr r h).1) hD, Option.bind_some]
      rw [finE_some]
      by_cases hw : wrongV L D < 0
      · rw [decide_eq_true hw, if_pos rfl]
        unfold spec_FormatLayout.f
        rw [if_pos (fmOk_mk ⟨g1, fun r h => (hr r h).1, hD⟩ (fun r h => (hr r h).2) hDR)]
        simp only [Option.bind_some]
        by_cases hq : (fmB L D).toList = s.toList
        · rw [if_pos hq, if_pos ⟨hw, hq⟩]
        · rw [if_neg hq, if_neg (fun h => hq h.2)]
      · rw [decide_eq_false hw, if_neg (by decide), if_neg (fun h => hw h.1)]
    · exfalso
      have := congrArg List.length h
      simp at this
  | cons x t ih =>
    intro i k L D hd hi hL hL2 hk hr hD hDR
    obtain ⟨k, rfl⟩ : ∃ m, k = m + 1 := ⟨k - 1, by omega⟩
    obtain ⟨hi', hx, hd'⟩ := ddrop_cons_info hd
    simp only [List.length_cons] at hk
    obtain ⟨o1, f1, f2, f3⟩ := l2Read_eq k x (hS x (List.mem_of_getElem? hx)) (by omega)
    rw [spec_l2RawParseLayout.l0, if_pos (by omega), if_pos (by omega), if_pos (by omega), rdOf_of hx, f1]
    simp only [Option.bind_some]
    cases o1 with
    | none =>
      refine ⟨none, by rw [if_neg (show ¬ (rowE none).2 = true by decide)]; rfl, fun Ls E hLs hE h => ?_⟩
      exfalso
      cases Ls with
      | nil =>
        rw [List.map_nil, List.nil_append, List.map_cons] at h
        injection h with h1 h2
        cases f3 E hE h1
      | cons l Ls =>
        rw [List.map_cons, List.map_cons, List.cons_append] at h
        injection h with h1 h2
        cases f3 l (hLs l List.mem_cons_self) h1
    | some l1 =>
      obtain ⟨q1, q2⟩ := f2 l1 rfl
      rw [if_pos (show (rowE (some l1)).2 = true from rfl)]
      have htl : t.length = P.length - (i + 1) := by rw [← hd', List.length_drop]
      by_cases hlast : (i : Int) = wrap64 ((P.length : Int) - 1)
      · have hlast2 : i + 1 = P.length := by rw [w64 (by omega) (by omega)] at hlast; omega
        obtain ⟨o, e1, e3⟩ := ih (i + 1) k L l1 hd' (by omega) (by omega) (fun _ => by omega) (by omega) hr q1 q2
        have ht0 : t = [] := List.eq_nil_of_length_eq_zero (by omega)
        refine ⟨some (L, l1), ?_, fun Ls E hLs hE h => ?_⟩
        · rw [if_pos hlast, w64_i i (by omega)]
          show spec_l2RawParseLayout.l0 k s P P P.length ((i + 1 : Nat) : Int) L l1 = _
          rw [ht0] at hd'
          obtain ⟨k, rfl⟩ : ∃ m, k = m + 1 := ⟨k - 1, by omega⟩
          have g1 : L.length ≤ 1048576 := by omega
          rw [spec_l2RawParseLayout.l0, if_neg (drop_nil_info hd'), spec_Valid_eq k L l1 (by omega) g1 (fun r h => (hr r h).1) q1, Option.bind_some]
          rw [finE_some]
          by_cases hw : wrongV L l1 < 0
          · rw [decide_eq_true hw, if_pos rfl]
            unfold spec_FormatLayout.f
            rw [if_pos (fmOk_mk ⟨g1, fun r h => (hr r h).1, q1⟩ (fun r h => (hr r h).2) q2)]
            simp only [Option.bind_some]
            by_cases hq : (fmB L l1).toList = s.toList
            · rw [if_pos hq, if_pos ⟨hw, hq⟩]
            · rw [if_neg hq, if_neg (fun h => hq h.2)]
          · rw [decide_eq_false hw, if_neg (by decide), if_neg (fun h => hw h.1)]
        · rw [ht0] at h
          cases Ls with
          | nil =>
            rw [List.map_nil, List.nil_append, List.map_cons] at h
            injection h with h1 h2
            have h3 := f3 E hE h1
            injection h3 with h3
            rw [h3, List.append_nil]
          | cons l Ls =>
            exfalso
            have := congrArg List.length h
            simp at this
      · rw [if_neg hlast, if_pos (by omega), w64_i i (by omega)]
        have hnl : ¬ i + 1 = P.length := fun e => hlast (by rw [w64 (by omega) (by omega)]; omega)
        obtain ⟨o, e1, e3⟩ := ih (i + 1) k (L ++ [l1]) D hd' (by omega) (by rw [List.length_append, List.length_singleton]; omega) (fun e => absurd e hnl) (by omega) (fun r h => by
          rcases List.mem_append.1 h with h | h
          · exact hr r h
          · rw [List.mem_singleton.1 h]; exact ⟨q1, q2⟩) hD hDR
        refine ⟨o, e1, fun Ls E hLs hE h => ?_⟩
        cases Ls with
        | nil =>
          exfalso
          have := congrArg List.length h
          simp at this
          have : t.length = 0 := by rw [this]; rfl
          omega
        | cons l Ls =>
          rw [List.map_cons, List.map_cons, List.cons_append] at h
          injection h with h1 h2
          have h3 := f3 l (hLs l List.mem_cons_self) h1
          injection h3 with h3
          subst h3
          rw [e3 Ls E (fun r hr => hLs r (List.mem_cons_of_mem _ hr)) hE h2, List.append_assoc]
          rfl
theorem raw_eq (k : Nat) (s : ByteArray) (hs : s.size ≤ 1048576) (hk : 9000000 ≤ k) :
    ∃ o, spec_l2RawParseLayout.f k s = some (finE s o) ∧ (∀ (Ls : List (List Int)) (E : List Int), (∀ l ∈ Ls, Okn l) → Okn E → pcs s = Ls.map spL ++ [spL E] → o = some (Ls, E)) := by
  unfold spec_l2RawParseLayout.f
  obtain ⟨R, e1, e2⟩ := l13Cut_eq k s 124 hs (by omega)
  rw [show ((124 : UInt8).toNat : Int) = 124 from rfl] at e1
  rw [e1]
  simp only [Option.bind_some]
  have hRl : R.length = (pcs s).length := by unfold pcs; rw [← e2, List.length_map]
  have hpl := pcs_len s
  have hpp := pcs_pos s
  obtain ⟨o, f1, f3⟩ := raw_l0 s R (by omega) (fun x hx => by
    have := pcs_size s x.data.toList (by unfold pcs; rw [← e2]; exact List.mem_map.2 ⟨x, hx, rfl⟩)
    rw [size_list] at this
    omega) R 0 k [] [] rfl (Nat.zero_le _) (Nat.le_refl _) (fun e => by omega) (by omega) (fun r h => by cases h) (Nat.zero_le _) (fun n h => by cases h)
  rw [show ((0 : Nat) : Int) = 0 from rfl] at f1
  refine ⟨o, f1, fun Ls E hLs hE h => ?_⟩
  have := f3 Ls E hLs hE (by rw [e2]; exact h)
  rw [this, List.nil_append]
theorem okn_of_okb {m : Int} {l : List Int} (hm : m ≤ 1000000) (h : okb m l = true) : Okn l := fun n hn => by
  have := okb_iff.1 h n hn
  omega
theorem okn_go (n : Int) (d : List Int) (hn : 0 ≤ n) : ∀ (t : List (List Int)) (i e : Int), 0 ≤ i → wrongGo n d i e t = -1 → (∀ r ∈ t, Okn r) ∧ Okn d
  | [], i, e, hi, h => by
    unfold wrongGo at h
    split at h
    · rename_i hc
      exact ⟨fun r hr => (by cases hr), okn_of_okb (m := 10006) (by omega) hc.2⟩
    · omega
  | r :: t, i, e, hi, h => by
    unfold wrongGo at h
    split at h
    · rename_i hc
      obtain ⟨h1, h2⟩ := okn_go n d hn t (i + 1) (tot r) (by omega) h
      refine ⟨fun q hq => ?_, h2⟩
      rcases List.mem_cons.1 hq with rfl | hq
      · exact okn_of_okb (m := 400) (by omega) hc.2.2
      · exact h1 q hq
    · omega
theorem okn_valid (l : List (List Int)) (d : List Int) (hw : wrongV l d < 0) : (∀ r ∈ l, Okn r) ∧ Okn d := by
  unfold wrongV at hw
  have h0 := wrongGo_cases (l.length : Int) d (by omega) l 0 1 (by omega) hw
  exact okn_go _ d (by omega) l 0 1 (by omega) h0
theorem ba_of_list {a b : ByteArray} (h : a.toList = b.toList) : a = b := ba_ext (by rw [← Lib.toList_data, ← Lib.toList_data]; exact h)
/-- The reference reads as the program does. -/
theorem raw_is (k : Nat) (s : ByteArray) (hs : s.size ≤ 1048576) (hk : 9000000 ≤ k) : spec_l2RawParseLayout.f k s = some (paL s (decide (wrongV (pLs s) (pD s) < 0)), paD s (decide (wrongV (pLs s) (pD s) < 0)), paR s (decide (wrongV (pLs s) (pD s) < 0))) := by
  obtain ⟨o, e1, e2⟩ := raw_eq k s hs hk
  rw [e1]
  obtain ⟨t, ht⟩ : ∃ t, t = decide (wrongV (pLs s) (pD s) < 0) := ⟨_, rfl⟩
  rw [← ht]
  by_cases hr : paR s t = true
  · have h1 : t = true ∧ ((fmB (pLs s) (pD s)).toList == s.toList) = true := by unfold paR at hr; rwa [Bool.and_eq_true] at hr
    have hw : wrongV (pLs s) (pD s) < 0 := of_decide_eq_true (by rw [← ht]; exact h1.1)
    have hq : (fmB (pLs s) (pD s)).toList = s.toList := beq_iff_eq.1 h1.2
    obtain ⟨k1, k2⟩ := okn_valid _ _ hw
    have hp := pcs_fmB (pLs s) (pD s) k1 k2
    rw [ba_of_list hq] at hp
    rw [e2 _ _ k1 k2 hp]
    rw [finE_some]
    unfold paL paD
    rw [if_pos ⟨hw, hq⟩, if_pos hr, if_pos hr, hr]
  · have hrf : paR s t = false := by cases h : paR s t with | true => exact absurd h hr | false => rfl
    have hn : finE s o = ([], [], false) := by
      cases o with
      | none => rfl
      | some p =>
        obtain ⟨L, D⟩ := p
        rw [finE_some]
        by_cases hc : wrongV L D < 0 ∧ (fmB L D).toList = s.toList
        · exfalso
          obtain ⟨k1, k2⟩ := okn_valid _ _ hc.1
          obtain ⟨p1, p2⟩ := parse_fmB L D k1 k2
          rw [ba_of_list hc.2] at p1 p2
          apply hr
          unfold paR
          rw [ht, p1, p2, decide_eq_true hc.1, hc.2]
          simp
        · rw [if_neg hc]
    rw [hn]
    unfold paL paD
    rw [hrf]
    rfl
theorem FnExactParseLayout (s : ByteArray) (hs : s.size ≤ 1048576) : ∃ k t X Y r, PaLaw k s t X Y r := by
  obtain ⟨K, hK⟩ : ∃ K, 9000000 ≤ K := ⟨9000000, Nat.le_refl _⟩
  obtain ⟨⟨g1, g2, g3⟩, _, _⟩ := pa_sm s hs
  obtain ⟨t, ht⟩ : ∃ t, t = decide (wrongV (pLs s) (pD s) < 0) := ⟨_, rfl⟩
  have b1 : (paL s t).length ≤ 1048576 := by unfold paL; split; exact g1; exact Nat.zero_le _
  have b2 : ∀ r ∈ paL s t, r.length ≤ 1048576 := by unfold paL; split; exact g2; exact fun r h => by cases h
  have b3 : (paD s t).length ≤ 1048576 := by unfold paD; split; exact g3; exact Nat.zero_le _
  refine ⟨K, t, paL s t, paD s t, paR s t, ⟨?_, ?_, rfl, rfl, rfl, eqLayout_eq K _ _ (by omega) b1 b2 b3, heldLay_eq K _ _ (by omega) b1 b2 b3, by omega, ?_⟩⟩
  · rw [impl_Valid_eq K _ _ (by omega) g1 g2 g3, ht]
  · unfold spec_ParseLayout.f
    rw [raw_is K s hs hK, ← ht]
    simp only [Option.bind_some]
    rw [ownLay_eq K _ _ (by omega) b1 b2 b3]
    rfl
  · have := szL_bd (paL s t, paD s t) 1048576 1048576 b1 b2 b3
    omega
end Go.Proofs.YtlakjonnkggomaaDoor.Pure
