/-
  Cut to what this claim uses.
-/
import Derived.Test.YtjelhemaohjkdaaQLibFnParts
import Derived.Test.YtjelhemaohjkdaaQVn1
import Derived.Test.YtjelhemaohjkdaaQVn3
import Derived.Test.YtjelhemaohjkdaaQVn4
namespace Go.Proofs.Ytjelhemaohjkdaa.Pure
open Go.RowKit Go.Proofs.Ytjelhemaohjkdaa.Vn Go.Proofs.YtjelhemaohjkdaaW.PrintWords Go.Proofs.YtjelhemaohjkdaaW.PrintLast Go.Proofs.YtjelhemaohjkdaaW.PrintMore
set_option linter.unusedVariables false
set_option linter.unusedSimpArgs false
theorem faT_self (P : List ByteArray) : ∀ (d i k : Nat), d = P.length - i → i ≤ P.length → d < k → P.length ≤ 100 → laws_faTexts.l0 k P P P.length i = some true := by
  intro d
  induction d with
  | zero =>
    intro i k hd hi hk _
    obtain ⟨k, rfl⟩ : ∃ j, k = j + 1 := ⟨k - 1, by omega⟩
    rw [laws_faTexts.l0, if_neg (by omega)]; simp
  | succ d ih =>
    intro i k hd hi hk hl
    obtain ⟨k, rfl⟩ : ∃ j, k = j + 1 := ⟨k - 1, by omega⟩
    rw [laws_faTexts.l0, if_pos (by omega), if_pos (by omega), if_pos (by omega), if_pos (by omega), if_pos rfl, show wrap64 ((i : Int) + 1) = ((i + 1 : Nat) : Int) from by unfold wrap64; omega]
    exact ih (i + 1) k (by omega) (by omega) (by omega) hl
theorem faT_eq (P : List ByteArray) (k : Nat) (h : P.length < k) (hl : P.length ≤ 100) : laws_faTexts.f k P P = some true := by
  unfold laws_faTexts.f
  rw [show mn (P.length : Int) (P.length : Int) = P.length from by unfold mn; split <;> rfl]
  exact faT_self P P.length 0 k (by omega) (by omega) h hl
theorem ps_len (t : Option Tm) : (t.elim [] Tm.ps).length ≤ 2 := by
  cases t with
  | none => simp
  | some t => cases t <;> simp [Tm.ps]
theorem ba_inj {a b : ByteArray} (h : a.data.toList = b.data.toList) : a = b := by
  cases a; cases b; simp only [ByteArray.mk.injEq]; exact Array.toList_inj.1 h
theorem w1 {x : Int} (h : 0 ≤ x) (h2 : x ≤ 1000) : wrap64 x = x := by unfold wrap64; omega
theorem tl1 (c : UInt8) : (ch c).toList = [c] := by rw [Lib.toList_data] <;> rfl
theorem mx_max (a b : Int) : mx a b = max a b := by unfold mx; omega
/-- the end: the text, the size, the levels. -/
theorem parts_law (k : Nat) (s : ByteArray) (hk : 10 ≤ k) : ∀ (t : Tm), tmOf s.data.toList = some t → laws_FnParts.j0 k s t.ps (ch t.sg) false = some true := by
  intro t ht
  obtain ⟨etx, h80⟩ := tmOf_tx ht
  have hsg := tmOf_sg ht
  have hre := tmOf_parts ht
  have hsz := sz_le t (by omega)
  obtain rfl : s = t.tx := ba_inj etx
  clear etx
  obtain ⟨k, rfl⟩ : ∃ j, k = j + 10 := ⟨k - 10, by omega⟩
  have j0 : ∀ (s : ByteArray) (P : List ByteArray) (c : UInt8), laws_FnParts.j0 (k + 10) s P (ch c) false = if c = 91 then laws_FnParts.j1 (k + 9) s P (ch c) 1 0 true else laws_FnParts.j1 (k + 9) s P (ch c) 1 0 (c == 123) := by
    intro s P c
    rw [laws_FnParts.j0, if_neg (by simp), tl1, if_neg (by simp)]
    by_cases h : c = 91
    · rw [if_pos h, if_pos (by rw [h])]
    · rw [if_neg h, if_neg (by simpa using h)]; congr 1; by_cases g : c = 123 <;> simp [g]
  cases t with
  | leaf c =>
    obtain ⟨n1, n2⟩ := sg_not c (.inl hsg)
    rw [show (Tm.leaf c).ps = [] from rfl, show (Tm.leaf c).sg = c from rfl, j0, if_neg n1, show (c == 123) = false by simpa using n2, laws_FnParts.j1, laws_FnParts.l0, if_neg (by simp), if_neg (by simp), if_neg (by simp), if_neg (by simp), if_pos (by rw [tl1]; exact (tl1 c).symm)]
    simp only [impl_SizeOfTerm.f, impl_LevelsOf.f, ht]
    rfl
  | un c x =>
    obtain ⟨n1, n2⟩ := sg_not c (.inr (.inl hsg))
    have hx : x.tx.size ≤ 79 := by simp only [Tm.tx, ByteArray.size_append] at h80; have : (ch c).size = 1 := rfl; omega
    have hxs := sz_le x (by omega)
    have hxt := tmOf_re hre (by omega)
    rw [show (Tm.un c x).ps = [x.tx] from rfl, show (Tm.un c x).sg = c from rfl, j0, if_neg n1, show (c == 123) = false by simpa using n2, laws_FnParts.j1, laws_FnParts.l0, if_pos (by simp), if_pos (by omega), if_pos (by simp)]
    rw [show rdOf ByteArray.empty [x.tx] 0 = x.tx from rfl]
    simp only [impl_SizeOfTerm.f, impl_LevelsOf.f, hxt, Option.bind_some, Option.elim]
    rw [if_neg (by simp), w1 (x := 0 + 1) (by omega) (by omega), laws_FnParts.l0, if_neg (by simp), if_pos (by simp), if_pos (by simp)]
    rw [show rdOf ByteArray.empty [x.tx] 0 = x.tx from rfl, if_pos (by have : (ch c).size = 1 := rfl; omega), if_pos (show (ch c ++ x.tx).toList = (Tm.un c x).tx.toList from rfl)]
    simp only [impl_SizeOfTerm.f, impl_LevelsOf.f, ht, Option.bind_some, Option.elim]
    rw [if_pos (show (Tm.un c x).sz = wrap64 (1 + x.sz) from rfl), mx_max]; simp [Tm.lv]
  | bin c x y =>
    obtain ⟨n1, n2⟩ := sg_not c (.inr (.inr hsg))
    have hx : x.tx.size + y.tx.size ≤ 77 := by simp only [Tm.tx, ByteArray.size_append] at h80; have : (ch c).size = 1 := rfl; have : (⟨#[40]⟩ : ByteArray).size = 1 := rfl; have : (⟨#[41]⟩ : ByteArray).size = 1 := rfl; omega
    have hxs := sz_le x (by omega)
    have hxt := tmOf_re hre.1 (by omega)
    have hys := sz_le y (by omega)
    have hyt := tmOf_re hre.2 (by omega)
    have c1 : (ch c).size = 1 := rfl
    rw [show (Tm.bin c x y).ps = [x.tx, y.tx] from rfl, show (Tm.bin c x y).sg = c from rfl, j0, if_neg n1, show (c == 123) = false by simpa using n2, laws_FnParts.j1, laws_FnParts.l0, if_pos (by simp), if_pos (by omega), if_pos (by simp)]
    rw [show rdOf ByteArray.empty [x.tx, y.tx] 0 = x.tx from rfl]
    simp only [impl_SizeOfTerm.f, impl_LevelsOf.f, hxt, Option.bind_some, Option.elim]
    rw [if_neg (by simp), w1 (x := 0 + 1) (by omega) (by omega), laws_FnParts.l0, if_pos (by simp), if_pos (by omega), if_pos (by simp)]
    rw [show rdOf ByteArray.empty [x.tx, y.tx] (0 + 1) = y.tx from rfl]
    simp only [impl_SizeOfTerm.f, impl_LevelsOf.f, hyt, Option.bind_some, Option.elim]
    rw [if_neg (by simp), w1 (x := 0 + 1 + 1) (by omega) (by omega), laws_FnParts.l0, if_neg (by simp), if_neg (by simp), if_neg (by simp), if_pos (by simp), if_pos (by simp)]
    rw [show rdOf ByteArray.empty [x.tx, y.tx] 0 = x.tx from rfl, show rdOf ByteArray.empty [x.tx, y.tx] 1 = y.tx from rfl]
    have e1 : (⟨#[40]⟩ : ByteArray).size = 1 := rfl
    rw [if_pos (by omega), if_pos (by simp only [ByteArray.size_append]; omega), if_pos (by simp), if_pos (by simp only [ByteArray.size_append]; omega), if_pos (by simp only [ByteArray.size_append]; omega), if_pos (show ((⟨#[40]⟩ : ByteArray) ++ x.tx ++ ch c ++ y.tx ++ (⟨#[41]⟩ : ByteArray)).toList = (Tm.bin c x y).tx.toList from rfl)]
    simp only [impl_SizeOfTerm.f, impl_LevelsOf.f, ht, Option.bind_some, Option.elim]
    rw [if_pos (show (Tm.bin c x y).sz = wrap64 (wrap64 (1 + x.sz) + y.sz) from rfl), mx_max, mx_max]; simp [Tm.lv]
  | loop c u x y =>
    have c1 : (ch c).size = 1 := rfl
    have c2 : (ch u).size = 1 := rfl
    have c3 : (ch (c + 2)).size = 1 := rfl
    have e1 : (⟨#[58]⟩ : ByteArray).size = 1 := rfl
    have e2 : (⟨#[62]⟩ : ByteArray).size = 1 := rfl
    have hsize : (Tm.loop c u x y).tx.size = x.tx.size + y.tx.size + 5 := by simp only [Tm.tx, ByteArray.size_append]; omega
    have hx : x.tx.size + y.tx.size ≤ 75 := by omega
    have hxs := sz_le x (by omega)
    have hxt := tmOf_re hre.1 (by omega)
    have hys := sz_le y (by omega)
    have hyt := tmOf_re hre.2 (by omega)
    have ev : (Tm.loop c u x y).tx.extract 1 2 = ch u := by
      apply ba_inj
      simp [Tm.tx, ByteArray.data_extract, ch]
    have ee : (Tm.loop c u x y).tx.extract ((Tm.loop c u x y).tx.size - 1) (Tm.loop c u x y).tx.size = ch (c + 2) := by
      have g1 : (ch c ++ ch u ++ (⟨#[58]⟩ : ByteArray) ++ x.tx ++ (⟨#[62]⟩ : ByteArray) ++ y.tx).size = (Tm.loop c u x y).tx.size - 1 := by simp only [ByteArray.size_append, hsize]; omega
      have g2 : (Tm.loop c u x y).tx = (ch c ++ ch u ++ (⟨#[58]⟩ : ByteArray) ++ x.tx ++ (⟨#[62]⟩ : ByteArray) ++ y.tx) ++ ch (c + 2) := rfl
      rw [g2]
      exact ByteArray.extract_append_eq_right (by rw [← g2, ← g1]) (by rw [ByteArray.size_append])
    have hf : ∀ (b : Bool), b = true → laws_FnParts.j1 (k + 9) (Tm.loop c u x y).tx [x.tx, y.tx] (ch c) 1 0 b = some true := by
      rintro b rfl
      rw [laws_FnParts.j1, laws_FnParts.l0, if_pos (by simp), if_pos (by omega), if_pos (by simp)]
      rw [show rdOf ByteArray.empty [x.tx, y.tx] 0 = x.tx from rfl]
      simp only [impl_SizeOfTerm.f, impl_LevelsOf.f, hxt, Option.bind_some, Option.elim, if_true]
      rw [if_neg (by omega), w1 (x := 0 + 1) (by omega) (by omega), laws_FnParts.l0, if_pos (by simp), if_pos (by omega), if_pos (by simp)]
      rw [show rdOf ByteArray.empty [x.tx, y.tx] (0 + 1) = y.tx from rfl]
      simp only [impl_SizeOfTerm.f, impl_LevelsOf.f, hyt, Option.bind_some, Option.elim, if_true]
      rw [if_pos (by omega), w1 (x := 0 + 1 + 1) (by omega) (by omega), laws_FnParts.l0, if_neg (by simp), if_neg (by simp), if_pos rfl, if_pos (by omega), if_pos (by omega)]
      rw [w1 (x := ((Tm.loop c u x y).tx.size : Int) - 1) (by omega) (by omega), show (((Tm.loop c u x y).tx.size : Int) - 1).toNat = (Tm.loop c u x y).tx.size - 1 by omega, ev, ee]
      rw [show rdOf ByteArray.empty [x.tx, y.tx] 0 = x.tx from rfl, show rdOf ByteArray.empty [x.tx, y.tx] 1 = y.tx from rfl]
      simp only [ByteArray.size_append]
      rw [if_pos (by omega), if_pos (by omega), if_pos (by simp), if_pos (by omega), if_pos (by omega), if_pos (by simp), if_pos (by omega), if_pos (by omega), if_pos (by omega), if_pos (by omega), if_pos (show (ch c ++ ch u ++ (⟨#[58]⟩ : ByteArray) ++ x.tx ++ (⟨#[62]⟩ : ByteArray) ++ y.tx ++ ch (c + 2)).toList = (Tm.loop c u x y).tx.toList from rfl)]
      simp only [impl_SizeOfTerm.f, impl_LevelsOf.f, ht, Option.bind_some, Option.elim]
      rw [if_pos (show (Tm.loop c u x y).sz = wrap64 (wrap64 (1 + x.sz) + y.sz) from rfl), mx_max, mx_max]; simp [Tm.lv]
    rw [show (Tm.loop c u x y).ps = [x.tx, y.tx] from rfl, show (Tm.loop c u x y).sg = c from rfl, j0]
    rcases hsg with h | h
    · rw [if_pos h]; exact hf true rfl
    · rw [if_neg (by rw [h]; decide)]; exact hf _ (by rw [h]; rfl)
theorem FnParts : laws_FnParts.Pure := by
  intro c hm _ hw
  by_cases h0 : c.length ≤ 1048576
  case neg => exact ⟨1, by unfold laws_FnParts.f; rw [if_pos (by omega)]⟩
  obtain ⟨K, hK⟩ : ∃ K, 1000 ≤ K := ⟨1000, Nat.le_refl _⟩
  obtain ⟨s, es, hs⟩ := drawParts_any (K + 10) c (by omega) (wf_u8 hw) h0
  refine ⟨K + 10, ?_⟩
  have hz : s.size ≤ 1048576 := by omega
  unfold laws_FnParts.f impl_PartsOfTerm.f impl_SignOf.f spec_PartsOfTerm.f spec_SignOf.f impl_TermValid.f spec_TermValid.f impl_SizeOfTerm.f spec_SizeOfTerm.f impl_LevelsOf.f spec_LevelsOf.f
  rw [if_neg (by omega), es]
  simp only [Option.bind_some, if_pos hz]
  rw [faT_eq _ _ (by have := ps_len (tmOf s.data.toList); omega) (by have := ps_len (tmOf s.data.toList); omega)]
  simp only [Option.bind_some, if_true, bne_self_eq_false, Bool.false_eq_true, if_false]
  cases ht : tmOf s.data.toList with
  | none =>
    rw [show K + 10 = (K + 9) + 1 from rfl, laws_FnParts.j0]
    simp [ht, impl_TermValid.f, impl_SizeOfTerm.f, Lib.toList_data]
  | some t => exact parts_law (K + 10) s (by omega) t ht
end Go.Proofs.Ytjelhemaohjkdaa.Pure
