/-
  The text of a layout in the reference: l13Dec, l2Numbers, FormatLayout.
-/
import Derived.Test.YtlakjonnkggomaaDoorFmC
namespace Go.Proofs.YtlakjonnkggomaaDoorW.PrintMore
set_option linter.unusedVariables false
set_option linter.unusedSimpArgs false
open Go.Proofs Go.Deep
open Go.RowKit Go.Proofs.YtlakjonnkggomaaDoorW.PrintWords Go.Proofs.YtlakjonnkggomaaDoorW.PrintLast Go.Proofs.YtlakjonnkggomaaDoorW.PrintMore
def ch (c : UInt8) : ByteArray := ⟨#[c]⟩
theorem conv1 (W : World) (B : Nat) (hB : B = W.heap.size) (c : UInt8) : (convert 81 9 (.slice (some ⟨B, 0, none⟩) 1 1)).run Tryd.prog (W.alloc (.cells #[.int .u8 (c.toNat : Int)] 5)) = .ok (.string (ch c)) (W.alloc (.cells #[.int .u8 (c.toNat : Int)] 5)) := by
  subst hB
  exact run_convert_bytes_back (P := Tryd.prog) _ 81 9 5 ⟨W.heap.size, 0, none⟩ 1 [c] Tryd.underlying81 Tryd.underlying5 Tryd.underlying9 (fun j hj => by
    have : j = 0 := by simp at hj; omega
    subst this
    exact World.cell?_alloc_new _ _ _ _)
theorem conv1d (W : World) (B : Nat) (hB : B = W.heap.size) (d : Nat) (hd : d < 10) : (convert 81 9 (.slice (some ⟨B, 0, none⟩) 1 1)).run Tryd.prog (W.alloc (.cells #[.int .u8 (48 + (d : Int))] 5)) = .ok (.string (ch (UInt8.ofNat (48 + d)))) (W.alloc (.cells #[.int .u8 (48 + (d : Int))] 5)) := by
  have h := conv1 W B hB (UInt8.ofNat (48 + d))
  have e : ((UInt8.ofNat (48 + d)).toNat : Int) = 48 + (d : Int) := by
    have : (UInt8.ofNat (48 + d)).toNat = 48 + d := by simp; omega
    rw [this]; omega
  rw [e] at h
  exact h
theorem u8_dig (d : Nat) (h : d < 10) : IntKind.u8.wrap (48 + (d : Int)) = 48 + (d : Int) := by
  have h1 : (48 + (d : Int)) % 256 = 48 + (d : Int) := by omega
  simp [IntKind.wrap, IntKind.bits, IntKind.signed, h1]
theorem dec_nat (m : Nat) : dec (m : Int) = ⟨(Lib.decDigits m).toArray⟩ := by
  unfold dec Lib.itoa
  rw [if_neg (by omega)]
  simp
theorem dec_step (m : Nat) (h : ¬ m < 10) : dec (m : Int) = dec ((m / 10 : Nat) : Int) ++ ch (UInt8.ofNat (48 + m % 10)) := by
  apply ba_ext
  rw [ba_app, dec_nat, dec_nat]
  show Lib.decDigits m = Lib.decDigits (m / 10) ++ [UInt8.ofNat (48 + m % 10)]
  rw [Lib.decDigits, dif_neg h]
theorem dec_last (m : Nat) (h : m < 10) : dec (m : Int) = ch (UInt8.ofNat (48 + m)) := by
  apply ba_ext
  rw [dec_nat]
  show Lib.decDigits m = [UInt8.ofNat (48 + m)]
  rw [Lib.decDigits, dif_pos h]
theorem dec_neg (m : Nat) (h : 1 ≤ m) : dec (-(m : Int)) = ⟨#[45]⟩ ++ dec (m : Int) := by
  apply ba_ext
  rw [ba_app, dec_list, dec_nat, Lib.itoa_neg m h]
  rfl
theorem ba_assoc (a b c : ByteArray) : a ++ b ++ c = a ++ (b ++ c) := by
  apply ba_ext; rw [ba_app, ba_app, ba_app, ba_app, List.append_assoc]
theorem ba_nil (a : ByteArray) : a ++ (⟨#[]⟩ : ByteArray) = a := by
  apply ba_ext; rw [ba_app]; simp
set_option maxHeartbeats 8000000 in
set_option maxRecDepth 100000 in
theorem l13Dec_nat (w : World) (n : Nat) (hn : n ≤ 9223372036854775807) :
    Calls Tryd.prog 40 #[.int .i64 (n : Int)] w fun e w' => e = .returned (.string (dec (n : Int))) ∧ Below w.heap.size w w' := by
  have a1 : decide ((n : Int) < -9223372036854775807) = false := decide_eq_false (by omega)
  have a2 : decide ((n : Int) < 0) = false := decide_eq_false (by omega)
  have HN := Aside0.mk hn
  clear hn
  go_enter Tryd.func40, Tryd.ntmps40
  go_wp2
  go_loopg [0, 3] n (fun kq v0 v3 w' => ∃ (m : Nat) (o : ByteArray), v0 = .int .i64 (m : Int) ∧ v3 = .string o ∧ Aside0 (m ≤ kq) ∧ Aside0 (m + 2 * o.size ≤ n) ∧ Aside0 (dec (n : Int) = dec (m : Int) ++ o) ∧ Aside0 (Below w.heap.size w w'))
  case atStart => exact ⟨n, ⟨#[]⟩, rfl, rfl, ⟨Nat.le_refl _⟩, ⟨Nat.le_refl _⟩, ⟨(ba_nil _).symm⟩, ⟨Below.refl _ _⟩⟩
  case round =>
    obtain ⟨m, o, rfl, rfl, HI, HZ, HE, HB⟩ := hrel
    by_cases hm : 9 < m
    · have b1 : decide ((m : Int) > 9) = true := decide_eq_true (by omega)
      have b1' : decide (9 < (m : Int)) = true := decide_eq_true (by omega)
      have HM := Aside0.mk hm
      obtain ⟨d, hd⟩ : ∃ d, d = m % 10 := ⟨_, rfl⟩
      have hd10 : d < 10 := by omega
      have r1 : ((m : Int)).tmod 10 = (d : Int) := by rw [Int.tmod_eq_emod_of_nonneg (by omega)]; omega
      have r2 : ((m : Int)).tdiv 10 = ((m / 10 : Nat) : Int) := by rw [Int.tdiv_eq_ediv_of_nonneg (by omega)]; omega
      have r3 : wrap64 ((m : Int) / 10) = ((m / 10 : Nat) : Int) := by have := HI.out; have := HZ.out; have := HN.out; rw [wrap64]; omega
      have HD := Aside0.mk hd
      have HD10 := Aside0.mk hd10
      have e1 : wrap64 (48 + (d : Int)) = 48 + (d : Int) := by rw [wrap64]; omega
      have e2 := u8_dig d hd10
      have cv := conv1d wr wr.heap.size rfl d hd10
      obtain ⟨sx, hsx⟩ : ∃ sx, sx = ch (UInt8.ofNat (48 + d)) := ⟨_, rfl⟩
      rw [← hsx] at cv
      have hs1 : sx.size = 1 := by rw [hsx]; rfl
      have HSX := Aside0.mk hsx
      have HS1 := Aside0.mk hs1
      have f1 : (9223372036854775807 < sx.size + o.size) = False := eq_false (by have := HZ.out; have := HN.out; omega)
      have HBA := Aside0.mk (show Below w.heap.size w (wr.alloc (.cells #[.int .u8 (48 + (d : Int))] 5)) from HB.out.alloc HB.out.size _)
      have HR3 := Aside0.mk r3
      clear hm hd hd10 hs1 hsx r3
      go_wp2
      go_roundg (m / 10)
      case measure => have := HM.out; have := HI.out; omega
      case rel =>
        refine ⟨m / 10, sx ++ o, by rw [HR3.out], rfl, ⟨Nat.le_refl _⟩, ⟨?_⟩, ⟨?_⟩, HBA⟩
        · rw [ByteArray.size_append, HS1.out]; have := HZ.out; have := HM.out; omega
        · rw [HE.out, dec_step m (by have := HM.out; omega), ← HD.out, ← HSX.out, ba_assoc]
    · have b1 : decide ((m : Int) > 9) = false := decide_eq_false (by omega)
      have b1' : decide (9 < (m : Int)) = false := decide_eq_false (by omega)
      have hm10 : m < 10 := by omega
      have e1 : wrap64 (48 + (m : Int)) = 48 + (m : Int) := by rw [wrap64]; omega
      have e2 := u8_dig m hm10
      have cv := conv1d wr wr.heap.size rfl m hm10
      obtain ⟨sx, hsx⟩ : ∃ sx, sx = ch (UInt8.ofNat (48 + m)) := ⟨_, rfl⟩
      rw [← hsx] at cv
      have hs1 : sx.size = 1 := by rw [hsx]; rfl
      have HSX := Aside0.mk hsx
      have HM := Aside0.mk hm10
      have f1 : (9223372036854775807 < sx.size + o.size) = False := eq_false (by have := HZ.out; have := HN.out; omega)
      have HBA := Aside0.mk (show Below w.heap.size w (wr.alloc (.cells #[.int .u8 (48 + (m : Int))] 5)) from HB.out.alloc HB.out.size _)
      clear hm hm10 hs1 hsx
      go_wp2
      go_ret
      refine ⟨?_, HBA.out⟩
      rw [HE.out, dec_last m HM.out, ← HSX.out]
      rfl
set_option maxHeartbeats 8000000 in
set_option maxRecDepth 100000 in
theorem l13Dec_neg (w : World) (z : Int) (h0 : 1 ≤ z) (h1 : z ≤ 9223372036854775807) (sx : ByteArray) (hs : sx.size ≤ 21) (hd : Calls Tryd.prog 40 #[.int .i64 z] w fun e w' => e = .returned (.string sx) ∧ Below w.heap.size w w') :
    Calls Tryd.prog 40 #[.int .i64 (-z)] w fun e w' => e = .returned (.string (⟨#[45]⟩ ++ sx)) ∧ Below w.heap.size w w' := by
  obtain ⟨y, hy⟩ : ∃ y, y = -z := ⟨_, rfl⟩
  rw [← hy]
  have a1 : decide (y < -9223372036854775807) = false := decide_eq_false (by omega)
  have a2 : decide (y < 0) = true := decide_eq_true (by omega)
  have a3 : wrap64 (-y) = z := by rw [wrap64]; omega
  have HD := Aside0.mk hd
  have f1 : (9223372036854775807 < 1 + sx.size) = False := eq_false (by omega)
  clear h0 h1 hs hd hy
  go_enter Tryd.func40, Tryd.ntmps40
  go_wp2_with fail
  refine HD.out.mono ?_
  rintro e w2 ⟨rfl, hb⟩
  have HB := Aside0.mk hb
  clear hb
  go_wp2
  go_ret
  exact ⟨rfl, HB.out⟩
theorem dec_least : dec (-9223372036854775808) = ⟨#[45, 57, 50, 50, 51, 51, 55, 50, 48, 51, 54, 56, 53, 52, 55, 55, 53, 56, 48, 56]⟩ := by
  apply ba_ext
  rw [dec_list]
  unfold Lib.itoa
  rw [if_pos (by omega)]
  show 45 :: Lib.decDigits 9223372036854775808 = _
  simp [Lib.decDigits]
theorem l13Dec_walk (w : World) (n : Int) (h0 : -9223372036854775808 ≤ n) (h1 : n ≤ 9223372036854775807) :
    Calls Tryd.prog 40 #[.int .i64 n] w fun e w' => e = .returned (.string (dec n)) ∧ Below w.heap.size w w' := by
  by_cases hn : 0 ≤ n
  · have e : n = ((n.toNat : Nat) : Int) := by omega
    rw [e]
    exact l13Dec_nat w n.toNat (by omega)
  · by_cases hl : n = -9223372036854775808
    · subst hl
      rw [dec_least]
      go_enter Tryd.func40, Tryd.ntmps40
      go_wp2
      go_ret
      exact ⟨rfl, Below.refl _ _⟩
    · have e : n = -(((-n).toNat : Nat) : Int) := by omega
      rw [e]
      have h3 := dec_neg (-n).toNat (by omega)
      rw [h3]
      exact l13Dec_neg w (((-n).toNat : Nat) : Int) (by omega) (by omega) _ (dec_size _ (by omega) (by omega)) (l13Dec_nat w (-n).toNat (by omega))
end Go.Proofs.YtlakjonnkggomaaDoorW.PrintMore
