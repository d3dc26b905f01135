/-
  Cut to what this claim uses.
-/
import Derived.Test.YtpklhagedifglaaQTermD
namespace Go.Proofs.YtpklhagedifglaaW.PrintMore
set_option linter.unusedVariables false
set_option linter.unusedSimpArgs false
open Go.Proofs Go.Deep
open Go.RowKit Go.Proofs.YtpklhagedifglaaW.PrintWords
set_option maxRecDepth 100000 in
theorem l1In_walk (x a b : Int) (w : World) : Calls Try.prog 63 #[.int .i64 x, .int .i64 a, .int .i64 b] w fun e w' => e = .returned (.bool (decide (a ≤ x) && decide (x ≤ b))) ∧ w' = w := by
  by_cases h1 : a ≤ x
  · go_enter Try.func63, Try.ntmps63
    go_wp2
    go_ret
    refine ⟨?_, rfl⟩
    show Ending.returned (Value.bool _) = _
    simp [h1]
  · have h1' : x < a := by omega
    go_enter Try.func63, Try.ntmps63
    go_wp2
    go_ret
    refine ⟨?_, rfl⟩
    show Ending.returned (Value.bool _) = _
    simp; omega
/-- Where a byte stands. -/
theorem l13Find_walk (s : ByteArray) (c : UInt8) (hs : s.size ≤ 1000) (w : World) : Calls Try.prog 64 #[.string s, .int .u8 (c.toNat : Int)] w fun e w' => (∃ x : Int, e = .returned (.int .i64 x) ∧ decide (0 ≤ x) = mem1 s.data.toList c) ∧ w' = w := by
  obtain ⟨l, hl⟩ : ∃ l, l = s.data.toList := ⟨_, rfl⟩
  have HL := Aside0.mk hl
  have hz := size_list s
  have HZ := Aside0.mk hz
  have HS := Aside0.mk hs
  clear hl hz hs
  go_enter Try.func64, Try.ntmps64
  go_wp2
  go_loopg [5] s.size (fun kq v5 w' => ∃ (x : Int) (i : Nat), v5 = .int .i64 x ∧ Aside0 (x = (i : Int)) ∧ Aside0 (kq + i = s.size) ∧ w' = w ∧ Aside0 (mem1 s.data.toList c = mem1 (s.data.toList.drop i) c))
  case atStart => exact ⟨0, 0, rfl, ⟨rfl⟩, ⟨by omega⟩, rfl, ⟨by simp⟩⟩
  case round =>
    obtain ⟨x, i, rfl, HX, HK, rfl, HM⟩ := hrel
    obtain rfl := HX.out
    clear HX
    by_cases hi : i < s.size
    · have h1 : (i : Int) < (s.size : Int) := by omega
      have hil : i < s.data.toList.length := by have := HZ.out; omega
      have g1 : s[i] = s.data.toList[i] := byte_at rfl i _ (List.getElem?_eq_getElem hil) hi
      have HD := Aside0.mk (show mem1 s.data.toList c = mem1 (s.data.toList[i] :: s.data.toList.drop (i + 1)) c from by rw [HM.out]; congr 1; exact List.drop_eq_getElem_cons hil)
      generalize s.data.toList[i] = d at g1 HD
      by_cases he : d = c
      · subst he
        have h2 : ((d.toNat : Int) == (d.toNat : Int)) = true := by simp
        go_wp2
        go_ret
        exact ⟨⟨_, rfl, by rw [HD.out]; simp [mem1]⟩, rfl⟩
      · have h2 : ((d.toNat : Int) == (c.toNat : Int)) = false := by simp; intro h; apply he; apply UInt8.toNat_inj.1; exact_mod_cast h
        go_wp2
        go_roundg (gk - 1)
        case measure => have := HK.out; omega
        case rel =>
          refine ⟨_, i + 1, rfl, ⟨?_⟩, ⟨by have := HK.out; omega⟩, rfl, ⟨?_⟩⟩
          · have := HS.out
            first | (rw [wrap64]; omega) | (rw [IntKind.wrap_i64]; omega)
          · rw [HD.out]
            have h7 : ¬ c = d := fun h => he h.symm
            simp [mem1, h7]
    · have h1 : (s.size : Int) ≤ (i : Int) := by omega
      have HE := Aside0.mk hi
      clear hi
      go_wp2
      go_ret
      refine ⟨⟨_, rfl, ?_⟩, rfl⟩
      rw [HM.out, List.drop_eq_nil_of_le (by have := HZ.out; have := HE.out; omega)]; rfl
end Go.Proofs.YtpklhagedifglaaW.PrintMore
