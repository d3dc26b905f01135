/-
  Cut to what this claim uses.
-/
import Derived.Test.YtpklhagedifglaaQTermB
namespace Go.Proofs.YtpklhagedifglaaW.PrintMore
set_option linter.unusedVariables false
set_option linter.unusedSimpArgs false
open Go.Proofs Go.Deep
open Go.RowKit Go.Proofs.YtpklhagedifglaaW.PrintWords
/-- The term of a text. -/
def tmOf (l : List UInt8) : Option Tm := if l.length ≤ 80 then (match parse l.length l with | some (t, []) => some t | _ => none) else none
/-- What termOf answers. -/
def TO (l : List UInt8) (w : World) (e : Ending) (w' : World) : Prop :=
  ∃ v, e = .returned v ∧ Below w.heap.size w w' ∧ ((∃ t, tmOf l = some t ∧ TmAt w' v t) ∨ (tmOf l = none ∧ v = .pointer none))
theorem size_list (s : ByteArray) : s.size = s.data.toList.length := by rw [Array.length_toList, ByteArray.size_data]
set_option maxHeartbeats 2000000 in
set_option maxRecDepth 100000 in
theorem termOf_walk (s : ByteArray) (w : World) : Calls Try.prog 20 #[.string s] w fun e w' => TO s.data.toList w e w' := by
  have hz := size_list s
  by_cases h : s.data.toList.length ≤ 80
  case neg =>
    have h1 : 80 < (s.size : Int) := by omega
    have HP := Aside0.mk (show tmOf s.data.toList = none from by unfold tmOf; rw [if_neg h])
    clear hz h
    go_enter Try.func20, Try.ntmps20
    go_wp2
    go_ret
    exact ⟨_, rfl, Below.refl _ _, .inr ⟨HP.out, rfl⟩⟩
  have h1 : (s.size : Int) ≤ 80 := by omega
  have HZ := Aside0.mk h
  clear hz h
  go_enter Try.func20, Try.ntmps20
  go_wp2_with fail
  refine (readTerm_walk s.data.toList.length s _ (Nat.le_refl _)).mono ?_
  rintro e w1 ⟨v, rs, rfl, hb, hres⟩
  have HB := Aside0.mk hb
  clear hb
  rcases hres with ⟨t, hp, hat⟩ | ⟨hp, rfl⟩
  · obtain ⟨p, rfl⟩ := tm_ptr hat
    have HP := Aside0.mk hp
    have HA := Aside0.mk hat
    clear hp hat
    rcases hl : rs.data.toList with _ | ⟨a, u⟩
    · have he : rs.toList.isEmpty = true := by rw [Lib.toList_data, hl]; rfl
      have HL := Aside0.mk hl
      clear hl
      go_wp2
      go_ret
      have e := HP.out
      rw [HL.out] at e
      exact ⟨_, rfl, HB.out, .inl ⟨t, by unfold tmOf; rw [if_pos HZ.out, e], HA.out⟩⟩
    · have he : rs.toList.isEmpty = false := by rw [Lib.toList_data, hl]; rfl
      have HL := Aside0.mk hl
      clear hl
      go_wp2
      go_ret
      have e := HP.out
      rw [HL.out] at e
      exact ⟨_, rfl, HB.out, .inr ⟨by unfold tmOf; rw [if_pos HZ.out, e], rfl⟩⟩
  · have HP := Aside0.mk (show tmOf s.data.toList = none from by unfold tmOf; rw [if_pos HZ.out, hp])
    clear hp
    rcases he : rs.toList.isEmpty with _ | _
    all_goals
      go_wp2
      go_ret
      exact ⟨_, rfl, HB.out, .inr ⟨HP.out, rfl⟩⟩
def Tm.sg : Tm → UInt8
  | .leaf c => c
  | .un c _ => c
  | .bin c _ _ => c
  | .loop c _ _ _ => c
end Go.Proofs.YtpklhagedifglaaW.PrintMore
