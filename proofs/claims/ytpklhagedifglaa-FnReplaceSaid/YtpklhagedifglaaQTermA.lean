/-
  Cut to what this claim uses.
-/
import Derived.Laws.Cover1
import Derived.Lib.Bytealg
import Derived.Lib.Slices
import Derived.Lib.Strings
import Derived.Lib.Walk
import Derived.Test.YtpklhagedifglaaProg
import Derived.WalkKit
namespace Go.Proofs.YtpklhagedifglaaW.PrintMore
set_option linter.unusedVariables false
set_option linter.unusedSimpArgs false
open Go.Proofs
open Go.RowKit
set_option maxHeartbeats 1000000 in
set_option maxRecDepth 100000 in
theorem tm_sliteIndexByte (s : ByteArray) (c : Int) (w : World) :
    Calls Try.prog 95 #[.string s, .int .u8 c] w fun e w' => e = .returned (.int .i64 (Lib.indexByte s.data.toList c.toNat.toUInt8)) ∧ w' = w := by
  go_enter Try.func95, Try.ntmps95
  go_wp2
  rw [run_callFunc_extern Try.func100 (by kernel_rfl) (by kernel_rfl) (by kernel_rfl) (e := Extern.BytealgIndexByte.indexByte) (by kernel_rfl), Lib.run_indexByteString]
  simp only [Result.andThen]
  rw [Oper.upon_value]
  go_wp2
  go_ret
  exact ⟨rfl, rfl⟩
set_option maxHeartbeats 2000000 in
set_option maxRecDepth 100000 in
theorem tm_sliteIndex (s : ByteArray) (c : UInt8) (w : World) :
    Calls Try.prog 88 #[.string s, .string ⟨#[c]⟩] w fun e w' => e = .returned (.int .i64 (Lib.indexByte s.data.toList c)) ∧ w' = w := by
  go_enter Try.func88, Try.ntmps88
  go_wp2_with (go_at_call 95; refine (tm_sliteIndexByte _ _ _).mono ?_; rintro e w' ⟨rfl, rfl⟩)
  · have h : ([c] == s.toList) = true := by assumption
    go_ret
    refine ⟨?_, rfl⟩
    have e : s.data.toList = [c] := by rw [← Lib.toList_data]; exact (beq_iff_eq.1 h).symm
    rw [e]
    simp [Lib.indexByte]
  · go_ret
    exact ⟨rfl, rfl⟩
set_option maxHeartbeats 1000000 in
theorem tm_index (s : ByteArray) (c : UInt8) (w : World) :
    Calls Try.prog 72 #[.string s, .string ⟨#[c]⟩] w fun e w' => e = .returned (.int .i64 (Lib.indexByte s.data.toList c)) ∧ w' = w := by
  go_enter Try.func72, Try.ntmps72
  go_wp2_with (go_at_call 88; refine (tm_sliteIndex _ _ _).mono ?_; rintro e w' ⟨rfl, rfl⟩)
  go_ret
  exact ⟨rfl, rfl⟩
theorem tm_indexByte_mem (l : List UInt8) (c : UInt8) : decide (0 ≤ Lib.indexByte l c) = l.contains c := by
  induction l with
  | nil => simp [Lib.indexByte]
  | cons a t ih =>
    have hg := Lib.indexByte_ge t c
    rw [List.contains_cons, ← ih, Lib.indexByte]
    by_cases h : a = c
    · subst h; simp
    · have h1 : (a == c) = false := by simp [h]
      have h2 : (c == a) = false := by simp; exact fun e => h e.symm
      rw [h1, h2]
      by_cases h3 : Lib.indexByte t c = -1
      · simp [h3]
      · have h4 : (Lib.indexByte t c == -1) = false := by simp [h3]
        rw [h4]
        simp only [Bool.false_eq_true, if_false, Bool.false_or, decide_eq_decide]
        omega
set_option maxHeartbeats 1000000 in
/-- strings.Contains at one byte. -/
theorem tm_contains (s : ByteArray) (c : UInt8) (w : World) :
    Calls Try.prog 56 #[.string s, .string ⟨#[c]⟩] w fun e w' => e = .returned (.bool (s.data.toList.contains c)) ∧ w' = w := by
  rw [← tm_indexByte_mem]
  go_enter Try.func56, Try.ntmps56
  go_wp2_with (go_at_call 72; refine (tm_index _ _ _).mono ?_; rintro e w' ⟨rfl, rfl⟩)
  go_ret
  exact ⟨rfl, rfl⟩
set_option maxHeartbeats 1000000 in
theorem tm_sliteHasPrefix (s p : ByteArray) (w : World) :
    Calls Try.prog 73 #[.string s, .string p] w fun e w' => e = .returned (.bool (Lib.hasPrefix s.data.toList p.data.toList)) ∧ w' = w := by
  rw [← Lib.hasPrefix_of_take, ← Lib.size_eq, ← Lib.size_eq]
  go_enter Try.func73, Try.ntmps73
  go_wp2
  · rename_i h
    go_ret
    refine ⟨?_, rfl⟩
    show Ending.returned (Value.bool ((s.extract 0 p.size).toList == p.toList)) = _
    rw [Lib.extract_toList, Lib.toList_data]
    simp [h]
  · rename_i h
    go_ret
    refine ⟨?_, rfl⟩
    show Ending.returned (Value.bool false) = _
    simp [h]
set_option maxHeartbeats 1000000 in
theorem tm_hasPrefix (s p : ByteArray) (w : World) :
    Calls Try.prog 60 #[.string s, .string p] w fun e w' => e = .returned (.bool (Lib.hasPrefix s.data.toList p.data.toList)) ∧ w' = w := by
  go_enter Try.func60, Try.ntmps60
  go_wp2_with (go_at_call 73; refine (tm_sliteHasPrefix _ _ _).mono ?_; rintro e w' ⟨rfl, rfl⟩)
  go_ret
  exact ⟨rfl, rfl⟩
/-- Is a byte one of a list's? -/
def mem1 (l : List UInt8) (c : UInt8) : Bool := l.contains c
theorem tm_containsM (s : ByteArray) (c : UInt8) (w : World) :
    Calls Try.prog 56 #[.string s, .string ⟨#[c]⟩] w fun e w' => e = .returned (.bool (mem1 s.data.toList c)) ∧ w' = w := tm_contains s c w
/-- Does a list begin with a byte? -/
def pre1 (l : List UInt8) (c : UInt8) : Bool := l.head? == some c
theorem tm_prefix1 (s : ByteArray) (c : UInt8) (w : World) :
    Calls Try.prog 60 #[.string s, .string ⟨#[c]⟩] w fun e w' => e = .returned (.bool (pre1 s.data.toList c)) ∧ w' = w := by
  have h : pre1 s.data.toList c = Lib.hasPrefix s.data.toList [c] := by
    unfold pre1 Lib.hasPrefix
    cases s.data.toList with
    | nil => rfl
    | cons a t =>
      by_cases h : a = c
      · subst h; simp
      · have h' : ¬ c = a := fun e => h e.symm
        have e1 : (a == c) = false := by simp [h]
        have e2 : (c == a) = false := by simp [h']
        rw [List.head?_cons, List.isPrefixOf, e2]
        simp [h]
  rw [h]
  exact tm_hasPrefix s ⟨#[c]⟩ w
/-- impl.varOk at one byte. -/
def isVar (c : UInt8) : Bool := [97, 98, 118, 119, 120, 121, 122].contains c
set_option maxHeartbeats 1000000 in
theorem tm_varOk1 (c : UInt8) (w : World) :
    Calls Try.prog 32 #[.string ⟨#[c]⟩] w fun e w' => e = .returned (.bool (isVar c)) ∧ w' = w := by
  go_enter Try.func32, Try.ntmps32
  go_wp2_with (go_at_call 56; refine (tm_contains _ _ _).mono ?_; rintro e w' ⟨rfl, rfl⟩)
  go_ret
  refine ⟨?_, rfl⟩
  show Ending.returned (Value.bool _) = _
  simp [isVar]
theorem tm_ends91 (w : World) : Calls Try.prog 55 #[.string ⟨#[91]⟩] w fun e w' => e = .returned (.string ⟨#[93]⟩) ∧ w' = w := by
  go_enter Try.func55, Try.ntmps55
  go_wp2
  go_ret
  exact ⟨rfl, rfl⟩
theorem tm_ends123 (w : World) : Calls Try.prog 55 #[.string ⟨#[123]⟩] w fun e w' => e = .returned (.string ⟨#[125]⟩) ∧ w' = w := by
  go_enter Try.func55, Try.ntmps55
  go_wp2
  go_ret
  exact ⟨rfl, rfl⟩
end Go.Proofs.YtpklhagedifglaaW.PrintMore
