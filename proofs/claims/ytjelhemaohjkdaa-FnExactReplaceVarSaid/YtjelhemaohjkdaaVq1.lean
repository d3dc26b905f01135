-- Written for this claim by a program (wip/hyb/hyb.py).
import Derived.Test.YtjelhemaohjkdaaVq0
namespace Go.Proofs.Ytjelhemaohjkdaa.Vq
open Go.RowKit Go.Proofs.YtjelhemaohjkdaaW.PrintWords Go.Proofs.YtjelhemaohjkdaaW.PrintLast Go.Proofs.YtjelhemaohjkdaaW.PrintMore
attribute [local go_sem] max2_int min2_int max_two min_two max_three min_three max_four min_four   -- for this text's walks alone
set_option linter.unusedVariables false
set_option linter.unusedSimpArgs false

/-! ### spec_ReplaceVar: function 27 -/
def spec_ReplaceVar.f (a0 a1 a2 : ByteArray) : Option (ByteArray × Bool) := if a0.size ≤ 1048576 ∧ a1.size ≤ 1048576 ∧ a2.size ≤ 1048576 then some ((repl a0 a1 a2).elim (⟨#[]⟩, false) fun r => (r, true)) else none
theorem spec_ReplaceVar.calls (a0 a1 a2 : ByteArray) (r1 : ByteArray) (r2 : Bool) (w : World) (h : spec_ReplaceVar.f a0 a1 a2 = some (r1, r2)) :
    Calls Try.prog 27 #[.string a0, .string a1, .string a2] w fun e w' => e = .returned (.tuple #[.string r1, .bool r2]) ∧ Below w.heap.size w w' := by
  unfold spec_ReplaceVar.f at h
  by_cases hs : a0.size ≤ 1048576 ∧ a1.size ≤ 1048576 ∧ a2.size ≤ 1048576
  case neg => rw [if_neg hs] at h; cases h
  rw [if_pos hs] at h
  have e := Option.some.inj h
  refine (spec_ReplaceVar_walk a0 a1 a2 w hs.1 hs.2.1 hs.2.2).mono fun e' w' hh => ⟨?_, hh.2⟩
  rw [hh.1]
  cases ht : repl a0 a1 a2 with
  | none => rw [ht] at e; simp only [Option.elim_none, Prod.mk.injEq] at e; obtain ⟨rfl, rfl⟩ := e; rfl
  | some t => rw [ht] at e; simp only [Option.elim_some, Prod.mk.injEq] at e; obtain ⟨rfl, rfl⟩ := e; rfl

/-! ### impl_ReplaceVar: function 28 -/
def impl_ReplaceVar.f (a0 a1 a2 : ByteArray) : Option (ByteArray × Bool) := some ((repl a0 a1 a2).elim (⟨#[]⟩, false) fun r => (r, true))
theorem impl_ReplaceVar.calls (a0 a1 a2 : ByteArray) (r1 : ByteArray) (r2 : Bool) (w : World) (h : impl_ReplaceVar.f a0 a1 a2 = some (r1, r2)) :
    Calls Try.prog 28 #[.string a0, .string a1, .string a2] w fun e w' => e = .returned (.tuple #[.string r1, .bool r2]) ∧ Below w.heap.size w w' := by
  have e := Option.some.inj h
  refine (impl_ReplaceVar_walk a0 a1 a2 w).mono fun e' w' hh => ⟨?_, hh.2⟩
  rw [hh.1]
  cases ht : repl a0 a1 a2 with
  | none => rw [ht] at e; simp only [Option.elim_none, Prod.mk.injEq] at e; obtain ⟨rfl, rfl⟩ := e; rfl
  | some t => rw [ht] at e; simp only [Option.elim_some, Prod.mk.injEq] at e; obtain ⟨rfl, rfl⟩ := e; rfl

end Go.Proofs.Ytjelhemaohjkdaa.Vq
