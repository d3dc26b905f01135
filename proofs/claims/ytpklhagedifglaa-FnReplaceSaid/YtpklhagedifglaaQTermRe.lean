/-
  Cut to what this claim uses.
-/
import Derived.Test.YtpklhagedifglaaQTermT
namespace Go.Proofs.YtpklhagedifglaaW.PrintMore
set_option linter.unusedVariables false
set_option linter.unusedSimpArgs false
open Go.Proofs Go.Deep
open Go.RowKit Go.Proofs.YtpklhagedifglaaW.PrintWords
/-- The text of x is read as x, whatever follows. -/
def Re (x : Tm) : Prop := ∀ (m : Nat) (r' : List UInt8), x.tx.size ≤ m → parse m (x.tx.data.toList ++ r') = some (x, r')
theorem bsz1 (x : UInt8) : (⟨#[x]⟩ : ByteArray).size = 1 := rfl
/-- A part's text is the part's. -/
theorem tmOf_re {x : Tm} (h : Re x) (hx : x.tx.size ≤ 80) : tmOf x.tx.data.toList = some x := by
  unfold tmOf
  rw [if_pos (by rw [← size_list]; exact hx)]
  have := h x.tx.data.toList.length [] (by rw [size_list]; exact Nat.le_refl _)
  rw [List.append_nil] at this
  rw [this]
end Go.Proofs.YtpklhagedifglaaW.PrintMore
