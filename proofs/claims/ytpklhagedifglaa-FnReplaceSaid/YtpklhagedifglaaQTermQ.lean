/-
  Cut to what this claim uses.
-/
import Derived.Test.YtpklhagedifglaaQ0
import Derived.Test.YtpklhagedifglaaQTermP
namespace Go.Proofs.YtpklhagedifglaaW.PrintMore
set_option linter.unusedVariables false
set_option linter.unusedSimpArgs false
open Go.Proofs Go.Deep
open Go.RowKit Go.Proofs.YtpklhagedifglaaW.PrintWords Go.Proofs.YtpklhagedifglaaW.PrintLast Go.Proofs.YtpklhagedifglaaW.PrintMore
theorem str_info : (Try.prog.info? 9).map (fun i => (i.zero, i.size, i.bytes)) = some (some (.string ⟨#[]⟩), 1, 16) := by kernel_rfl
/-- The texts of a term's parts. -/
def Tm.ps : Tm → List ByteArray
  | .leaf _ => []
  | .un _ x => [x.tx]
  | .bin _ x y => [x.tx, y.tx]
  | .loop _ _ x y => [x.tx, y.tx]
theorem own_empty (w : World) (base : Nat) (h : base ≤ w.heap.size) : Kd.R Kd.string 9 (w.alloc (.cells #[] 9)) base (fun _ => True) (.slice (some ⟨w.heap.size, 0, none⟩) 0 0) [] := by
  refine Kd.R_of_own (enc := Value.string) (h1 := fun _ => rfl) ⟨by simp [encs], .inr ⟨w.heap.size, 0, #[], rfl, h, blk_new w _, Nat.le_refl _, by unfold maxLen; omega, rfl, rfl⟩⟩ (fun _ _ => trivial)
end Go.Proofs.YtpklhagedifglaaW.PrintMore
