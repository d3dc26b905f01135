/-
  Cut to what this claim uses.
-/
import Derived.Laws.IdiomStrings
import Derived.Test.YtpklhagedifglaaQTermL
namespace Go.Proofs.YtpklhagedifglaaW.PrintMore
set_option linter.unusedVariables false
set_option linter.unusedSimpArgs false
open Go.Proofs Go.Deep
open Go.RowKit Go.Proofs.YtpklhagedifglaaW.PrintWords
/-- One byte as a text. -/
theorem conv1 (W : World) (B : Nat) (hB : B = W.heap.size) (c : UInt8) : (convert 22 9 (.slice (some ⟨B, 0, none⟩) 1 1)).run Try.prog (W.alloc (.cells #[.int .u8 (c.toNat : Int)] 5)) = .ok (.string (ch c)) (W.alloc (.cells #[.int .u8 (c.toNat : Int)] 5)) := by
  subst hB
  exact run_convert_bytes_back (P := Try.prog) _ 22 9 5 ⟨W.heap.size, 0, none⟩ 1 [c] Try.underlying22 Try.underlying5 Try.underlying9 (fun j hj => by
    have : j = 0 := by simp at hj; omega
    subst this
    exact World.cell?_alloc_new _ _ _ _)
end Go.Proofs.YtpklhagedifglaaW.PrintMore
