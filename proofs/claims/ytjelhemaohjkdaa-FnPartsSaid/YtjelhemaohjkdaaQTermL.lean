/-
  Cut to what this claim uses.
-/
import Derived.Test.YtjelhemaohjkdaaQTermK
namespace Go.Proofs.YtjelhemaohjkdaaW.PrintMore
set_option linter.unusedVariables false
set_option linter.unusedSimpArgs false
open Go.Proofs Go.Deep
open Go.RowKit Go.Proofs.YtjelhemaohjkdaaW.PrintWords
set_option maxHeartbeats 4000000 in
set_option maxRecDepth 100000 in
theorem spec_TermValid_walk (s : ByteArray) (w : World) (hs : s.size ≤ 1048576) : Calls Try.prog 14 #[.string s] w fun e w' => e = .returned (.bool (tmOf s.data.toList).isSome) ∧ Below w.heap.size w w' := by
  have HS := Aside0.mk hs
  clear hs
  go_enter Try.func14, Try.ntmps14
  go_wp2_with fail
  refine (l5Read_walk s _ HS.out).mono ?_
  rintro e w1 ⟨a, c, A, m, k, rfl, hb, -, -⟩
  have HB := Aside0.mk hb
  clear hb
  unfold ndV
  go_wp2
  go_ret
  exact ⟨rfl, HB.out.alloc HB.out.size _⟩
end Go.Proofs.YtjelhemaohjkdaaW.PrintMore
