/-
  Cut to what this claim uses.
-/
import Derived.Test.YtpklhagedifglaaQTermC
namespace Go.Proofs.YtpklhagedifglaaW.PrintMore
set_option linter.unusedVariables false
set_option linter.unusedSimpArgs false
open Go.Proofs Go.Deep
open Go.RowKit Go.Proofs.YtpklhagedifglaaW.PrintWords
theorem loop_no (w : World) (p : Nat) (h : w.cell? ⟨p, 1, none⟩ = some (.string ⟨#[]⟩)) : Calls Try.prog 42 #[.pointer (some ⟨p, 0, none⟩)] w fun e w' => e = .returned (.bool false) ∧ w' = w := by
  go_enter Try.func42, Try.ntmps42
  go_wp2
  go_ret
  exact ⟨rfl, rfl⟩
theorem loop_yes (w : World) (p : Nat) (u : UInt8) (h : w.cell? ⟨p, 1, none⟩ = some (.string (ch u))) : Calls Try.prog 42 #[.pointer (some ⟨p, 0, none⟩)] w fun e w' => e = .returned (.bool true) ∧ w' = w := by
  go_enter Try.func42, Try.ntmps42
  go_wp2
  go_ret
  exact ⟨rfl, rfl⟩
/-- How many terms there are in a term. -/
def Tm.sz : Tm → Int
  | .leaf _ => 1
  | .un _ x => wrap64 (1 + x.sz)
  | .bin _ x y => wrap64 (wrap64 (1 + x.sz) + y.sz)
  | .loop _ _ x y => wrap64 (wrap64 (1 + x.sz) + y.sz)
end Go.Proofs.YtpklhagedifglaaW.PrintMore
