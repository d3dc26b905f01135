/-
  Cut to what this claim uses.
-/
import Derived.Test.YtpklhagedifglaaQTermK
namespace Go.Proofs.YtpklhagedifglaaW.PrintMore
set_option linter.unusedVariables false
set_option linter.unusedSimpArgs false
open Go.Proofs Go.Deep
open Go.RowKit Go.Proofs.YtpklhagedifglaaW.PrintWords
end Go.Proofs.YtpklhagedifglaaW.PrintMore
