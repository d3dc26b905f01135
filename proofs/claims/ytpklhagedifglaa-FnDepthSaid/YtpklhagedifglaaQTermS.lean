/-
  Cut to what this claim uses.
-/
import Derived.BigRegion
import Derived.Deep.RegionHeld3
import Derived.Test.YtpklhagedifglaaQTermQ
namespace Go.Proofs.YtpklhagedifglaaW.PrintMore
set_option linter.unusedVariables false
set_option linter.unusedSimpArgs false
open Go.Proofs Go.Deep
open Go.RowKit Go.Proofs.YtpklhagedifglaaW.PrintWords Go.Proofs.YtpklhagedifglaaW.PrintLast Go.Proofs.YtpklhagedifglaaW.PrintMore
end Go.Proofs.YtpklhagedifglaaW.PrintMore
