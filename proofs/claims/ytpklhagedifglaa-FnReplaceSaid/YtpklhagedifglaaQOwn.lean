/-
  Cut to what this claim uses.
-/
import Derived.Deep.RegionLaw
import Derived.Laws.CopyOwn
import Derived.OneCell
import Derived.Test.YtpklhagedifglaaProg
import Derived.Test.YtpklhagedifglaaQ0
import Derived.Test.YtpklhagedifglaaQTermOk
namespace Go.Proofs.YtpklhagedifglaaW.PrintMore
open Go.RowKit Go.Proofs.YtpklhagedifglaaW.PrintWords Go.Proofs.YtpklhagedifglaaW.PrintLast Go.Proofs.YtpklhagedifglaaW.PrintMore
set_option linter.unusedVariables false
set_option linter.unusedSimpArgs false
section
variable {P : Program}
end
end Go.Proofs.YtpklhagedifglaaW.PrintMore
