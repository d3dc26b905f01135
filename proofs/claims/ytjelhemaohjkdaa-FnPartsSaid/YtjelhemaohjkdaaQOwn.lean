/-
  Cut to what this claim uses.
-/
import Derived.Deep.RegionLaw
import Derived.Laws.CopyOwn
import Derived.OneCell
import Derived.Test.YtjelhemaohjkdaaProg
import Derived.Test.YtjelhemaohjkdaaQ0
import Derived.Test.YtjelhemaohjkdaaQTermRe
namespace Go.Proofs.YtjelhemaohjkdaaW.PrintMore
open Go.RowKit Go.Proofs.YtjelhemaohjkdaaW.PrintWords Go.Proofs.YtjelhemaohjkdaaW.PrintLast Go.Proofs.YtjelhemaohjkdaaW.PrintMore
set_option linter.unusedVariables false
set_option linter.unusedSimpArgs false
section
variable {P : Program}
end
end Go.Proofs.YtjelhemaohjkdaaW.PrintMore
