/-
  Cut to what this claim uses.
-/
import Derived.BigRegion
import Derived.Deep.RegionHeld3
import Derived.Test.YtpklhagedifglaaQTermQ
namespace Go.Proofs.YtpklhagedifglaaW.PrintMore
set_option linter.unusedVariables false
set_option linter.unusedSimpArgs false
open Go.Proofs Go.Deep
open Go.RowKit Go.Proofs.YtpklhagedifglaaW.PrintWords Go.Proofs.YtpklhagedifglaaW.PrintLast Go.Proofs.YtpklhagedifglaaW.PrintMore
/-- The instructions of a term. -/
def Tm.cs : Tm → List ByteArray
  | .leaf c => [ch c]
  | .un c x => x.cs ++ [ch c]
  | .bin c x y => x.cs ++ y.cs ++ [ch c]
  | .loop c u x y => x.cs ++ [ch c ++ ch u] ++ y.cs ++ [ch (c + 2)]
end Go.Proofs.YtpklhagedifglaaW.PrintMore
