/-
  Plain lemmas on what the functions compute: lists and numbers alone.
-/
import Derived.Test.YtjelhemaohjkdaaVq0
namespace Go.Proofs.Ytjelhemaohjkdaa.Vq
open Go.RowKit Go.Proofs.YtjelhemaohjkdaaW.PrintWords Go.Proofs.YtjelhemaohjkdaaW.PrintLast Go.Proofs.YtjelhemaohjkdaaW.PrintMore
set_option linter.unusedVariables false
set_option linter.unusedSimpArgs false

end Go.Proofs.Ytjelhemaohjkdaa.Vq
