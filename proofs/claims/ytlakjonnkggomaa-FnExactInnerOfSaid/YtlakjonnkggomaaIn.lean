-- Written for this claim by a program (wip/hyb/hyb.py).
import Derived.Test.YtlakjonnkggomaaIn0
import Derived.Test.YtlakjonnkggomaaIn1
import Derived.Test.YtlakjonnkggomaaIn2
import Derived.Test.YtlakjonnkggomaaIn3
import Derived.Test.YtlakjonnkggomaaIn4
import Derived.Test.YtlakjonnkggomaaIn5
namespace Go.Proofs.Ytlakjonnkggomaa.In
open Go.RowKit Go.Proofs.YtlakjonnkggomaaW.PrintWords Go.Proofs.YtlakjonnkggomaaW.PrintLast Go.Proofs.YtlakjonnkggomaaW.PrintMore
attribute [local go_sem] max2_int min2_int max_two min_two max_three min_three max_four min_four   -- for this text's walks alone
set_option linter.unusedVariables false
set_option linter.unusedSimpArgs false

end Go.Proofs.Ytlakjonnkggomaa.In
