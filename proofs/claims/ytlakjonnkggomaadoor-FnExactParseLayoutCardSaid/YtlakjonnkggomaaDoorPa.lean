-- Written for this claim by a program (wip/hyb/hyb.py).
import Derived.Test.YtlakjonnkggomaaDoorPa0
import Derived.Test.YtlakjonnkggomaaDoorPa1
import Derived.Test.YtlakjonnkggomaaDoorPa2
import Derived.Test.YtlakjonnkggomaaDoorPa3
import Derived.Test.YtlakjonnkggomaaDoorPa4
import Derived.Test.YtlakjonnkggomaaDoorPa5
namespace Go.Proofs.YtlakjonnkggomaaDoor.Pa
open Go.RowKit Go.Proofs.YtlakjonnkggomaaDoorW.PrintWords Go.Proofs.YtlakjonnkggomaaDoorW.PrintLast Go.Proofs.YtlakjonnkggomaaDoorW.PrintMore
attribute [local go_sem] max2_int min2_int max_two min_two max_three min_three max_four min_four   -- for this text's walks alone
set_option linter.unusedVariables false
set_option linter.unusedSimpArgs false

end Go.Proofs.YtlakjonnkggomaaDoor.Pa
