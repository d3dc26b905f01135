-- Written for this claim by a program (wip/hyb/hyb.py).
import Derived.Test.YtnehpbkjmmadkaaProg
import Derived.Below
import Derived.Deep.Draws
import Derived.Deep.AppendLies
import Derived.Maps.AppendAt
import Derived.OwnWalk
import Derived.Laws.BytesArg
import Derived.Laws.MakeOwn
import Derived.Laws.OwnMore
import Derived.Deep.OwnRows
import Derived.Tactics
import Derived.Lib.ConvBytes
import Derived.Laws.Slices
import Derived.WalkKit
import Derived.KernelRfl
import Derived.RowKit3
import Derived.Deep.LoopGhost
import Derived.Deep.QuietTactic
import Derived.BigQuiet
import Derived.WideLaws
import Derived.Deep.DeepCutAuto
import Derived.Deep.CutBlock
import Derived.Deep.RegionHeld3
import Derived.Laws.Rows
import Derived.Lib.AppendStr
import Derived.ArgAppend
import Derived.Laws.IdiomCopy
import Derived.OrdersHeld
import Derived.Laws.BitsLemmas
import Derived.RowKit
import Derived.Test.YtnehpbkjmmadkaaWWords
import Derived.Test.YtnehpbkjmmadkaaWLast
import Derived.Test.YtnehpbkjmmadkaaWTab
import Derived.Test.YtnehpbkjmmadkaaWFour
import Derived.Test.YtnehpbkjmmadkaaWQPut
import Derived.Test.YtnehpbkjmmadkaaWApart
import Derived.Test.YtnehpbkjmmadkaaWArr
import Derived.Test.YtnehpbkjmmadkaaWZeros
import Derived.Test.YtnehpbkjmmadkaaWFoot
import Derived.Test.YtnehpbkjmmadkaaWKept
import Derived.Test.YtnehpbkjmmadkaaWShare
import Derived.Test.YtnehpbkjmmadkaaWN
import Derived.Test.YtnehpbkjmmadkaaWFootNe
import Derived.Test.YtnehpbkjmmadkaaWAt
import Derived.Test.YtnehpbkjmmadkaaWEqStruct
import Derived.Test.YtnehpbkjmmadkaaWRepsOne
import Derived.Test.YtnehpbkjmmadkaaWInv
import Derived.Test.YtnehpbkjmmadkaaWInvWords
import Derived.Test.YtnehpbkjmmadkaaWGuard
import Derived.Test.YtnehpbkjmmadkaaWNEv
import Derived.Test.YtnehpbkjmmadkaaWMore
import Derived.Test.YtnehpbkjmmadkaaOwn
namespace Go.Proofs.Ytnehpbkjmmadkaa.Ii
open Go.RowKit Go.Proofs.YtnehpbkjmmadkaaW.PrintWords Go.Proofs.YtnehpbkjmmadkaaW.PrintLast Go.Proofs.YtnehpbkjmmadkaaW.PrintMore
attribute [local go_sem] max2_int min2_int max_two min_two max_three min_three max_four min_four   -- for this text's walks alone
set_option linter.unusedVariables false
set_option linter.unusedSimpArgs false



def errW : Option Int → Value
  | none => .nilIface
  | some c => .iface 0 (.int .i64 c)
theorem errW_none : errW none = .nilIface := rfl
theorem errW_some (c : Int) : errW (some c) = .iface 0 (.int .i64 c) := rfl

theorem info3 : (Try.prog.info? 3).map (fun i => (i.zero, i.size, i.bytes)) = some (some (.int .i64 0), 1, 8) := by kernel_rfl
theorem info4 : (Try.prog.info? 4).map (fun i => (i.zero, i.size, i.bytes)) = some (some (.bool false), 1, 1) := by kernel_rfl
-- the values' own types

end Go.Proofs.Ytnehpbkjmmadkaa.Ii
