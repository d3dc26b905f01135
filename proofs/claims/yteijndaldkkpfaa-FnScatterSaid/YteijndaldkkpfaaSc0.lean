-- Written for this claim by a program (wip/hyb/hyb.py).
import Derived.Test.YteijndaldkkpfaaProg
import Derived.Below
import Derived.Deep.Draws
import Derived.Deep.AppendLies
import Derived.Maps.AppendAt
import Derived.OwnWalk
import Derived.Laws.BytesArg
import Derived.Laws.MakeOwn
import Derived.Laws.OwnMore
import Derived.Deep.OwnRows
import Derived.Tactics
import Derived.Lib.ConvBytes
import Derived.Laws.Slices
import Derived.WalkKit
import Derived.KernelRfl
import Derived.RowKit3
import Derived.Deep.LoopGhost
import Derived.Deep.QuietTactic
import Derived.BigQuiet
import Derived.WideLaws
import Derived.Deep.DeepCutAuto
import Derived.Deep.CutBlock
import Derived.Deep.RegionHeld3
import Derived.Laws.Rows
import Derived.Lib.AppendStr
import Derived.ArgAppend
import Derived.Laws.IdiomCopy
import Derived.OrdersHeld
import Derived.Laws.BitsLemmas
import Derived.RowKit
import Derived.Test.YteijndaldkkpfaaWWords
import Derived.Test.YteijndaldkkpfaaWLast
import Derived.Test.YteijndaldkkpfaaWTab
import Derived.Test.YteijndaldkkpfaaWFour
import Derived.Test.YteijndaldkkpfaaWQPut
import Derived.Test.YteijndaldkkpfaaWApart
import Derived.Test.YteijndaldkkpfaaWArr
import Derived.Test.YteijndaldkkpfaaWZeros
import Derived.Test.YteijndaldkkpfaaWFoot
import Derived.Test.YteijndaldkkpfaaWKept
import Derived.Test.YteijndaldkkpfaaWShare
import Derived.Test.YteijndaldkkpfaaWN
import Derived.Test.YteijndaldkkpfaaWFootNe
import Derived.Test.YteijndaldkkpfaaWAt
import Derived.Test.YteijndaldkkpfaaWEqStruct
import Derived.Test.YteijndaldkkpfaaWRepsOne
import Derived.Test.YteijndaldkkpfaaWInv
import Derived.Test.YteijndaldkkpfaaWInvWords
import Derived.Test.YteijndaldkkpfaaWGuard
import Derived.Test.YteijndaldkkpfaaWNEv
import Derived.Test.YteijndaldkkpfaaWMore
import Derived.Test.YteijndaldkkpfaaOwn
namespace Go.Proofs.Yteijndaldkkpfaa.Sc
open Go.RowKit Go.Proofs.YteijndaldkkpfaaW.PrintWords Go.Proofs.YteijndaldkkpfaaW.PrintLast Go.Proofs.YteijndaldkkpfaaW.PrintMore
attribute [local go_sem] max2_int min2_int max_two min_two max_three min_three max_four min_four   -- for this text's walks alone
set_option linter.unusedVariables false
set_option linter.unusedSimpArgs false



def errW : Option Int → Value
  | none => .nilIface
  | some c => .iface 0 (.int .i64 c)
theorem errW_none : errW none = .nilIface := rfl
theorem errW_some (c : Int) : errW (some c) = .iface 0 (.int .i64 c) := rfl

theorem info3 : (Try.prog.info? 3).map (fun i => (i.zero, i.size, i.bytes)) = some (some (.int .i64 0), 1, 8) := by kernel_rfl
theorem info4 : (Try.prog.info? 4).map (fun i => (i.zero, i.size, i.bytes)) = some (some (.bool false), 1, 1) := by kernel_rfl
theorem info5 : (Try.prog.info? 5).map (fun i => (i.zero, i.size, i.bytes)) = some (some (.int .u8 0), 1, 1) := by kernel_rfl
-- the values' own types

end Go.Proofs.Yteijndaldkkpfaa.Sc
