-- Written by a changed copy of the print (some functions are given by contracts of this session): text of this seat
import Derived.Test.YtgpoolcaooiemaaProg
import Derived.Below
import Derived.Deep.Draws
import Derived.Deep.AppendLies
import Derived.Maps.AppendAt
import Derived.OwnWalk
import Derived.Laws.BytesArg
import Derived.Laws.MakeOwn
import Derived.Laws.OwnMore
import Derived.Deep.OwnRows
import Derived.Tactics
import Derived.Lib.ConvBytes
import Derived.Laws.Slices
import Derived.WalkKit
import Derived.KernelRfl
import Derived.RowKit3
import Derived.Deep.LoopGhost
import Derived.Deep.QuietTactic
import Derived.BigQuiet
import Derived.WideLaws
import Derived.Deep.DeepCutAuto
import Derived.Deep.CutBlock
import Derived.Deep.RegionHeld3
import Derived.Laws.Rows
import Derived.Lib.AppendStr
import Derived.ArgAppend
import Derived.Laws.IdiomCopy
import Derived.OrdersHeld
import Derived.Laws.BitsLemmas
import Derived.RowKit
import Derived.Test.YtgpoolcaooiemaaGiven
import Derived.Test.YtgpoolcaooiemaaWWords
import Derived.Test.YtgpoolcaooiemaaWLast
import Derived.Test.YtgpoolcaooiemaaWTab
import Derived.Test.YtgpoolcaooiemaaWFour
import Derived.Test.YtgpoolcaooiemaaWQPut
import Derived.Test.YtgpoolcaooiemaaWApart
import Derived.Test.YtgpoolcaooiemaaWArr
import Derived.Test.YtgpoolcaooiemaaWZeros
import Derived.Test.YtgpoolcaooiemaaWFoot
import Derived.Test.YtgpoolcaooiemaaWKept
import Derived.Test.YtgpoolcaooiemaaWShare
import Derived.Test.YtgpoolcaooiemaaWN
import Derived.Test.YtgpoolcaooiemaaWFootNe
import Derived.Test.YtgpoolcaooiemaaWAt
import Derived.Test.YtgpoolcaooiemaaWEqStruct
import Derived.Test.YtgpoolcaooiemaaWRepsOne
import Derived.Test.YtgpoolcaooiemaaWInv
import Derived.Test.YtgpoolcaooiemaaWInvWords
import Derived.Test.YtgpoolcaooiemaaWGuard
import Derived.Test.YtgpoolcaooiemaaWNEv
import Derived.Test.YtgpoolcaooiemaaWMore
namespace Go.Proofs.Ytgpoolcaooiemaa.PCtrSteps
open Go.RowKit Go.Proofs.YtgpoolcaooiemaaW.PrintWords Go.Proofs.YtgpoolcaooiemaaW.PrintLast Go.Proofs.YtgpoolcaooiemaaW.PrintMore
attribute [local go_sem] max2_int min2_int max_two min_two max_three min_three max_four min_four   -- for this text's walks alone
set_option linter.unusedVariables false
set_option linter.unusedSimpArgs false

attribute [local go_sem] Go.Proofs.Ytgpoolcaooiemaa.D.field59_3


def errW : Option Int → Value
  | none => .nilIface
  | some c => .iface 0 (.int .i64 c)
theorem errW_none : errW none = .nilIface := rfl
theorem errW_some (c : Int) : errW (some c) = .iface 0 (.int .i64 c) := rfl

-- the values' own types

end Go.Proofs.Ytgpoolcaooiemaa.PCtrSteps
