-- written by xprint.py (a program of this session, over the kit's print)
import Derived.Test.YtedifkidnpaejaaProg
import Derived.Below
import Derived.Deep.Draws
import Derived.Deep.AppendLies
import Derived.Maps.AppendAt
import Derived.OwnWalk
import Derived.Laws.BytesArg
import Derived.Laws.MakeOwn
import Derived.Laws.OwnMore
import Derived.Deep.OwnRows
import Derived.Tactics
import Derived.Lib.ConvBytes
import Derived.Laws.Slices
import Derived.WalkKit
import Derived.KernelRfl
import Derived.RowKit3
import Derived.Deep.LoopGhost
import Derived.Deep.QuietTactic
import Derived.BigQuiet
import Derived.WideLaws
import Derived.Deep.DeepCutAuto
import Derived.Deep.CutBlock
import Derived.Deep.RegionHeld3
import Derived.Laws.Rows
import Derived.Lib.AppendStr
import Derived.ArgAppend
import Derived.Laws.IdiomCopy
import Derived.OrdersHeld
import Derived.Laws.BitsLemmas
import Derived.RowKit
import Derived.Test.YtedifkidnpaejaaWWords
import Derived.Test.YtedifkidnpaejaaWLast
import Derived.Test.YtedifkidnpaejaaWTab
import Derived.Test.YtedifkidnpaejaaWFour
import Derived.Test.YtedifkidnpaejaaWQPut
import Derived.Test.YtedifkidnpaejaaWApart
import Derived.Test.YtedifkidnpaejaaWArr
import Derived.Test.YtedifkidnpaejaaWZeros
import Derived.Test.YtedifkidnpaejaaWFoot
import Derived.Test.YtedifkidnpaejaaWKept
import Derived.Test.YtedifkidnpaejaaWShare
import Derived.Test.YtedifkidnpaejaaWN
import Derived.Test.YtedifkidnpaejaaWFootNe
import Derived.Test.YtedifkidnpaejaaWAt
import Derived.Test.YtedifkidnpaejaaWEqStruct
import Derived.Test.YtedifkidnpaejaaWRepsOne
import Derived.Test.YtedifkidnpaejaaWInv
import Derived.Test.YtedifkidnpaejaaWInvWords
import Derived.Test.YtedifkidnpaejaaWGuard
import Derived.Test.YtedifkidnpaejaaWNEv
import Derived.Test.YtedifkidnpaejaaWMore
namespace Go.Proofs.Ytedifkidnpaejaa.X
open Go.RowKit Go.Proofs.YtedifkidnpaejaaW.PrintWords Go.Proofs.YtedifkidnpaejaaW.PrintLast Go.Proofs.YtedifkidnpaejaaW.PrintMore
attribute [local go_sem] max2_int min2_int max_two min_two max_three min_three max_four min_four   -- for this text's walks alone
set_option linter.unusedVariables false
set_option linter.unusedSimpArgs false



def errW : Option Int → Value
  | none => .nilIface
  | some c => .iface 0 (.int .i64 c)
theorem errW_none : errW none = .nilIface := rfl
theorem errW_some (c : Int) : errW (some c) = .iface 0 (.int .i64 c) := rfl

-- the values' own types

end Go.Proofs.Ytedifkidnpaejaa.X
