-- written by xprint.py (a program of this session, over the kit's print)
import Derived.Test.YtncbomdngldhbaaProg
import Derived.Below
import Derived.Deep.Draws
import Derived.Deep.AppendLies
import Derived.Maps.AppendAt
import Derived.OwnWalk
import Derived.Laws.BytesArg
import Derived.Laws.MakeOwn
import Derived.Laws.OwnMore
import Derived.Deep.OwnRows
import Derived.Tactics
import Derived.Lib.ConvBytes
import Derived.Laws.Slices
import Derived.WalkKit
import Derived.KernelRfl
import Derived.RowKit3
import Derived.Deep.LoopGhost
import Derived.Deep.QuietTactic
import Derived.BigQuiet
import Derived.WideLaws
import Derived.Deep.DeepCutAuto
import Derived.Deep.CutBlock
import Derived.Deep.RegionHeld3
import Derived.Laws.Rows
import Derived.Lib.AppendStr
import Derived.ArgAppend
import Derived.Laws.IdiomCopy
import Derived.OrdersHeld
import Derived.Laws.BitsLemmas
import Derived.RowKit
import Derived.Test.YtncbomdngldhbaaWWords
import Derived.Test.YtncbomdngldhbaaWLast
import Derived.Test.YtncbomdngldhbaaWTab
import Derived.Test.YtncbomdngldhbaaWFour
import Derived.Test.YtncbomdngldhbaaWQPut
import Derived.Test.YtncbomdngldhbaaWApart
import Derived.Test.YtncbomdngldhbaaWArr
import Derived.Test.YtncbomdngldhbaaWZeros
import Derived.Test.YtncbomdngldhbaaWFoot
import Derived.Test.YtncbomdngldhbaaWKept
import Derived.Test.YtncbomdngldhbaaWShare
import Derived.Test.YtncbomdngldhbaaWN
import Derived.Test.YtncbomdngldhbaaWFootNe
import Derived.Test.YtncbomdngldhbaaWAt
import Derived.Test.YtncbomdngldhbaaWEqStruct
import Derived.Test.YtncbomdngldhbaaWRepsOne
import Derived.Test.YtncbomdngldhbaaWInv
import Derived.Test.YtncbomdngldhbaaWInvWords
import Derived.Test.YtncbomdngldhbaaWGuard
import Derived.Test.YtncbomdngldhbaaWNEv
import Derived.Test.YtncbomdngldhbaaWMore
namespace Go.Proofs.Ytncbomdngldhbaa.X
open Go.RowKit Go.Proofs.YtncbomdngldhbaaW.PrintWords Go.Proofs.YtncbomdngldhbaaW.PrintLast Go.Proofs.YtncbomdngldhbaaW.PrintMore
attribute [local go_sem] max2_int min2_int max_two min_two max_three min_three max_four min_four   -- for this text's walks alone
set_option linter.unusedVariables false
set_option linter.unusedSimpArgs false



def errW : Option Int → Value
  | none => .nilIface
  | some c => .iface 0 (.int .i64 c)
theorem errW_none : errW none = .nilIface := rfl
theorem errW_some (c : Int) : errW (some c) = .iface 0 (.int .i64 c) := rfl

-- the values' own types

end Go.Proofs.Ytncbomdngldhbaa.X
