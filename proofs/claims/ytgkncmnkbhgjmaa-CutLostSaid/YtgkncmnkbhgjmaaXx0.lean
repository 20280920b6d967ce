-- written by xprint.py (a program of this session, over the kit's print)
import Derived.Test.YtgkncmnkbhgjmaaProg
import Derived.Below
import Derived.Deep.Draws
import Derived.Deep.AppendLies
import Derived.Maps.AppendAt
import Derived.OwnWalk
import Derived.Laws.BytesArg
import Derived.Laws.MakeOwn
import Derived.Laws.OwnMore
import Derived.Deep.OwnRows
import Derived.Tactics
import Derived.Lib.ConvBytes
import Derived.Laws.Slices
import Derived.WalkKit
import Derived.KernelRfl
import Derived.RowKit3
import Derived.Deep.LoopGhost
import Derived.Deep.QuietTactic
import Derived.BigQuiet
import Derived.WideLaws
import Derived.Deep.DeepCutAuto
import Derived.Deep.CutBlock
import Derived.Deep.RegionHeld3
import Derived.Laws.Rows
import Derived.Lib.AppendStr
import Derived.ArgAppend
import Derived.Laws.IdiomCopy
import Derived.OrdersHeld
import Derived.Laws.BitsLemmas
import Derived.RowKit
import Derived.Test.YtgkncmnkbhgjmaaWWords
import Derived.Test.YtgkncmnkbhgjmaaWLast
import Derived.Test.YtgkncmnkbhgjmaaWTab
import Derived.Test.YtgkncmnkbhgjmaaWFour
import Derived.Test.YtgkncmnkbhgjmaaWQPut
import Derived.Test.YtgkncmnkbhgjmaaWApart
import Derived.Test.YtgkncmnkbhgjmaaWArr
import Derived.Test.YtgkncmnkbhgjmaaWZeros
import Derived.Test.YtgkncmnkbhgjmaaWFoot
import Derived.Test.YtgkncmnkbhgjmaaWKept
import Derived.Test.YtgkncmnkbhgjmaaWShare
import Derived.Test.YtgkncmnkbhgjmaaWN
import Derived.Test.YtgkncmnkbhgjmaaWFootNe
import Derived.Test.YtgkncmnkbhgjmaaWAt
import Derived.Test.YtgkncmnkbhgjmaaWEqStruct
import Derived.Test.YtgkncmnkbhgjmaaWRepsOne
import Derived.Test.YtgkncmnkbhgjmaaWInv
import Derived.Test.YtgkncmnkbhgjmaaWInvWords
import Derived.Test.YtgkncmnkbhgjmaaWGuard
import Derived.Test.YtgkncmnkbhgjmaaWNEv
import Derived.Test.YtgkncmnkbhgjmaaWMore
namespace Go.Proofs.Ytgkncmnkbhgjmaa.X
open Go.RowKit Go.Proofs.YtgkncmnkbhgjmaaW.PrintWords Go.Proofs.YtgkncmnkbhgjmaaW.PrintLast Go.Proofs.YtgkncmnkbhgjmaaW.PrintMore
attribute [local go_sem] max2_int min2_int max_two min_two max_three min_three max_four min_four   -- for this text's walks alone
set_option linter.unusedVariables false
set_option linter.unusedSimpArgs false



def errW : Option Int → Value
  | none => .nilIface
  | some c => .iface 0 (.int .i64 c)
theorem errW_none : errW none = .nilIface := rfl
theorem errW_some (c : Int) : errW (some c) = .iface 0 (.int .i64 c) := rfl

theorem info3 : (Try.prog.info? 3).map (fun i => (i.zero, i.size, i.bytes)) = some (some (.int .i64 0), 1, 8) := by kernel_rfl
-- the values' own types

end Go.Proofs.Ytgkncmnkbhgjmaa.X
