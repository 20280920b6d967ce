-- written by xprint.py (a program of this session, over the kit's print)
import Derived.Test.YtnliiljnddjbcaaProg
import Derived.Below
import Derived.Deep.Draws
import Derived.Deep.AppendLies
import Derived.Maps.AppendAt
import Derived.OwnWalk
import Derived.Laws.BytesArg
import Derived.Laws.MakeOwn
import Derived.Laws.OwnMore
import Derived.Deep.OwnRows
import Derived.Tactics
import Derived.Lib.ConvBytes
import Derived.Laws.Slices
import Derived.WalkKit
import Derived.KernelRfl
import Derived.RowKit3
import Derived.Deep.LoopGhost
import Derived.Deep.QuietTactic
import Derived.BigQuiet
import Derived.WideLaws
import Derived.Deep.DeepCutAuto
import Derived.Deep.CutBlock
import Derived.Deep.RegionHeld3
import Derived.Laws.Rows
import Derived.Lib.AppendStr
import Derived.ArgAppend
import Derived.Laws.IdiomCopy
import Derived.OrdersHeld
import Derived.Laws.BitsLemmas
import Derived.RowKit
import Derived.Test.YtnliiljnddjbcaaWWords
import Derived.Test.YtnliiljnddjbcaaWLast
import Derived.Test.YtnliiljnddjbcaaWTab
import Derived.Test.YtnliiljnddjbcaaWFour
import Derived.Test.YtnliiljnddjbcaaWQPut
import Derived.Test.YtnliiljnddjbcaaWApart
import Derived.Test.YtnliiljnddjbcaaWArr
import Derived.Test.YtnliiljnddjbcaaWZeros
import Derived.Test.YtnliiljnddjbcaaWFoot
import Derived.Test.YtnliiljnddjbcaaWKept
import Derived.Test.YtnliiljnddjbcaaWShare
import Derived.Test.YtnliiljnddjbcaaWN
import Derived.Test.YtnliiljnddjbcaaWFootNe
import Derived.Test.YtnliiljnddjbcaaWAt
import Derived.Test.YtnliiljnddjbcaaWEqStruct
import Derived.Test.YtnliiljnddjbcaaWRepsOne
import Derived.Test.YtnliiljnddjbcaaWInv
import Derived.Test.YtnliiljnddjbcaaWInvWords
import Derived.Test.YtnliiljnddjbcaaWGuard
import Derived.Test.YtnliiljnddjbcaaWNEv
import Derived.Test.YtnliiljnddjbcaaWMore
namespace Go.Proofs.Ytnliiljnddjbcaa.X
open Go.RowKit Go.Proofs.YtnliiljnddjbcaaW.PrintWords Go.Proofs.YtnliiljnddjbcaaW.PrintLast Go.Proofs.YtnliiljnddjbcaaW.PrintMore
attribute [local go_sem] max2_int min2_int max_two min_two max_three min_three max_four min_four   -- for this text's walks alone
set_option linter.unusedVariables false
set_option linter.unusedSimpArgs false



def errW : Option Int → Value
  | none => .nilIface
  | some c => .iface 0 (.int .i64 c)
theorem errW_none : errW none = .nilIface := rfl
theorem errW_some (c : Int) : errW (some c) = .iface 0 (.int .i64 c) := rfl

-- the values' own types

end Go.Proofs.Ytnliiljnddjbcaa.X
