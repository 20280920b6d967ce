-- written by xprint.py (a program of this session, over the kit's print)
import Derived.Test.YtaikeldhdbejaaaProg
import Derived.Below
import Derived.Deep.Draws
import Derived.Deep.AppendLies
import Derived.Maps.AppendAt
import Derived.OwnWalk
import Derived.Laws.BytesArg
import Derived.Laws.MakeOwn
import Derived.Laws.OwnMore
import Derived.Deep.OwnRows
import Derived.Tactics
import Derived.Lib.ConvBytes
import Derived.Laws.Slices
import Derived.WalkKit
import Derived.KernelRfl
import Derived.RowKit3
import Derived.Deep.LoopGhost
import Derived.Deep.QuietTactic
import Derived.BigQuiet
import Derived.WideLaws
import Derived.Deep.DeepCutAuto
import Derived.Deep.CutBlock
import Derived.Deep.RegionHeld3
import Derived.Laws.Rows
import Derived.Lib.AppendStr
import Derived.ArgAppend
import Derived.Laws.IdiomCopy
import Derived.OrdersHeld
import Derived.Laws.BitsLemmas
import Derived.RowKit
import Derived.Test.YtaikeldhdbejaaaWWords
import Derived.Test.YtaikeldhdbejaaaWLast
import Derived.Test.YtaikeldhdbejaaaWTab
import Derived.Test.YtaikeldhdbejaaaWFour
import Derived.Test.YtaikeldhdbejaaaWQPut
import Derived.Test.YtaikeldhdbejaaaWApart
import Derived.Test.YtaikeldhdbejaaaWArr
import Derived.Test.YtaikeldhdbejaaaWZeros
import Derived.Test.YtaikeldhdbejaaaWFoot
import Derived.Test.YtaikeldhdbejaaaWKept
import Derived.Test.YtaikeldhdbejaaaWShare
import Derived.Test.YtaikeldhdbejaaaWN
import Derived.Test.YtaikeldhdbejaaaWFootNe
import Derived.Test.YtaikeldhdbejaaaWAt
import Derived.Test.YtaikeldhdbejaaaWEqStruct
import Derived.Test.YtaikeldhdbejaaaWRepsOne
import Derived.Test.YtaikeldhdbejaaaWInv
import Derived.Test.YtaikeldhdbejaaaWInvWords
import Derived.Test.YtaikeldhdbejaaaWGuard
import Derived.Test.YtaikeldhdbejaaaWNEv
import Derived.Test.YtaikeldhdbejaaaWMore
namespace Go.Proofs.Ytaikeldhdbejaaa.X
open Go.RowKit Go.Proofs.YtaikeldhdbejaaaW.PrintWords Go.Proofs.YtaikeldhdbejaaaW.PrintLast Go.Proofs.YtaikeldhdbejaaaW.PrintMore
attribute [local go_sem] max2_int min2_int max_two min_two max_three min_three max_four min_four   -- for this text's walks alone
set_option linter.unusedVariables false
set_option linter.unusedSimpArgs false



def errW : Option Int → Value
  | none => .nilIface
  | some c => .iface 0 (.int .i64 c)
theorem errW_none : errW none = .nilIface := rfl
theorem errW_some (c : Int) : errW (some c) = .iface 0 (.int .i64 c) := rfl

-- the values' own types

end Go.Proofs.Ytaikeldhdbejaaa.X
