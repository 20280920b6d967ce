-- written by xprint.py (a program of this session, over the kit's print)
import Derived.Test.YtpjfelbamcgnhaaProg
import Derived.Below
import Derived.Deep.Draws
import Derived.Deep.AppendLies
import Derived.Maps.AppendAt
import Derived.OwnWalk
import Derived.Laws.BytesArg
import Derived.Laws.MakeOwn
import Derived.Laws.OwnMore
import Derived.Deep.OwnRows
import Derived.Tactics
import Derived.Lib.ConvBytes
import Derived.Laws.Slices
import Derived.WalkKit
import Derived.KernelRfl
import Derived.RowKit3
import Derived.Deep.LoopGhost
import Derived.Deep.QuietTactic
import Derived.BigQuiet
import Derived.WideLaws
import Derived.Deep.DeepCutAuto
import Derived.Deep.CutBlock
import Derived.Deep.RegionHeld3
import Derived.Laws.Rows
import Derived.Lib.AppendStr
import Derived.ArgAppend
import Derived.Laws.IdiomCopy
import Derived.OrdersHeld
import Derived.Laws.BitsLemmas
import Derived.RowKit
import Derived.Test.YtpjfelbamcgnhaaWWords
import Derived.Test.YtpjfelbamcgnhaaWLast
import Derived.Test.YtpjfelbamcgnhaaWTab
import Derived.Test.YtpjfelbamcgnhaaWQPut
import Derived.Test.YtpjfelbamcgnhaaWApart
import Derived.Test.YtpjfelbamcgnhaaWArr
import Derived.Test.YtpjfelbamcgnhaaWZeros
import Derived.Test.YtpjfelbamcgnhaaWFoot
import Derived.Test.YtpjfelbamcgnhaaWKept
import Derived.Test.YtpjfelbamcgnhaaWShare
import Derived.Test.YtpjfelbamcgnhaaWN
import Derived.Test.YtpjfelbamcgnhaaWEqStruct
import Derived.Test.YtpjfelbamcgnhaaWRepsOne
import Derived.Test.YtpjfelbamcgnhaaWGuard
import Derived.Test.YtpjfelbamcgnhaaWNEv
import Derived.Test.YtpjfelbamcgnhaaWMore
namespace Go.Proofs.Ytpjfelbamcgnhaa.X
open Go.RowKit Go.Proofs.YtpjfelbamcgnhaaW.PrintWords Go.Proofs.YtpjfelbamcgnhaaW.PrintLast Go.Proofs.YtpjfelbamcgnhaaW.PrintMore
attribute [local go_sem] max2_int min2_int max_two min_two max_three min_three max_four min_four   -- for this text's walks alone
set_option linter.unusedVariables false
set_option linter.unusedSimpArgs false



syntax "hb_ " ident : tactic
macro_rules
  | `(tactic| hb_ $h:ident) => `(tactic| repeat (first | (with_reducible first | exact Aside0.out $h | apply below_alloc | apply pw_below_drewN | apply below_drew1) | exact Aside0.out $h))
syntax "hg_ " ident ident : tactic
macro_rules
  | `(tactic| hg_ $h:ident $g:ident) => `(tactic| repeat (first | (with_reducible first | exact Aside0.out $h | apply below_alloc | apply pw_below_drewN | apply below_drew1 | refine below_set ?_ (Aside0.out $g)) | exact Aside0.out $h))
def errW : Option Int → Value
  | none => .nilIface
  | some c => .iface 0 (.int .i64 c)
theorem errW_none : errW none = .nilIface := rfl
theorem errW_some (c : Int) : errW (some c) = .iface 0 (.int .i64 c) := rfl

theorem info3 : (Try.prog.info? 3).map (fun i => (i.zero, i.size, i.bytes)) = some (some (.int .i64 0), 1, 8) := by kernel_rfl
-- the values' own types

end Go.Proofs.Ytpjfelbamcgnhaa.X
