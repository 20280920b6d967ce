-- written by xprint.py (a program of this session, over the kit's print)
import Derived.Test.YtpjfelbamcgnhaaProg
import Derived.Below
import Derived.Deep.Draws
import Derived.Deep.AppendLies
import Derived.Maps.AppendAt
import Derived.OwnWalk
import Derived.Laws.BytesArg
import Derived.Laws.MakeOwn
import Derived.Laws.OwnMore
import Derived.Deep.OwnRows
import Derived.Tactics
import Derived.Lib.ConvBytes
import Derived.Laws.Slices
import Derived.WalkKit
import Derived.KernelRfl
import Derived.RowKit3
import Derived.Deep.LoopGhost
import Derived.Deep.QuietTactic
import Derived.BigQuiet
import Derived.WideLaws
import Derived.Deep.DeepCutAuto
import Derived.Deep.CutBlock
import Derived.Deep.RegionHeld3
import Derived.Laws.Rows
import Derived.Lib.AppendStr
import Derived.ArgAppend
import Derived.Laws.IdiomCopy
import Derived.OrdersHeld
import Derived.Laws.BitsLemmas
import Derived.RowKit
import Derived.Test.YtpjfelbamcgnhaaWWords
import Derived.Test.YtpjfelbamcgnhaaWLast
import Derived.Test.YtpjfelbamcgnhaaWTab
import Derived.Test.YtpjfelbamcgnhaaWQPut
import Derived.Test.YtpjfelbamcgnhaaWApart
import Derived.Test.YtpjfelbamcgnhaaWArr
import Derived.Test.YtpjfelbamcgnhaaWZeros
import Derived.Test.YtpjfelbamcgnhaaWFoot
import Derived.Test.YtpjfelbamcgnhaaWKept
import Derived.Test.YtpjfelbamcgnhaaWShare
import Derived.Test.YtpjfelbamcgnhaaWN
import Derived.Test.YtpjfelbamcgnhaaWEqStruct
import Derived.Test.YtpjfelbamcgnhaaWRepsOne
import Derived.Test.YtpjfelbamcgnhaaWGuard
import Derived.Test.YtpjfelbamcgnhaaWNEv
import Derived.Test.YtpjfelbamcgnhaaWMore
namespace Go.Proofs.Ytpjfelbamcgnhaa.X
open Go.RowKit Go.Proofs.YtpjfelbamcgnhaaW.PrintWords Go.Proofs.YtpjfelbamcgnhaaW.PrintLast Go.Proofs.YtpjfelbamcgnhaaW.PrintMore
attribute [local go_sem] max2_int min2_int max_two min_two max_three min_three max_four min_four   -- for this text's walks alone
set_option linter.unusedVariables false
set_option linter.unusedSimpArgs false



theorem sT_ {α : Type} (l : List α) (i : Nat) (a : α) : l.toArray.setIfInBounds i a = (l.set i a).toArray := List.setIfInBounds_toArray ..
theorem s0_ {α : Type} (x a : α) (l : List α) : (x :: l).set 0 a = a :: l := rfl
theorem sS_ {α : Type} (x a : α) (l : List α) (n : Nat) : (x :: l).set (n + 1) a = x :: l.set n a := rfl
theorem bA_ {w W : World} (h : Below w.heap.size w W) (o : Obj) : Below w.heap.size w (W.alloc o) := below_alloc h o
theorem bN_ {B : Nat} {w W : World} (h : Below B w W) (n : Nat) : Below B w (W.drewN n) := pw_below_drewN h n
theorem bD_ {base : Nat} {w W : World} (h : Below base w W) : Below base w W.drew := below_drew1 h
theorem mk_ {P : Prop} (h : P) : Aside0 P := ⟨h⟩
def errW : Option Int → Value
  | none => .nilIface
  | some c => .iface 0 (.int .i64 c)
theorem errW_none : errW none = .nilIface := rfl
theorem errW_some (c : Int) : errW (some c) = .iface 0 (.int .i64 c) := rfl

theorem info3 : (Try.prog.info? 3).map (fun i => (i.zero, i.size, i.bytes)) = some (some (.int .i64 0), 1, 8) := by kernel_rfl
-- the values' own types

end Go.Proofs.Ytpjfelbamcgnhaa.X
