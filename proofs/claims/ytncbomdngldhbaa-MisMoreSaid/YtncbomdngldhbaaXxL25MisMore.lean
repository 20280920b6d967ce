-- written by xprint.py (a program of this session, over the kit's print)
import Derived.Test.YtncbomdngldhbaaXx0
import Derived.Test.YtncbomdngldhbaaIf
namespace Go.Proofs.Ytncbomdngldhbaa.X
open Go.RowKit Go.Proofs.YtncbomdngldhbaaW.PrintWords Go.Proofs.YtncbomdngldhbaaW.PrintLast Go.Proofs.YtncbomdngldhbaaW.PrintMore
attribute [local go_sem] max2_int min2_int max_two min_two max_three min_three max_four min_four   -- for this text's walks alone
set_option linter.unusedVariables false
set_option linter.unusedSimpArgs false

/-! ### penumbralaw25_MisMore: function 3 -/
def penumbralaw25_MisMore.f (a0_0 : Bool) (a0_1 : Nat) (a0_2 : Nat) (a0_3 : Nat) : Option Bool := some true
theorem penumbralaw25_MisMore.calls (a0_0 : Bool) (a0_1 : Nat) (a0_2 : Nat) (a0_3 : Nat) (r : Bool) (w : World) (h : penumbralaw25_MisMore.f a0_0 a0_1 a0_2 a0_3 = some r) (hr_ : r = true) :
    Calls Try.prog 3 #[.agg #[.bool a0_0, .float .f64 a0_1, .float .f64 a0_2, .float .f64 a0_3]] w fun e w' => e = .returned (.bool r) ∧ Below w.heap.size w w' := by
  subst hr_
  exact Gv.misMore_any a0_0 a0_1 a0_2 a0_3 w

end Go.Proofs.Ytncbomdngldhbaa.X
