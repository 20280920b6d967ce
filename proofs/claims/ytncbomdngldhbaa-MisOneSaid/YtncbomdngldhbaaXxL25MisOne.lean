-- written by xprint.py (a program of this session, over the kit's print)
import Derived.Test.YtncbomdngldhbaaXx0
import Derived.Test.YtncbomdngldhbaaIg
namespace Go.Proofs.Ytncbomdngldhbaa.X
open Go.RowKit Go.Proofs.YtncbomdngldhbaaW.PrintWords Go.Proofs.YtncbomdngldhbaaW.PrintLast Go.Proofs.YtncbomdngldhbaaW.PrintMore
attribute [local go_sem] max2_int min2_int max_two min_two max_three min_three max_four min_four   -- for this text's walks alone
set_option linter.unusedVariables false
set_option linter.unusedSimpArgs false

/-! ### penumbralaw25_MisOne: function 5 -/
def penumbralaw25_MisOne.f (a0 : Bool) (a1 : Nat) (a2 : Nat) : Option Bool := some true
theorem penumbralaw25_MisOne.calls (a0 : Bool) (a1 : Nat) (a2 : Nat) (r : Bool) (w : World) (h : penumbralaw25_MisOne.f a0 a1 a2 = some r) (hr_ : r = true) :
    Calls Try.prog 5 #[.bool a0, .float .f64 a1, .float .f64 a2] w fun e w' => e = .returned (.bool r) ∧ Below w.heap.size w w' := by
  subst hr_
  exact Gv.misOne_any a0 a1 a2 w

end Go.Proofs.Ytncbomdngldhbaa.X
