-- written by xprint.py (a program of this session, over the kit's print)
import Derived.Test.YtedifkidnpaejaaXx0
import Derived.Test.YtedifkidnpaejaaGr
namespace Go.Proofs.Ytedifkidnpaejaa.X
open Go.RowKit Go.Proofs.YtedifkidnpaejaaW.PrintWords Go.Proofs.YtedifkidnpaejaaW.PrintLast Go.Proofs.YtedifkidnpaejaaW.PrintMore
attribute [local go_sem] max2_int min2_int max_two min_two max_three min_three max_four min_four   -- for this text's walks alone
set_option linter.unusedVariables false
set_option linter.unusedSimpArgs false

/-! ### penumbralaw06_TapeCleans: function 4 -/
def penumbralaw06_TapeCleans.f (a0 : Nat) : Option Bool := some true
theorem penumbralaw06_TapeCleans.calls (a0 : Nat) (r : Bool) (w : World) (h : penumbralaw06_TapeCleans.f a0 = some r) (hr_ : r = true) :
    Calls Try.prog 4 #[.float .f64 a0] w fun e w' => e = .returned (.bool r) ∧ Below w.heap.size w w' := by
  subst hr_
  exact Gv.cleans_any a0 w

end Go.Proofs.Ytedifkidnpaejaa.X
