-- written by xprint.py (a program of this session, over the kit's print)
import Derived.Test.YtnliiljnddjbcaaXx0
import Derived.Test.YtnliiljnddjbcaaHg
namespace Go.Proofs.Ytnliiljnddjbcaa.X
open Go.RowKit Go.Proofs.YtnliiljnddjbcaaW.PrintWords Go.Proofs.YtnliiljnddjbcaaW.PrintLast Go.Proofs.YtnliiljnddjbcaaW.PrintMore
attribute [local go_sem] max2_int min2_int max_two min_two max_three min_three max_four min_four   -- for this text's walks alone
set_option linter.unusedVariables false
set_option linter.unusedSimpArgs false

/-! ### penumbralaw07_PcgFills: function 4 -/
def penumbralaw07_PcgFills.f (a0 : Int) (a1 : Int) (a2 : Int) : Option Bool := some true
theorem penumbralaw07_PcgFills.calls (a0 : Int) (a1 : Int) (a2 : Int) (r : Bool) (w : World) (h : penumbralaw07_PcgFills.f a0 a1 a2 = some r) (hr_ : r = true) :
    Calls Try.prog 4 #[.int .u64 a0, .int .u64 a1, .int .i64 a2] w fun e w' => e = .returned (.bool r) ∧ Below w.heap.size w w' := by
  subst hr_
  exact Gv.pcgFills_any a0 a1 a2 w

end Go.Proofs.Ytnliiljnddjbcaa.X
