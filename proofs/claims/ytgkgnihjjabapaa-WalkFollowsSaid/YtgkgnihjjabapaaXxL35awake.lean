-- written by xprint.py (a program of this session, over the kit's print)
import Derived.Test.YtgkgnihjjabapaaXx0
import Derived.Test.YtgkgnihjjabapaaKf
namespace Go.Proofs.Ytgkgnihjjabapaa.X
open Go.RowKit Go.Proofs.YtgkgnihjjabapaaW.PrintWords Go.Proofs.YtgkgnihjjabapaaW.PrintLast Go.Proofs.YtgkgnihjjabapaaW.PrintMore
attribute [local go_sem] max2_int min2_int max_two min_two max_three min_three max_four min_four   -- for this text's walks alone
set_option linter.unusedVariables false
set_option linter.unusedSimpArgs false

/-! ### penumbralaw35_awake: function 8 -/
def penumbralaw35_awake.f : Option Bool := some true
theorem penumbralaw35_awake.calls (r : Bool) (w : World) (h : penumbralaw35_awake.f = some r) :
    Calls Try.prog 8 #[] w fun e w' => e = .returned (.bool r) ∧ Below w.heap.size w w' := by
  obtain rfl := Option.some.inj h
  exact Gv.awake35w w

end Go.Proofs.Ytgkgnihjjabapaa.X
