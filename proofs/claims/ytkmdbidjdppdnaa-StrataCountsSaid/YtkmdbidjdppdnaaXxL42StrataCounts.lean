-- written by xprint.py (a program of this session, over the kit's print)
import Derived.Test.YtkmdbidjdppdnaaXx0
import Derived.Test.YtkmdbidjdppdnaaQl
namespace Go.Proofs.Ytkmdbidjdppdnaa.X
open Go.RowKit Go.Proofs.YtkmdbidjdppdnaaW.PrintWords Go.Proofs.YtkmdbidjdppdnaaW.PrintLast Go.Proofs.YtkmdbidjdppdnaaW.PrintMore
attribute [local go_sem] max2_int min2_int max_two min_two max_three min_three max_four min_four   -- for this text's walks alone
set_option linter.unusedVariables false
set_option linter.unusedSimpArgs false

/-! ### penumbralaw42_StrataCounts: function 5 -/
def penumbralaw42_StrataCounts.f (a0 : Int) (l1 : List (Nat × Nat)) : Option Bool := some true
theorem penumbralaw42_StrataCounts.calls (a0 : Int) (A1 : Option Addr) (c1 : Nat) (l1 : List (Nat × Nat)) (r : Bool) (w : World) (hr1 : Gv.PK.C w A1 l1.length l1) (hc1 : l1.length ≤ c1) (h : penumbralaw42_StrataCounts.f a0 l1 = some r) (hr_ : r = true) :
    Calls Try.prog 5 #[.int .i64 a0, .slice A1 l1.length c1] w fun e w' => e = .returned (.bool r) ∧ Below w.heap.size w w' := by
  subst hr_
  exact Gv.strataCounts_any a0 A1 c1 l1 w hr1

end Go.Proofs.Ytkmdbidjdppdnaa.X
