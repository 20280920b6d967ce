-- written by xprint.py (a program of this session, over the kit's print)
import Derived.Test.YtaikeldhdbejaaaXx0
import Derived.Test.YtaikeldhdbejaaaJl
namespace Go.Proofs.Ytaikeldhdbejaaa.X
open Go.RowKit Go.Proofs.YtaikeldhdbejaaaW.PrintWords Go.Proofs.YtaikeldhdbejaaaW.PrintLast Go.Proofs.YtaikeldhdbejaaaW.PrintMore
attribute [local go_sem] max2_int min2_int max_two min_two max_three min_three max_four min_four   -- for this text's walks alone
set_option linter.unusedVariables false
set_option linter.unusedSimpArgs false

/-! ### penumbralaw40_ProbeLooks: function 3 -/
def penumbralaw40_ProbeLooks.f (a0_0 : Int) (a0_1 : Int) (l0_2 : List Nat) (l0_3 : List Int) (a1_0 : Int) (a1_1 : Nat) (a1_2 : Int) : Option Bool := some true
theorem penumbralaw40_ProbeLooks.calls (a0_0 : Int) (a0_1 : Int) (A0_2 : Option Addr) (c0_2 : Nat) (l0_2 : List Nat) (A0_3 : Option Addr) (c0_3 : Nat) (l0_3 : List Int) (a1_0 : Int) (a1_1 : Nat) (a1_2 : Int) (r : Bool) (w : World) (hr0_2 : Gv.FK.C w A0_2 l0_2.length l0_2) (hc0_2 : l0_2.length ≤ c0_2) (hr0_3 : Kd.C (Kd.int .i64) w A0_3 l0_3.length l0_3) (hc0_3 : l0_3.length ≤ c0_3) (h : penumbralaw40_ProbeLooks.f a0_0 a0_1 l0_2 l0_3 a1_0 a1_1 a1_2 = some r) (hr_ : r = true) :
    Calls Try.prog 3 #[.agg #[.int .i64 a0_0, .int .i64 a0_1, .slice A0_2 l0_2.length c0_2, .slice A0_3 l0_3.length c0_3], .agg #[.int .i64 a1_0, .float .f64 a1_1, .int .i64 a1_2]] w fun e w' => e = .returned (.bool r) ∧ Below w.heap.size w w' := by
  subst hr_
  exact Gv.probeLooks_any a0_0 a0_1 l0_2 A0_2 c0_2 l0_3 A0_3 c0_3 a1_0 a1_1 a1_2 w hr0_2 hr0_3

end Go.Proofs.Ytaikeldhdbejaaa.X
