-- written by xprint.py (a program of this session, over the kit's print)
import Derived.Test.YtedifkidnpaejaaXx0
import Derived.Test.YtedifkidnpaejaaGu
namespace Go.Proofs.Ytedifkidnpaejaa.X
open Go.RowKit Go.Proofs.YtedifkidnpaejaaW.PrintWords Go.Proofs.YtedifkidnpaejaaW.PrintLast Go.Proofs.YtedifkidnpaejaaW.PrintMore
attribute [local go_sem] max2_int min2_int max_two min_two max_three min_three max_four min_four   -- for this text's walks alone
set_option linter.unusedVariables false
set_option linter.unusedSimpArgs false

/-! ### penumbralaw06_TapeTells: function 3 -/
def penumbralaw06_TapeTells.f (l0 : List Nat) (l1 : List Int) : Option Bool := some true
theorem penumbralaw06_TapeTells.calls (A0 : Option Addr) (c0 : Nat) (l0 : List Nat) (A1 : Option Addr) (c1 : Nat) (l1 : List Int) (r : Bool) (w : World) (hr0 : Gv.FK.C w A0 l0.length l0) (hc0 : l0.length ≤ c0) (hr1 : Kd.C (Kd.int .i64) w A1 l1.length l1) (hc1 : l1.length ≤ c1) (h : penumbralaw06_TapeTells.f l0 l1 = some r) (hr_ : r = true) :
    Calls Try.prog 3 #[.slice A0 l0.length c0, .slice A1 l1.length c1] w fun e w' => e = .returned (.bool r) ∧ Below w.heap.size w w' := by
  subst hr_
  exact Gv.tells_any A0 c0 l0 A1 c1 l1 w hr0 hc0 (Kd.reads_of_C (enc := Value.int .i64) (d := (0 : Int)) (h1 := fun _ => rfl) hr1)

end Go.Proofs.Ytedifkidnpaejaa.X
