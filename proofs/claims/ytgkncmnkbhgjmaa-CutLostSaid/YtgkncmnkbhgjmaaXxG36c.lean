-- written by xprint.py (a program of this session, over the kit's print)
import Derived.Test.YtgkncmnkbhgjmaaXx0
import Derived.Test.YtgkncmnkbhgjmaaGtx
namespace Go.Proofs.Ytgkncmnkbhgjmaa.X
open Go.RowKit Go.Proofs.YtgkncmnkbhgjmaaW.PrintWords Go.Proofs.YtgkncmnkbhgjmaaW.PrintLast Go.Proofs.YtgkncmnkbhgjmaaW.PrintMore
attribute [local go_sem] max2_int min2_int max_two min_two max_three min_three max_four min_four   -- for this text's walks alone
set_option linter.unusedVariables false
set_option linter.unusedSimpArgs false

/-! ### penumbraref36_Term: function 12 -/
def penumbraref36_Term.f (l0 : List Int) (l1 : List Int) (a2 : Int) : Option (List Int) := Gv.rtF l0 l1 a2
theorem penumbraref36_Term.calls (A0 : Option Addr) (c0 : Nat) (l0 : List Int) (A1 : Option Addr) (c1 : Nat) (l1 : List Int) (a2 : Int) (r : List Int) (w : World) (hr0 : Kd.C (Kd.int .i64) w A0 l0.length l0) (hc0 : l0.length ≤ c0) (hr1 : Kd.C (Kd.int .i64) w A1 l1.length l1) (_hc1 : l1.length ≤ c1) (h : penumbraref36_Term.f l0 l1 a2 = some r) :
    Calls Try.prog 12 #[.slice A0 l0.length c0, .slice A1 l1.length c1, .int .i64 a2] w fun e w' => ∃ v0_ : Value, e = .returned v0_ ∧ Gv.XQ w' w.heap.size (fun _ => True) A0 c0 l0 v0_ r ∧ Below w.heap.size w w' := Gv.rt_any A0 c0 l0 A1 c1 l1 a2 r w hr0 hc0 hr1 h

end Go.Proofs.Ytgkncmnkbhgjmaa.X
