-- written by xprint.py (a program of this session, over the kit's print)
import Derived.Test.YtgkncmnkbhgjmaaXx0
import Derived.Test.YtgkncmnkbhgjmaaGlo
namespace Go.Proofs.Ytgkncmnkbhgjmaa.X
open Go.RowKit Go.Proofs.YtgkncmnkbhgjmaaW.PrintWords Go.Proofs.YtgkncmnkbhgjmaaW.PrintLast Go.Proofs.YtgkncmnkbhgjmaaW.PrintMore
attribute [local go_sem] max2_int min2_int max_two min_two max_three min_three max_four min_four   -- for this text's walks alone
set_option linter.unusedVariables false
set_option linter.unusedSimpArgs false

/-! ### cut_Bound: function 15 -/
def cut_Bound.f (k : Nat) (l0 : List Int) (a1 : Int) (a2 : Int) : Option Int := Gv.boundF k l0 a1 a2
theorem cut_Bound.mono : ∀ a0 a1 a2 k, LeO (cut_Bound.f k a0 a1 a2) (cut_Bound.f (k + 1) a0 a1 a2) := fun a0 a1 a2 k => Gv.boundF_mono a0 a1 a2 k
theorem cut_Bound.calls (k : Nat) (A0 : Option Addr) (c0 : Nat) (l0 : List Int) (a1 : Int) (a2 : Int) (r : Int) (w : World) (hr0 : Kd.C (Kd.int .i64) w A0 l0.length l0) (hc0 : l0.length ≤ c0) (h : cut_Bound.f k l0 a1 a2 = some r) :
    Calls Try.prog 15 #[.slice A0 l0.length c0, .int .i64 a1, .int .i64 a2] w fun e w' => e = .returned (.int .i64 r) ∧ Below w.heap.size w w' := Gv.bound_any k A0 c0 l0 a1 a2 r w hr0 hc0 h

/-! ### cut_Lost: function 17 -/
def cut_Lost.f (k : Nat) (l0 : List Int) (l1 : List Int) (a2 : Int) (a3 : Int) (a4 : Int) : Option (List Int × Int) := Gv.lostF k l0 l1 a2 a3 a4
theorem cut_Lost.mono : ∀ a0 a1 a2 a3 a4 k, LeO (cut_Lost.f k a0 a1 a2 a3 a4) (cut_Lost.f (k + 1) a0 a1 a2 a3 a4) := fun a0 a1 a2 a3 a4 k => Gv.lostF_mono a0 a1 a2 a3 a4 k
theorem cut_Lost.calls (k : Nat) (A0 : Option Addr) (c0 : Nat) (l0 : List Int) (A1 : Option Addr) (c1 : Nat) (l1 : List Int) (a2 : Int) (a3 : Int) (a4 : Int) (r1 : List Int) (r2 : Int) (w : World) (hr0 : Kd.C (Kd.int .i64) w A0 l0.length l0) (hc0 : l0.length ≤ c0) (hr1 : Kd.C (Kd.int .i64) w A1 l1.length l1) (hc1 : l1.length ≤ c1) (h : cut_Lost.f k l0 l1 a2 a3 a4 = some (r1, r2)) :
    Calls Try.prog 17 #[.slice A0 l0.length c0, .slice A1 l1.length c1, .int .i64 a2, .int .i64 a3, .int .i64 a4] w fun e w' => ∃ v0_ : Value, e = .returned (.tuple #[v0_, .int .i64 r2]) ∧ Kd.R (Kd.int .i64) 3 w' w.heap.size (fun _ => True) v0_ r1 ∧ Below w.heap.size w w' := Gv.lost_any k A0 c0 l0 A1 c1 l1 a2 a3 a4 r1 r2 w hr0 hc0 hr1 hc1 h

end Go.Proofs.Ytgkncmnkbhgjmaa.X
