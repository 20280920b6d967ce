-- written by xprint.py (a program of this session, over the kit's print)
import Derived.Test.YtjfegfhhgekcfaaXx0
import Derived.Test.YtjfegfhhgekcfaaGx
namespace Go.Proofs.Ytjfegfhhgekcfaa.X
open Go.RowKit Go.Proofs.YtjfegfhhgekcfaaW.PrintWords Go.Proofs.YtjfegfhhgekcfaaW.PrintLast Go.Proofs.YtjfegfhhgekcfaaW.PrintMore
attribute [local go_sem] max2_int min2_int max_two min_two max_three min_three max_four min_four   -- for this text's walks alone
set_option linter.unusedVariables false
set_option linter.unusedSimpArgs false

/-! ### order_Code: function 6 -/
def order_Code.f (a0 a1 : Int) : Option (Int × Int) := some (Gv.codeVal a0 a1)
theorem order_Code.calls (a0 a1 r1 r2 : Int) (w : World) (h : order_Code.f a0 a1 = some (r1, r2)) :
    Calls Try.prog 6 #[.int .i64 a0, .int .i64 a1] w fun e w' => e = .returned (.tuple #[.int .i64 r1, .int .i64 r2]) ∧ Below w.heap.size w w' := Gv.code_any a0 a1 r1 r2 w (Option.some.inj h)

/-! ### order_Winding: function 10 -/
def order_Winding.f (k : Nat) (a0 a1 : Int) : Option (List Int × Int) := Gv.windF k a0 a1
theorem order_Winding.mono : ∀ a0 a1 k, LeO (order_Winding.f k a0 a1) (order_Winding.f (k + 1) a0 a1) := fun a0 a1 k => Gv.windF_mono a0 a1 k
theorem order_Winding.calls (k : Nat) (a0 : Int) (a1 : Int) (r1 : List Int) (r2 : Int) (w : World) (h : order_Winding.f k a0 a1 = some (r1, r2)) :
    Calls Try.prog 10 #[.int .i64 a0, .int .i64 a1] w fun e w' => ∃ v0_ : Value, e = .returned (.tuple #[v0_, .int .i64 r2]) ∧ Kd.R (Kd.int .i64) 3 w' w.heap.size (fun _ => True) v0_ r1 ∧ Below w.heap.size w w' := Gv.wind_any k a0 a1 r1 r2 w h

/-! ### order_Snake: function 12 -/
def order_Snake.f (k : Nat) (a0 a1 : Int) : Option (List Int × Int) := Gv.snakeF k a0 a1
theorem order_Snake.mono : ∀ a0 a1 k, LeO (order_Snake.f k a0 a1) (order_Snake.f (k + 1) a0 a1) := fun a0 a1 k => Gv.snakeF_mono a0 a1 k
theorem order_Snake.calls (k : Nat) (a0 : Int) (a1 : Int) (r1 : List Int) (r2 : Int) (w : World) (h : order_Snake.f k a0 a1 = some (r1, r2)) :
    Calls Try.prog 12 #[.int .i64 a0, .int .i64 a1] w fun e w' => ∃ v0_ : Value, e = .returned (.tuple #[v0_, .int .i64 r2]) ∧ Kd.R (Kd.int .i64) 3 w' w.heap.size (fun _ => True) v0_ r1 ∧ Below w.heap.size w w' := Gv.snake_any k a0 a1 r1 r2 w h

end Go.Proofs.Ytjfegfhhgekcfaa.X
