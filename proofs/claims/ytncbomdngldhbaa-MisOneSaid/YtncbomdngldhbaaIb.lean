/- vec.Number and the document's, by hand. -/
import Derived.Test.YtncbomdngldhbaaIa
import Derived.Test.YtncbomdngldhbaaXx0
import Derived.BigQuiet
import Derived.Deep.QuietTactic
import Derived.RegionTactic
import Derived.OwnWalk
import Derived.Laws.EntriesVeiled
import Derived.IntWalk
namespace Go.Proofs.Ytncbomdngldhbaa.Gv
open Go.RowKit Go.Proofs.YtncbomdngldhbaaW.PrintWords Go.Proofs.YtncbomdngldhbaaW.PrintLast
/-- the bits of a NaN that an operation drew -/
def nanv (q : Question) (w : World) : Nat := q.cut (w.tape w.drawn q)
theorem nanv_order (x y : Nat) (w : World) (b : Nat) : FloatKind.f64.format.order (nanv (.nanBits .f64 x y) w) b = none := nan_order _ b
theorem run_nan {P : Program} (op : BinOp) (t : TypeId) (x y : Nat) (h : floatBits op .f64 x y = none) (ho : op = .add ∨ op = .sub ∨ op = .mul ∨ op = .quo) (w : World) : (binOp op t (.float .f64 x) (.float .f64 y)).run P w = .ok (.float .f64 (nanv (.nanBits .f64 x y) w)) w.drew := by
  unfold floatBits at h
  rcases ho with rfl | rfl | rfl | rfl <;> simp only at h <;> simp [binOp, Op.floatArith, h, Question.forced, nanv]
theorem vnum_any (x : Nat) (w : World) : Calls Try.prog 12 #[.float .f64 x] w fun e w' => e = .returned (.bool (isNum x)) ∧ w = w' := by
  rw [← num_max]
  cases c1 : (FloatKind.f64.format.order x 18442240474082181119 == some .gt || FloatKind.f64.format.order x 18442240474082181119 == some .eq) with
  | false =>
    go_enter Try.func12, Try.ntmps12
    go_wp2
    go_ret
    exact ⟨by first | rfl | simp, rfl⟩
  | true =>
    cases c2 : (FloatKind.f64.format.order x 9218868437227405311 == some .lt || FloatKind.f64.format.order x 9218868437227405311 == some .eq) with
    | false =>
      go_enter Try.func12, Try.ntmps12
      go_wp2
      go_ret
      exact ⟨by first | rfl | simp, rfl⟩
    | true =>
      go_enter Try.func12, Try.ntmps12
      go_wp2
      go_ret
      exact ⟨by first | rfl | simp, rfl⟩
theorem rnum_any (x : Nat) (w : World) : Calls Try.prog 6 #[.float .f64 x] w fun e w' => e = .returned (.bool (isNum x)) ∧ Drawn0 w w' := by
  cases c1 : isNum x with
  | true =>
    have h1 := fun w => run_float_arith (P := Try.prog) w .sub 22 .f64 x x 0 (sub_num c1)
    have h2 : (FloatKind.f64.format.order 0 0 == some .eq) = true := by decide +kernel
    clear c1
    go_enter Try.func6, Try.ntmps6
    go_wp2
    go_ret
    exact ⟨rfl, Drawn0.refl w⟩
  | false =>
    have h1 := fun w => run_nan (P := Try.prog) .sub 22 x x (sub_not c1) (.inr (.inl rfl)) w
    have h2 : ∀ w, (FloatKind.f64.format.order (nanv (.nanBits .f64 x x) w) 0 == some .eq) = false := fun w => by rw [nanv_order]; rfl
    clear c1
    go_enter Try.func6, Try.ntmps6
    go_wp2
    go_ret
    exact ⟨rfl, ⟨1, rfl⟩⟩
end Go.Proofs.Ytncbomdngldhbaa.Gv
