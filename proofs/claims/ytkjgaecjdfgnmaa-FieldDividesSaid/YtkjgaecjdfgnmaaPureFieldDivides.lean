/- field.Inv is the inverse of any number whose rest is not 0 (else ErrZero), field.Div the quotient, field.Pow the power: for every a, b and every power below 256, with no condition. -/
import Derived.Test.YtkjgaecjdfgnmaaXxL30FieldDivides
import Derived.Test.YtkjgaecjdfgnmaaPa
namespace Go.Proofs.Ytkjgaecjdfgnmaa.Pure
open Go.RowKit Go.Proofs.Ytkjgaecjdfgnmaa.X Go.Proofs.YtkjgaecjdfgnmaaW.PrintWords Go.Proofs.YtkjgaecjdfgnmaaW.PrintLast Pa Pl

theorem FieldDivides : penumbralaw30_FieldDivides.Pure := by
  intro a b n wa wb wn
  refine Ev.rounds ?_
  obtain ⟨hn0, hn1⟩ : 0 ≤ n ∧ n ≤ 255 := by
    simp only [Lit.wf, Bool.and_eq_true, decide_eq_true_eq] at wn
    exact wn
  obtain ⟨m, rfl⟩ := Int.eq_ofNat_of_zero_le hn0
  have w1 : wrap64 ((m : Int)) = (m : Int) := wrap_id (by omega) (by omega)
  have w2 : wrap64 ((-1) - (m : Int)) = -1 - (m : Int) := wrap_id (by omega) (by omega)
  unfold penumbralaw30_FieldDivides.f
  by_cases h : of a = 0
  · refine Ev.bind (Inv_no a h) ?_
    refine Ev.bind (Div_no b a h) ?_
    rw [ROf_eq]
    refine ev_some ?_
    refine ev_pos h ?_
    refine Ev.bind awake30 ?_
    refine ev_pos rfl ?_
    refine ev_pos rfl ?_
    refine ev_pos rfl ?_
    refine ev_pos rfl ?_
    exact Ev.now _
  · refine Ev.bind (Inv_yes a h) ?_
    refine Ev.bind (Div_yes b a h) ?_
    rw [ROf_eq]
    refine ev_some ?_
    refine ev_neg h ?_
    refine Ev.bind awake30 ?_
    refine ev_pos rfl ?_
    refine ev_pos rfl ?_
    refine ev_pos rfl ?_
    refine Ev.bind (RInv_ev a h) ?_
    refine ev_pos rfl ?_
    rw [RMul_eq]
    refine ev_some ?_
    refine ev_pos (invP_mul a h) ?_
    rw [RMul_eq]
    refine ev_some ?_
    rw [ROf_eq]
    refine ev_some ?_
    refine ev_pos (by rw [of_mul_left, Int.mul_assoc, ← of_mul_right, invP_mul a h, Int.mul_one]) ?_
    rw [w1, w2]
    refine Ev.bind (Pow_ev a m (by omega)) ?_
    refine Ev.bind (RPow_ev a m (by omega)) ?_
    refine ev_pos rfl ?_
    refine Ev.bind (Pow_neg a _ (by omega)) ?_
    exact Ev.now _
end Go.Proofs.Ytkjgaecjdfgnmaa.Pure
