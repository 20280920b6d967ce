/- Sums and products of the field in any order; a product of a sum is the sum of products; powers add: for any three numbers and any two powers below 65536, with no condition. -/
import Derived.Test.YtkjgaecjdfgnmaaXxSFieldLaws
import Derived.Test.YtkjgaecjdfgnmaaPa
namespace Go.Proofs.Ytkjgaecjdfgnmaa.Pure
open Go.RowKit Go.Proofs.Ytkjgaecjdfgnmaa.X Go.Proofs.YtkjgaecjdfgnmaaW.PrintWords Go.Proofs.YtkjgaecjdfgnmaaW.PrintLast Pa Pl Gv

theorem FieldLaws : penumbralaw30_FieldLaws.Pure := by
  intro a b c m n _ _ _ wm wn
  refine Ev.rounds ?_
  obtain ⟨hm0, hm1⟩ : 0 ≤ m ∧ m ≤ 65535 := by
    simp only [Lit.wf, Bool.and_eq_true, decide_eq_true_eq] at wm
    exact wm
  obtain ⟨hn0, hn1⟩ : 0 ≤ n ∧ n ≤ 65535 := by
    simp only [Lit.wf, Bool.and_eq_true, decide_eq_true_eq] at wn
    exact wn
  obtain ⟨m, rfl⟩ := Int.eq_ofNat_of_zero_le hm0
  obtain ⟨n, rfl⟩ := Int.eq_ofNat_of_zero_le hn0
  have w1 : wrap64 ((m : Int)) = (m : Int) := wrap_id (by omega) (by omega)
  have w2 : wrap64 ((n : Int)) = (n : Int) := wrap_id (by omega) (by omega)
  have w3 : wrap64 ((m : Int) + (n : Int)) = ((m + n : Nat) : Int) := by rw [wrap_id (by omega) (by omega)]; simp
  unfold penumbralaw30_FieldLaws.f
  rw [Add2_eq]
  refine ev_some ?_
  rw [Mul2_eq]
  refine ev_some ?_
  rw [Mul2_eq]
  refine ev_some ?_
  rw [Mul2_eq]
  refine ev_some ?_
  rw [Add2_eq]
  refine ev_some ?_
  rw [w1, w2, w3]
  refine Ev.bind (Pow_ev a m (by omega)) ?_
  refine Ev.bind (Pow_ev a n (by omega)) ?_
  rw [Mul2_eq]
  refine ev_some ?_
  refine Ev.bind awake30 ?_
  refine ev_pos rfl ?_
  refine ev_pos (by rw [of_mul_right, Int.mul_add, of_add]) ?_
  rw [Add2_eq, Add2_eq]
  refine ev_some ?_
  refine ev_some ?_
  refine ev_pos (by rw [Int.add_comm]) ?_
  rw [Mul2_eq]
  refine ev_some ?_
  refine ev_some ?_
  refine ev_pos (by rw [Int.mul_comm]) ?_
  refine Ev.bind (Pow_ev a (m + n) (by omega)) ?_
  refine ev_pos (pw_add a m n).symm ?_
  rw [Sub_eq]
  refine ev_some ?_
  rw [Add2_eq]
  refine ev_some ?_
  rw [Of_eq]
  refine ev_some ?_
  rw [show (of (of (a - b) + b) == of a) = true from by rw [beq_iff_eq, of_add_left]; congr 1; omega]
  exact Ev.now _

end Go.Proofs.Ytkjgaecjdfgnmaa.Pure
