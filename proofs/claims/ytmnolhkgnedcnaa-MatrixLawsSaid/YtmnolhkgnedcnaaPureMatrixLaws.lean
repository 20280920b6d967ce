/- Products in any order of brackets. -/
import Derived.Test.YtmnolhkgnedcnaaXxL31MatrixLaws
import Derived.Test.YtmnolhkgnedcnaaPb
namespace Go.Proofs.Ytmnolhkgnedcnaa.Pure
open Go.RowKit Go.Proofs.Ytmnolhkgnedcnaa.X Go.Proofs.YtmnolhkgnedcnaaW.PrintWords Go.Proofs.YtmnolhkgnedcnaaW.PrintLast Pa Pb Pl Gv

theorem laws_dark (a b : List Int) (t : Int) : Ev (fun k => penumbralaw31_MatrixLaws.j0 k a b t true) true := by
  refine Ev.step (fun k => by rw [penumbralaw31_MatrixLaws.j0]) ?_
  refine ev_pos rfl ?_
  exact Ev.bind awake31 (Ev.now _)
theorem laws_light {n : Nat} {l v : List Int} (h1 : 1 ≤ n) (h4 : n ≤ 4) (hl : 3 * (n * n) ≤ l.length) (hv : n ≤ v.length) : Ev (fun k => penumbralaw31_MatrixLaws.j0 k l v (n : Int) false) true := by
  have hnn : n * n ≤ 4 * 4 := Nat.mul_le_mul (by omega) (by omega)
  have w1 : wrap64 ((n : Int) * (n : Int)) = ((n * n : Nat) : Int) := by
    rw [show ((n : Int) * (n : Int)) = ((n * n : Nat) : Int) from by simp]; exact wrap_id (by omega) (by omega)
  have w2 : wrap64 (wrap64 (2 * (n : Int)) * (n : Int)) = ((2 * (n * n) : Nat) : Int) := by
    rw [wrap_id (n := 2 * (n : Int)) (by omega) (by omega), show (2 * (n : Int) * (n : Int)) = ((2 * (n * n) : Nat) : Int) from by rw [Int.mul_assoc]; simp]; exact wrap_id (by omega) (by omega)
  have w3 : wrap64 (wrap64 (3 * (n : Int)) * (n : Int)) = ((3 * (n * n) : Nat) : Int) := by
    rw [wrap_id (n := 3 * (n : Int)) (by omega) (by omega), show (3 * (n : Int) * (n : Int)) = ((3 * (n * n) : Nat) : Int) from by rw [Int.mul_assoc]; simp]; exact wrap_id (by omega) (by omega)
  refine Ev.step (fun k => by rw [penumbralaw31_MatrixLaws.j0]) ?_
  refine ev_neg (by decide) ?_
  rw [w1, w2, w3]
  simp only [Int.toNat_natCast]
  have la : (l.take (n * n)).length = n * n := by rw [List.length_take]; omega
  have lb : ((l.take (2 * (n * n))).drop (n * n)).length = n * n := by rw [List.length_drop, List.length_take]; omega
  have lc : ((l.take (3 * (n * n))).drop (2 * (n * n))).length = n * n := by rw [List.length_drop, List.length_take]; omega
  have lv : (v.take n).length = n := by rw [List.length_take]; omega
  generalize l.take (n * n) = a at *
  generalize (l.take (2 * (n * n))).drop (n * n) = b at *
  generalize (l.take (3 * (n * n))).drop (2 * (n * n)) = c at *
  generalize v.take n = u at *
  have S : ∀ x : List Int, x.length = n * n → sideOf x.length = n := fun x hx => side_of h1 (by omega) hx
  have n0 : n ≠ 0 := by omega
  refine ev_pos (by omega) ?_
  refine ev_pos (by omega) ?_
  refine ev_some ?_
  refine ev_pos (by omega) ?_
  refine ev_pos (by omega) ?_
  refine ev_some ?_
  refine ev_pos (by omega) ?_
  refine ev_pos (by omega) ?_
  refine ev_pos (by omega) ?_
  refine ev_some ?_
  refine ev_pos (by omega) ?_
  refine ev_pos (by omega) ?_
  refine ev_some ?_
  rw [Mul_yes n0 (S _ la) (S _ lb)]
  refine ev_some ?_
  rw [Mul_yes n0 (S _ lb) (S _ lc)]
  refine ev_some ?_
  rw [Mul_yes n0 (S _ (mm_length n a b)) (S _ lc)]
  refine ev_some ?_
  rw [Mul_yes n0 (S _ la) (S _ (mm_length n b c))]
  refine ev_some ?_
  refine Ev.bind (Apply_yes n0 (S _ (mm_length n a b)) lv) ?_
  refine Ev.bind (Apply_yes n0 (S _ lb) lv) ?_
  refine Ev.bind (Apply_yes n0 (S _ la) (mv_length n b u)) ?_
  refine ev_pos rfl ?_
  refine ev_pos rfl ?_
  refine ev_pos rfl ?_
  refine ev_pos rfl ?_
  refine ev_pos rfl ?_
  refine ev_pos rfl ?_
  refine Ev.bind awake31 ?_
  refine ev_pos rfl ?_
  refine ev_pos rfl ?_
  refine Ev.bind (Ints_ev _ _ (by rw [mm_length]; omega)) ?_
  refine ev_pos (by rw [decide_eq_true_eq]; exact mm_assoc n a b c) ?_
  refine Ev.bind (Ints_ev _ _ (by rw [mv_length]; omega)) ?_
  rw [decide_eq_true (mv_mm n a b u)]
  exact Ev.now _

theorem MatrixLaws : penumbralaw31_MatrixLaws.Pure := by
  intro s l v hs h1 h2 _ h3 _ _
  have hs' := byte_wf hs
  refine Ev.rounds ?_
  unfold penumbralaw31_MatrixLaws.f
  obtain ⟨n, hn1, hn4, hn⟩ : ∃ n : Nat, 1 ≤ n ∧ n ≤ 4 ∧ wrap64 (wrap64 (Int.tmod s 4) + 1) = (n : Int) := by
    refine ⟨(s % 4).toNat + 1, by omega, by omega, ?_⟩
    rw [Int.tmod_eq_emod_of_nonneg hs'.1, wrap_id (n := s % 4) (by omega) (by omega), wrap_id (by omega) (by omega)]
    omega
  rw [hn]
  have hnn : n * n ≤ 4 * 4 := Nat.mul_le_mul (by omega) (by omega)
  have w3 : wrap64 (wrap64 (3 * (n : Int)) * (n : Int)) = ((3 * (n * n) : Nat) : Int) := by
    rw [wrap_id (n := 3 * (n : Int)) (by omega) (by omega), show (3 * (n : Int) * (n : Int)) = ((3 * (n * n) : Nat) : Int) from by rw [Int.mul_assoc]; simp]; exact wrap_id (by omega) (by omega)
  rw [w3]
  by_cases c : l.length < 3 * (n * n)
  · exact ev_pos (by omega) (laws_dark l v _)
  · refine ev_neg (by omega) ?_
    by_cases cv : v.length < n
    · rw [show decide ((v.length : Int) < (n : Int)) = true from decide_eq_true (by omega)]
      exact laws_dark l v _
    · rw [show decide ((v.length : Int) < (n : Int)) = false from decide_eq_false (by omega)]
      exact laws_light hn1 hn4 (by omega) (by omega)

end Go.Proofs.Ytmnolhkgnedcnaa.Pure
