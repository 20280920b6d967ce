/- Sides, the table that changes nothing, sameness. -/
import Derived.Test.YtmnolhkgnedcnaaXxL31MatrixLooks
import Derived.Test.YtmnolhkgnedcnaaPb
namespace Go.Proofs.Ytmnolhkgnedcnaa.Pure
open Go.RowKit Go.Proofs.Ytmnolhkgnedcnaa.X Go.Proofs.YtmnolhkgnedcnaaW.PrintWords Go.Proofs.YtmnolhkgnedcnaaW.PrintLast Pa Pb Pl Gv

theorem light_eq (l : List Int) : penumbralaw31_light.f l = some (decide (l.length ≤ 200)) := by
  unfold penumbralaw31_light.f
  congr 1
  exact decide_eq_decide.2 (by omega)
theorem looks_dark (a b : List Int) (t : Int) : Ev (fun k => penumbralaw31_MatrixLooks.j0 k a b t true) true := by
  refine Ev.step (fun k => by rw [penumbralaw31_MatrixLooks.j0]) ?_
  refine ev_pos rfl ?_
  exact Ev.bind awake31 (Ev.now _)
theorem map_of_of (l : List Int) : (l.map of).map of = l.map of := by
  rw [List.map_map]
  exact List.map_congr_left fun x _ => of_of x
theorem looks_j2 {a b : List Int} (ha : a.length ≤ 200) (hb : b.length ≤ 200) : Ev (fun k => penumbralaw31_MatrixLooks.j2 k a b) true := by
  refine Ev.step (fun k => by rw [penumbralaw31_MatrixLooks.j2]) ?_
  refine Ev.bind awake31 ?_
  refine ev_pos rfl ?_
  rw [Side_eq]
  refine ev_some ?_
  refine Ev.bind (RSide_ev a) ?_
  refine ev_pos rfl ?_
  refine Ev.bind (Same_ev a b (by omega) (by omega)) ?_
  refine Ev.bind (Rests_ev a (by omega)) ?_
  refine Ev.bind (Rests_ev b (by omega)) ?_
  refine Ev.bind (Ints_ev _ _ (by rw [List.length_map]; omega)) ?_
  refine ev_pos (by simp) ?_
  refine Ev.bind (Rests_ev a (by omega)) ?_
  refine Ev.bind (Same_ev a (a.map of) (by omega) (by rw [List.length_map]; omega)) ?_
  rw [map_of_of, decide_eq_true rfl]
  exact Ev.now _
theorem looks_none {a b : List Int} (t : Int) : Ev (fun k => penumbralaw31_MatrixLooks.j1 k a b t [] true) true := by
  refine Ev.step (fun k => by rw [penumbralaw31_MatrixLooks.j1]) ?_
  refine ev_pos rfl ?_
  refine Ev.bind awake31 ?_
  refine ev_pos rfl ?_
  refine ev_pos rfl ?_
  rw [Side_eq]
  refine ev_some ?_
  refine Ev.bind (RSide_ev a) ?_
  rw [beq_self_eq_true]
  exact Ev.now _

theorem MatrixLooks : penumbralaw31_MatrixLooks.Pure := by
  intro a b t h1 h2 _ h3 _ _ _
  refine Ev.rounds ?_
  unfold penumbralaw31_MatrixLooks.f
  rw [light_eq, light_eq]
  by_cases ca : a.length ≤ 200
  · rw [decide_eq_true ca]
    refine ev_some ?_
    refine ev_pos rfl ?_
    refine ev_some ?_
    by_cases cb : b.length ≤ 200
    · rw [decide_eq_true cb]
      refine Ev.step (fun k => by rw [penumbralaw31_MatrixLooks.j0]) ?_
      refine ev_neg (by decide) ?_
      by_cases c0 : t < 1
      · refine Ev.bind (One_no (.inl c0)) ?_
        refine ev_pos c0 ?_
        exact looks_none t
      · by_cases c1 : 12 < t
        · refine Ev.bind (One_no (.inr c1)) ?_
          refine ev_neg c0 ?_
          rw [show decide (t > 12) = true from decide_eq_true c1]
          exact looks_none t
        · obtain ⟨n, rfl⟩ := Int.eq_ofNat_of_zero_le (show 0 ≤ t from by omega)
          have hnn : n * n ≤ 12 * 12 := Nat.mul_le_mul (by omega) (by omega)
          have w0 : wrap64 ((n : Int) * (n : Int)) = ((n * n : Nat) : Int) := by
            rw [show ((n : Int) * (n : Int)) = ((n * n : Nat) : Int) from by simp]; exact wrap_id (by omega) (by omega)
          refine Ev.bind (One_ev (n := n) (by omega) (by omega)) ?_
          refine ev_neg c0 ?_
          rw [show decide ((n : Int) > 12) = false from decide_eq_false c1]
          refine Ev.step (fun k => by rw [penumbralaw31_MatrixLooks.j1]) ?_
          refine ev_neg (by decide) ?_
          refine ev_pos (by rw [unit_length, w0]) ?_
          refine Ev.bind (RSide_ev a) ?_
          by_cases c2 : sideOf a.length = n
          · have hl := side_len (l := a) (by omega)
            rw [c2] at hl
            refine ev_pos (by omega) ?_
            rw [Mul_yes (n := n) (by omega) (side_of (by omega) (by omega) (unit_length n)) c2]
            refine ev_some ?_
            refine ev_pos rfl ?_
            refine Ev.bind (Rests_ev a (by omega)) ?_
            refine Ev.bind (Ints_ev _ _ (by rw [mm_length]; omega)) ?_
            refine ev_pos (by rw [decide_eq_true_eq]; exact unit_mm n a hl) ?_
            exact looks_j2 ca cb
          · refine ev_neg (by omega) ?_
            exact looks_j2 ca cb
    · rw [decide_eq_false cb]
      exact looks_dark a b t
  · rw [decide_eq_false ca]
    refine ev_some ?_
    refine ev_neg (by decide) ?_
    exact looks_dark a b t

end Go.Proofs.Ytmnolhkgnedcnaa.Pure
