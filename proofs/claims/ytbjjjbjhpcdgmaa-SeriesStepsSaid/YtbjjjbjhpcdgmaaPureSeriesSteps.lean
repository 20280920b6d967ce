/- A sum that goes one deeper is what shines, and the sum thrown. -/
import Derived.Test.YtbjjjbjhpcdgmaaXxSSeriesSteps
import Derived.Test.YtbjjjbjhpcdgmaaPd
namespace Go.Proofs.Ytbjjjbjhpcdgmaa.Pure
open Go.RowKit Go.Proofs.Ytbjjjbjhpcdgmaa.X Go.Proofs.YtbjjjbjhpcdgmaaW.PrintWords Go.Proofs.YtbjjjbjhpcdgmaaW.PrintLast Pa Pb Pc Pd Pl Gv

theorem steps_dark (e t : List Int) (a : Int) : Ev (fun k => penumbralaw33_SeriesSteps.j0 k a true e t) true := by
  refine Ev.step (fun k => by rw [penumbralaw33_SeriesSteps.j0]) ?_
  refine ev_pos rfl ?_
  exact Ev.bind awake33 (Ev.now _)
theorem steps_j0 {e t : List Int} {c : Int} (h : right e t) (hc : 0 ≤ c ∧ c ≤ 255) : Ev (fun k => penumbralaw33_SeriesSteps.j0 k c false e t) true := by
  have h2 := h.2.1
  refine Ev.step (fun k => by rw [penumbralaw33_SeriesSteps.j0]) ?_
  refine ev_neg (by decide) ?_
  obtain ⟨m, hm, hcm⟩ : ∃ m : Nat, m < 30 ∧ wrap64 (Int.tmod c 30) = (m : Int) := by
    refine ⟨(c % 30).toNat, by omega, ?_⟩
    rw [Int.tmod_eq_emod_of_nonneg hc.1, wrap_id (by omega) (by omega)]
    omega
  rw [hcm, sucW m (by omega), Sum_yes h (by omega), Sum_yes h (by omega)]
  refine ev_some ?_
  refine ev_some ?_
  refine ev_pos rfl ?_
  refine ev_pos rfl ?_
  have e1 : (((rs e t m).length : Int) != (e.length : Int)) = false := by rw [rs_length]; simp
  rw [e1]
  refine Ev.step (fun k => by rw [penumbralaw33_SeriesSteps.j1]) ?_
  refine ev_neg (by decide) ?_
  refine Ev.bind (Next_yes h (rs_length e t m)) ?_
  refine Ev.bind awake33 ?_
  refine ev_pos rfl ?_
  refine ev_pos rfl ?_
  refine Ev.bind (Ints_ev _ _ (by rw [nx_length]; omega)) ?_
  have e2 : decide (nx e.length e t (rs e t m) = rs e t (m + 1)) = true := decide_eq_true rfl
  rw [e2]
  exact Ev.now _
theorem SeriesSteps : penumbralaw33_SeriesSteps.Pure := by
  intro e t c _ _ _ _ hc
  have hc' := byte_wf hc
  refine Ev.rounds ?_
  unfold penumbralaw33_SeriesSteps.f
  rw [Few_eq]
  refine ev_some ?_
  by_cases cf : e.length ≤ 20 ∧ t.length ≤ 200
  · rw [decide_eq_true cf]
    refine ev_pos rfl ?_
    rw [Right_eq e t cf.1]
    refine ev_some ?_
    by_cases h : right e t
    · rw [decide_eq_true h]
      exact steps_j0 h hc'
    · rw [decide_eq_false h]
      exact steps_dark e t c
  · rw [decide_eq_false cf]
    refine ev_neg (by decide) ?_
    exact steps_dark e t c
end Go.Proofs.Ytbjjjbjhpcdgmaa.Pure
