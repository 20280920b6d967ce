/- Any state behind a throw. -/
import Derived.Test.YtknmhlneeelaoaaXxSGraphThrows
import Derived.Test.YtknmhlneeelaoaaPc
namespace Go.Proofs.Ytknmhlneeelaoaa.Pure
open Go.RowKit Go.Proofs.Ytknmhlneeelaoaa.X Go.Proofs.YtknmhlneeelaoaaW.PrintWords Go.Proofs.YtknmhlneeelaoaaW.PrintLast Pa Pb Pc Pl Gv

theorem throws_dark (l e t : List Int) : Ev (fun k => penumbralaw32_GraphThrows.j0 k l true e t) true := by
  refine Ev.step (fun k => by rw [penumbralaw32_GraphThrows.j0]) ?_
  refine ev_pos rfl ?_
  exact Ev.bind awake32 (Ev.now _)
theorem GraphThrows : penumbralaw32_GraphThrows.Pure := by
  intro e t l _ _ _ _ _ _
  refine Ev.rounds ?_
  unfold penumbralaw32_GraphThrows.f
  rw [Few_eq]
  refine ev_some ?_
  by_cases cf : e.length ≤ 20 ∧ t.length ≤ 200
  · rw [decide_eq_true cf]
    refine ev_pos rfl ?_
    by_cases cl : l.length > 30
    · rw [show decide ((l.length : Int) > 30) = true from decide_eq_true (by omega)]
      exact throws_dark l e t
    · rw [show decide ((l.length : Int) > 30) = false from decide_eq_false (by omega)]
      refine Ev.step (fun k => by rw [penumbralaw32_GraphThrows.j0]) ?_
      refine ev_neg (by decide) ?_
      by_cases h : right e t
      · rw [Check_yes h]
        refine ev_some ?_
        have h2 := h.2.1
        by_cases hl : l.length = e.length
        · refine Ev.bind (Thrown_yes h hl) ?_
          refine Ev.bind (Next_yes h hl) ?_
          rw [Right_eq e t cf.1]
          refine ev_some ?_
          rw [decide_eq_true h]
          refine ev_pos rfl ?_
          refine ev_pos (by omega) ?_
          refine Ev.bind awake32 ?_
          refine ev_pos rfl ?_
          refine ev_pos rfl ?_
          refine ev_pos rfl ?_
          refine ev_pos rfl ?_
          refine Ev.bind (RApply_ev (by omega) h.2.2 hl) ?_
          refine Ev.bind (Ints_ev _ _ (by rw [mv_length]; omega)) ?_
          refine ev_pos (decide_eq_true rfl) ?_
          refine Ev.bind (RNext_ev h hl) ?_
          refine Ev.bind (Ints_ev _ _ (by rw [nx_length]; omega)) ?_
          rw [decide_eq_true rfl]
          exact Ev.now _
        · refine Ev.bind (Thrown_len h hl) ?_
          refine Ev.bind (Next_len h hl) ?_
          rw [Right_eq e t cf.1]
          refine ev_some ?_
          rw [decide_eq_true h]
          refine ev_pos rfl ?_
          refine ev_neg (by omega) ?_
          refine Ev.bind awake32 ?_
          refine ev_pos rfl ?_
          refine ev_pos rfl ?_
          refine ev_pos rfl ?_
          refine ev_pos rfl ?_
          refine ev_pos rfl ?_
          have e0 : (wrap64 ((([] : List Int).length : Int) + (([] : List Int).length : Int)) == 0) = true := by simp [wrap64]
          rw [e0]
          exact Ev.now _
      · rw [Check_no h]
        refine ev_some ?_
        refine Ev.bind (Thrown_no h) ?_
        refine Ev.bind (Next_no h) ?_
        rw [Right_eq e t cf.1]
        refine ev_some ?_
        rw [decide_eq_false h]
        refine ev_neg (by decide) ?_
        refine Ev.bind awake32 ?_
        refine ev_pos rfl ?_
        refine ev_pos rfl ?_
        refine ev_pos rfl ?_
        refine ev_pos rfl ?_
        exact Ev.now _
  · rw [decide_eq_false cf]
    refine ev_neg (by decide) ?_
    exact throws_dark l e t

end Go.Proofs.Ytknmhlneeelaoaa.Pure
