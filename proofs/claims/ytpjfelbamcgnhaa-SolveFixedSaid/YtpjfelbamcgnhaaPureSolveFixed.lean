/- There is just one light that no throw changes. -/
import Derived.Test.YtpjfelbamcgnhaaXxSSolveFixed
import Derived.Test.YtpjfelbamcgnhaaNg
namespace Go.Proofs.Ytpjfelbamcgnhaa.Pure
open Go.RowKit Go.Proofs.Ytpjfelbamcgnhaa.X Go.Proofs.YtpjfelbamcgnhaaW.PrintWords Go.Proofs.YtpjfelbamcgnhaaW.PrintLast Pa Pb Pc Pd Pl Gv De

theorem fixed_dark (e t l : List Int) : Ev (fun k => penumbralaw34_SolveFixed.j0 k l true e t) true := by
  refine Ev.step (fun k => by rw [penumbralaw34_SolveFixed.j0]) ?_
  refine ev_pos rfl ?_
  exact Ev.bind awake34 (Ev.now _)
theorem fixed_j1 {e t x l : List Int} (h : right e t) (hx : fixF e t = (x, 0)) : Ev (fun k => penumbralaw34_SolveFixed.j1 k l x false e t) true := by
  obtain ⟨h1, h2, h3, h4⟩ := fix_next h hx
  have h12 := h.2.1
  refine Ev.step (fun k => by rw [penumbralaw34_SolveFixed.j1]) ?_
  refine ev_neg (by decide) ?_
  by_cases c : (l.length : Int) < (e.length : Int)
  · refine ev_pos c ?_
    exact Ev.bind awake34 (Ev.now _)
  · refine ev_neg c ?_
    refine ev_pos (Int.natCast_nonneg _) ?_
    refine ev_pos (by omega) ?_
    rw [Int.toNat_natCast]
    have hl : (l.take e.length).length = e.length := by rw [List.length_take]; omega
    refine Ev.bind (Rests_ev _ (by omega)) ?_
    generalize hz : l.take e.length = z at hl
    have hzl : (z.map of).length = e.length := by rw [List.length_map, hl]
    have hzc : (z.map of).map of = z.map of := by rw [List.map_map]; exact List.map_congr_left fun a _ => of_of a
    generalize z.map of = y at hzl hzc
    refine Ev.bind awake34 ?_
    refine ev_pos rfl ?_
    refine Ev.bind (RNext_ev h hzl) ?_
    refine Ev.bind (Ints_ev _ _ (by rw [nx_length]; omega)) ?_
    refine Ev.bind (Ints_ev _ _ (by omega)) ?_
    have key : (decide (nx e.length e t y = y) == decide (x = y)) = true := by
      rw [beq_iff_eq, decide_eq_decide]
      constructor
      · intro hn
        rw [← h4 y hzl (by rw [hn, hzc]), hzc]
      · intro hxy
        rw [← hxy]
        exact h3
    rw [key]
    exact Ev.now _
theorem fixed_j0 {e t : List Int} (l : List Int) (h20 : e.length ≤ 5) : Ev (fun k => penumbralaw34_SolveFixed.j0 k l false e t) true := by
  refine Ev.step (fun k => by rw [penumbralaw34_SolveFixed.j0]) ?_
  refine ev_neg (by decide) ?_
  refine Ev.bind (Fixed_ev e t) ?_
  rw [Right_eq e t (by omega)]
  refine ev_some ?_
  by_cases h : right e t
  · refine ev_pos (decide_eq_true h) ?_
    refine Ev.bind (Less_ev h) ?_
    refine Ev.bind (rdet_ev e.length (less e.length t) h.1 h.2.1 (less_length _ _)) ?_
    rcases fix_code h h20 with ⟨hx, hd⟩ | ⟨x, hx, hd⟩
    · refine ev_pos hd ?_
      rw [hx]
      refine Ev.bind awake34 ?_
      refine ev_pos rfl ?_
      refine ev_pos rfl ?_
      exact Ev.now _
    · refine ev_neg hd ?_
      obtain ⟨h1, h2, h3, h4⟩ := fix_next h hx
      rw [hx]
      refine ev_pos rfl ?_
      refine ev_pos (by rw [h1]) ?_
      refine Ev.bind (RNext_ev h h1) ?_
      refine Ev.bind (Ints_ev _ _ (by rw [nx_length]; omega)) ?_
      rw [h3, decide_eq_true rfl]
      exact fixed_j1 h hx
  · refine ev_neg (by rw [decide_eq_false h]; decide) ?_
    refine Ev.bind awake34 ?_
    refine ev_pos rfl ?_
    have e1 : fixF e t = ([], 14) := by unfold fixF; rw [if_neg h]
    rw [e1]
    exact Ev.now _
theorem SolveFixed : penumbralaw34_SolveFixed.Pure := by
  intro e t l _ _ _ _ _ _
  refine Ev.rounds ?_
  unfold penumbralaw34_SolveFixed.f
  rw [Few_eq]
  refine ev_some ?_
  by_cases cf : e.length ≤ 20 ∧ t.length ≤ 200
  · rw [decide_eq_true cf]
    refine ev_pos rfl ?_
    by_cases c5 : (e.length : Int) > 5
    · rw [decide_eq_true c5]
      exact fixed_dark e t l
    · rw [decide_eq_false c5]
      exact fixed_j0 l (by omega)
  · rw [decide_eq_false cf]
    refine ev_neg (by decide) ?_
    exact fixed_dark e t l
end Go.Proofs.Ytpjfelbamcgnhaa.Pure
