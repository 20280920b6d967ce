/- The light is a sum of any depth, and just what is left. -/
import Derived.Test.YtpjfelbamcgnhaaXxSSolveRests
import Derived.Test.YtpjfelbamcgnhaaNg
namespace Go.Proofs.Ytpjfelbamcgnhaa.Pure
open Go.RowKit Go.Proofs.Ytpjfelbamcgnhaa.X Go.Proofs.YtpjfelbamcgnhaaW.PrintWords Go.Proofs.YtpjfelbamcgnhaaW.PrintLast Pa Pb Pc Pd Pl Gv De

theorem rests_dark (e t : List Int) (a : Int) : Ev (fun k => penumbralaw34_SolveRests.j0 k a true e t) true := by
  refine Ev.step (fun k => by rw [penumbralaw34_SolveRests.j0]) ?_
  refine ev_pos rfl ?_
  exact Ev.bind awake34 (Ev.now _)
theorem rests_range (e t x : List Int) (a : Int) : Ev (fun k => penumbralaw34_SolveRests.j1 k a x [] 3 true e t) true := by
  refine Ev.step (fun k => by rw [penumbralaw34_SolveRests.j1]) ?_
  refine ev_pos rfl ?_
  refine Ev.bind awake34 ?_
  refine ev_pos rfl ?_
  refine ev_pos rfl ?_
  exact Ev.now _
theorem rests_j0 {e t : List Int} {a : Int} (h : right e t) (ha : a ≤ 40 ∨ 1024 < a) : Ev (fun k => penumbralaw34_SolveRests.j0 k a false e t) true := by
  have h12 := h.2.1
  refine Ev.step (fun k => by rw [penumbralaw34_SolveRests.j0]) ?_
  refine ev_neg (by decide) ?_
  refine Ev.bind (Fixed_ev e t) ?_
  obtain ⟨x, c, hx⟩ : ∃ x c, fixF e t = (x, c) := ⟨_, _, rfl⟩
  rw [hx]
  by_cases hc : c = 0
  · subst hc
    obtain ⟨h1, h2, h3, h4⟩ := fix_next h hx
    by_cases hr : a < 0 ∨ 1024 < a
    · refine Ev.bind (Rest_range h hx hr) ?_
      refine ev_pos rfl ?_
      by_cases hn : a < 0
      · exact ev_pos hn (rests_range e t x a)
      · refine ev_neg hn ?_
        rw [decide_eq_true (show a > 1024 by omega)]
        exact rests_range e t x a
    · obtain ⟨m, rfl⟩ := Int.eq_ofNat_of_zero_le (show 0 ≤ a by omega)
      refine Ev.bind (Rest_yes h hx h1 (m := m) (by omega)) ?_
      refine ev_pos rfl ?_
      refine ev_neg (by omega) ?_
      rw [decide_eq_false (show ¬ ((m : Int) > 1024) by omega)]
      refine Ev.step (fun k => by rw [penumbralaw34_SolveRests.j1]) ?_
      refine ev_neg (by decide) ?_
      refine Ev.bind awake34 ?_
      refine ev_pos rfl ?_
      refine ev_pos rfl ?_
      have hi : (itv e.length t (m + 1) x).length = e.length := itv_length _ _ h1
      refine Ev.bind (RSum_ev h (m := m) (by omega)) ?_
      refine Ev.bind (RPlus_ev (n := e.length) (by omega) (rs_length _ _ _) hi) ?_
      refine Ev.bind (Ints_ev _ _ (by unfold plus; rw [tab_length]; omega)) ?_
      refine ev_pos (decide_eq_true (fix_rest h1 h2 h3 m)) ?_
      rw [sucW m (by omega)]
      have hr2 : right x t := ⟨by rw [h1]; exact h.1, by rw [h1]; exact h.2.1, by rw [h1]; exact h.2.2⟩
      refine Ev.bind (RTerm_ev hr2 (m := m + 1) (by omega)) ?_
      rw [h1, h2]
      refine Ev.bind (Ints_ev _ _ (by rw [hi]; omega)) ?_
      rw [decide_eq_true rfl]
      exact Ev.now _
  · refine Ev.bind (Rest_no hx hc a) ?_
    refine ev_neg hc ?_
    refine Ev.bind awake34 ?_
    refine ev_pos rfl ?_
    dsimp only
    rw [beq_self_eq_true]
    exact Ev.now _
theorem SolveRests : penumbralaw34_SolveRests.Pure := by
  intro e t a _ _ _ _ _
  refine Ev.rounds ?_
  unfold penumbralaw34_SolveRests.f
  rw [Few_eq]
  refine ev_some ?_
  by_cases cf : e.length ≤ 20 ∧ t.length ≤ 200
  · rw [decide_eq_true cf]
    refine ev_pos rfl ?_
    rw [Right_eq e t cf.1]
    refine ev_some ?_
    by_cases h : right e t
    · refine ev_pos (decide_eq_true h) ?_
      by_cases c5 : (e.length : Int) > 5
      · exact ev_pos c5 (rests_dark e t a)
      · refine ev_neg c5 ?_
        by_cases c4 : a > 40
        · refine ev_pos c4 ?_
          by_cases c1 : a ≤ 1024
          · rw [decide_eq_true c1]
            exact rests_dark e t a
          · rw [decide_eq_false c1]
            exact rests_j0 h (by omega)
        · refine ev_neg c4 ?_
          exact rests_j0 h (by omega)
    · rw [decide_eq_false h]
      refine ev_neg (by decide) ?_
      exact rests_dark e t a
  · rw [decide_eq_false cf]
    refine ev_neg (by decide) ?_
    exact rests_dark e t a
end Go.Proofs.Ytpjfelbamcgnhaa.Pure
