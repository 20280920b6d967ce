/- The mean of all paths is the light. -/
import Derived.Test.YtgkgnihjjabapaaXxSWalkMeans
import Derived.Test.YtgkgnihjjabapaaPu
import Derived.Test.YtgkgnihjjabapaaPw
namespace Go.Proofs.Ytgkgnihjjabapaa.Pure
open Go.RowKit Go.Proofs.Ytgkgnihjjabapaa.X Go.Proofs.YtgkgnihjjabapaaW.PrintWords Go.Proofs.YtgkgnihjjabapaaW.PrintLast Pa Pb Pc Pd Pl Gv Pq
theorem means_dark (E T G A : List Int) (on x : Int) (b : Bool) (hb : b = true) : Ev (fun k => penumbralaw35_WalkMeans.j0 k x b E T G A on) true := by
  subst hb
  refine Ev.step (fun k => by rw [penumbralaw35_WalkMeans.j0]) ?_
  exact ev_pos rfl (Ev.bind awake35 (Ev.now _))
theorem means_err (E T : List Int) (x c : Int) (hc : c ≠ 0) : Ev (fun k => penumbralaw35_WalkMeans.j2 k x [] c c E T) true := by
  refine Ev.step (fun k => by rw [penumbralaw35_WalkMeans.j2]) ?_
  refine ev_neg hc (Ev.bind awake35 (ev_pos rfl (ev_pos rfl ?_)))
  rw [beq_self_eq_true]
  exact Ev.now _
theorem means_main (E T G A : List Int) (on x : Int) : Ev (fun k => penumbralaw35_WalkMeans.j0 k x false E T G A on) true := by
  refine Ev.step (fun k => by rw [penumbralaw35_WalkMeans.j0]) ?_
  refine ev_neg (by decide) ?_
  have hj (b : Bool) (l : List Int) (e y : Int) (h : Ev (fun k => penumbralaw35_WalkMeans.j2 k x l e (if b = true then 3 else y) E T) true) : Ev (fun k => penumbralaw35_WalkMeans.j1 k x l e y b E T) true := by
    refine Ev.step (fun k => by rw [penumbralaw35_WalkMeans.j1]) ?_
    by_cases c : b = true
    · rw [if_pos c] at h
      exact ev_pos c h
    · rw [if_neg c] at h
      exact ev_neg c h
  by_cases h : chkV E T G A on = 0
  · have hs := (chk_zero h).1
    by_cases hx : x < 0 ∨ 1024 < x
    · refine Ev.bind (Mean_far h hx) (Ev.bind (RCheck_ev E T G A on) (ev_pos h ?_))
      by_cases c : x < 0
      · exact ev_pos c (hj _ _ _ _ (means_err E T x 3 (by decide)))
      · refine ev_neg c (hj _ _ _ _ ?_)
        rw [if_pos (decide_eq_true (by omega))]
        exact means_err E T x 3 (by decide)
    · obtain ⟨m, rfl⟩ := Int.eq_ofNat_of_zero_le (show 0 ≤ x by omega)
      refine Ev.bind (Mean_yes h (m := m) (by omega)) (Ev.bind (RCheck_ev E T G A on) (ev_pos h (ev_neg (by omega) (hj _ _ _ _ ?_))))
      rw [if_neg (by rw [decide_eq_false (by omega)]; decide), h]
      refine Ev.step (fun k => by rw [penumbralaw35_WalkMeans.j2]) ?_
      refine ev_pos rfl (Ev.bind awake35 (ev_pos rfl (ev_pos rfl ?_)))
      refine Ev.bind (RSum_ev hs.1 (m := m) (by omega)) ?_
      have n12 := hs.1.2.1
      refine Ev.bind (Ints_ev _ _ (by rw [rs_length]; omega)) ?_
      rw [decide_eq_true rfl]
      exact Ev.now _
  · refine Ev.bind (Mean_bad x h) (Ev.bind (RCheck_ev E T G A on) (ev_neg h (hj _ _ _ _ ?_)))
    rw [if_neg (by decide)]
    exact means_err E T x _ h
theorem WalkMeans : penumbralaw35_WalkMeans.Pure := by
  unfold penumbralaw35_WalkMeans.Pure
  intro E T G A on x _ _ _ _ _ _ _ _ _ _
  refine Ev.rounds ?_
  unfold penumbralaw35_WalkMeans.f
  rw [Few_eq]
  refine ev_some ?_
  by_cases h1 : decide (E.length ≤ 20 ∧ T.length ≤ 200) = true
  · refine ev_pos h1 ?_
    by_cases h2 : (G.length : Int) > 200
    · exact ev_pos h2 (means_dark _ _ _ _ _ _ _ rfl)
    · refine ev_neg h2 ?_
      by_cases h3 : (A.length : Int) > 30
      · exact ev_pos h3 (means_dark _ _ _ _ _ _ _ rfl)
      · refine ev_neg h3 ?_
        by_cases h4 : x > 40
        · refine ev_pos h4 ?_
          by_cases h5 : x ≤ 1024
          · exact means_dark _ _ _ _ _ _ _ (decide_eq_true h5)
          · rw [decide_eq_false h5]
            exact means_main _ _ _ _ _ _
        · exact ev_neg h4 (means_main _ _ _ _ _ _)
  · exact ev_neg h1 (means_dark _ _ _ _ _ _ _ rfl)
end Go.Proofs.Ytgkgnihjjabapaa.Pure
