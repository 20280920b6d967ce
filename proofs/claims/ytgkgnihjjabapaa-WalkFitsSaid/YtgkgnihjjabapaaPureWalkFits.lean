/- Whether any chances fit any model, and how much both ways count. -/
import Derived.Test.YtgkgnihjjabapaaXxSWalkFits
import Derived.Test.YtgkgnihjjabapaaPq
import Derived.Test.YtgkgnihjjabapaaPw
namespace Go.Proofs.Ytgkgnihjjabapaa.Pure
open Go.RowKit Go.Proofs.Ytgkgnihjjabapaa.X Go.Proofs.YtgkgnihjjabapaaW.PrintWords Go.Proofs.YtgkgnihjjabapaaW.PrintLast Pa Pb Pc Pd Pl Gv Pq
theorem fits_dark (E T G A : List Int) (on x y : Int) (b : Bool) (hb : b = true) : Ev (fun k => penumbralaw35_WalkFits.j0 k x y b E T G A on) true := by
  subst hb
  refine Ev.step (fun k => by rw [penumbralaw35_WalkFits.j0]) ?_
  exact ev_pos rfl (Ev.bind awake35 (Ev.now _))
theorem fits_far (G A : List Int) (on x y n : Int) (b : Bool) (hb : b = true) : Ev (fun k => penumbralaw35_WalkFits.j2 k x y n 0 0 b G A on) true := by
  subst hb
  refine Ev.step (fun k => by rw [penumbralaw35_WalkFits.j2]) ?_
  exact ev_pos rfl (Ev.bind awake35 (ev_pos rfl (ev_pos rfl (Ev.now _))))
theorem fits_main (E T G A : List Int) (on x y : Int) : Ev (fun k => penumbralaw35_WalkFits.j0 k x y false E T G A on) true := by
  refine Ev.step (fun k => by rw [penumbralaw35_WalkFits.j0]) ?_
  refine ev_neg (by decide) ?_
  have hc := Check_ev E T G A on
  by_cases h : chkV E T G A on = 0
  · rw [if_pos h] at hc
    have hs := (chk_zero h).1
    by_cases hx : x < 0 ∨ y < 0 ∨ x ≥ (E.length : Int) ∨ y ≥ (E.length : Int)
    · refine Ev.bind hc (Ev.bind (Weights_far E T G A on x y h hx) (Ev.bind (RCheck_ev E T G A on) (ev_pos h (ev_pos rfl ?_))))
      refine Ev.step (fun k => by rw [penumbralaw35_WalkFits.j1]) ?_
      refine ev_neg (show ¬ ((0 : Int) != 0) = true by decide) ?_
      by_cases c1 : x < 0
      · exact ev_pos c1 (fits_far _ _ _ _ _ _ _ rfl)
      · refine ev_neg c1 ?_
        by_cases c2 : y < 0
        · exact ev_pos c2 (fits_far _ _ _ _ _ _ _ rfl)
        · refine ev_neg c2 ?_
          by_cases c3 : x ≥ (E.length : Int)
          · exact ev_pos c3 (fits_far _ _ _ _ _ _ _ rfl)
          · exact ev_neg c3 (fits_far _ _ _ _ _ _ _ (decide_eq_true (by omega)))
    · obtain ⟨i, rfl⟩ := Int.eq_ofNat_of_zero_le (show 0 ≤ x by omega)
      obtain ⟨j, rfl⟩ := Int.eq_ofNat_of_zero_le (show 0 ≤ y by omega)
      refine Ev.bind hc (Ev.bind (Weights_ok E T G A on i j h (by omega) (by omega)) (Ev.bind (RCheck_ev E T G A on) (ev_pos h (ev_pos rfl ?_))))
      refine Ev.step (fun k => by rw [penumbralaw35_WalkFits.j1]) ?_
      refine ev_neg (show ¬ ((0 : Int) != 0) = true by decide) (ev_neg (by omega) (ev_neg (by omega) (ev_neg (by omega) ?_)))
      rw [decide_eq_false (by omega)]
      refine Ev.step (fun k => by rw [penumbralaw35_WalkFits.j2]) ?_
      refine ev_neg (by decide) (Ev.bind (RWeights_ev G A on E.length i j hs.1.2.1 (by omega) (by omega) hs.2.1 hs.2.2) (Ev.bind awake35 (ev_pos rfl (ev_pos rfl (ev_pos rfl ?_)))))
      rw [RAdd_eq, wts_one]
      exact ev_some (Ev.now _)
  · rw [if_neg h] at hc
    refine Ev.bind hc (Ev.bind (Weights_bad E T G A on x y h) (Ev.bind (RCheck_ev E T G A on) (ev_neg h (Ev.bind awake35 (ev_pos rfl (ev_pos rfl (ev_pos rfl (ev_pos rfl (Ev.now _)))))))))
theorem WalkFits : penumbralaw35_WalkFits.Pure := by
  unfold penumbralaw35_WalkFits.Pure
  intro E T G A on x y _ _ _ _ _ _ _ _ _ _ _
  refine Ev.rounds ?_
  unfold penumbralaw35_WalkFits.f
  rw [Few_eq]
  refine ev_some ?_
  by_cases h1 : decide (E.length ≤ 20 ∧ T.length ≤ 200) = true
  · refine ev_pos h1 ?_
    by_cases h2 : (G.length : Int) > 200
    · exact ev_pos h2 (fits_dark _ _ _ _ _ _ _ _ rfl)
    · refine ev_neg h2 ?_
      by_cases h3 : (A.length : Int) > 30
      · exact fits_dark _ _ _ _ _ _ _ _ (decide_eq_true h3)
      · rw [decide_eq_false h3]
        exact fits_main _ _ _ _ _ _ _
  · exact ev_neg h1 (fits_dark _ _ _ _ _ _ _ _ rfl)
end Go.Proofs.Ytgkgnihjjabapaa.Pure
