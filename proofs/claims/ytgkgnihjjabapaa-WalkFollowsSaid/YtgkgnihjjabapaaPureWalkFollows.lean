/- The value and the chance of any path. -/
import Derived.Test.YtgkgnihjjabapaaXxSWalkFollows
import Derived.Test.YtgkgnihjjabapaaPzr
import Derived.Test.YtgkgnihjjabapaaPw
namespace Go.Proofs.Ytgkgnihjjabapaa.Pure
open Go.RowKit Go.Proofs.Ytgkgnihjjabapaa.X Go.Proofs.YtgkgnihjjabapaaW.PrintWords Go.Proofs.YtgkgnihjjabapaaW.PrintLast Pa Pb Pc Pd Pl Gv Pq
theorem follows_dark (E T G A : List Int) (on x : Int) (l : List S50) (b : Bool) (hb : b = true) : Ev (fun k => penumbralaw35_WalkFollows.j0 k x l b E T G A on) true := by
  subst hb
  refine Ev.step (fun k => by rw [penumbralaw35_WalkFollows.j0]) ?_
  exact ev_pos rfl (Ev.bind awake35 (Ev.now _))
theorem follows_err (E T G A : List Int) (on x c : Int) (l : List S50) (hc : c ≠ 0) : Ev (fun k => penumbralaw35_WalkFollows.j2 k x l 0 0 c c E T G A on) true := by
  refine Ev.step (fun k => by rw [penumbralaw35_WalkFollows.j2]) ?_
  refine ev_neg hc (Ev.bind awake35 (ev_pos rfl (ev_pos rfl (ev_pos rfl ?_))))
  rw [beq_self_eq_true]
  exact Ev.now _
theorem follows_main (E T G A : List Int) (on x : Int) (l : List S50) (hl : l.length ≤ 20) : Ev (fun k => penumbralaw35_WalkFollows.j0 k x l false E T G A on) true := by
  refine Ev.step (fun k => by rw [penumbralaw35_WalkFollows.j0]) ?_
  refine ev_neg (by decide) ?_
  have hc := Check_ev E T G A on
  have hj (b : Bool) (v p e y : Int) (h : Ev (fun k => penumbralaw35_WalkFollows.j2 k x l v p e (if b = true then 3 else y) E T G A on) true) : Ev (fun k => penumbralaw35_WalkFollows.j1 k x l v p e y b E T G A on) true := by
    refine Ev.step (fun k => by rw [penumbralaw35_WalkFollows.j1]) ?_
    by_cases c : b = true
    · rw [if_pos c] at h
      exact ev_pos c h
    · rw [if_neg c] at h
      exact ev_neg c h
  by_cases h : chkV E T G A on = 0
  · rw [if_pos h] at hc
    obtain ⟨hs, hon, -⟩ := chk_zero h
    by_cases hx : 0 ≤ x ∧ x < (E.length : Int)
    · obtain ⟨i, rfl⟩ := Int.eq_ofNat_of_zero_le hx.1
      have hf : Ev (fun k => walk_Follow.f k E T G A on (i : Int) l) ((folV E T G A on i l).v, (folV E T G A on i l).p, 0) := by
        unfold walk_Follow.f folF
        refine Ev.bind hc (ev_pos rfl (ev_pos hx ?_))
        rw [Int.toNat_natCast]
        exact Ev.now _
      refine Ev.bind hf (Ev.bind (RCheck_ev E T G A on) (ev_pos h (ev_neg (by omega) (hj _ _ _ _ _ ?_))))
      rw [if_neg (by rw [decide_eq_false (by omega)]; decide), h]
      obtain ⟨e1, e2⟩ := follows_vals (E := E) (T := T) (G := G) (A := A) hon i l
      rw [e1, e2]
      have hr : penumbraref35_Follow.f E T G A on (E.length : Int) (i : Int) 1 l = some (rF (Rn E T G A on) i 1 l) := by
        unfold penumbraref35_Follow.f rfF
        rw [if_pos ⟨hs, rfl, hx, by omega⟩, Int.toNat_natCast]
      refine Ev.step (fun k => by rw [penumbralaw35_WalkFollows.j2, hr]) ?_
      refine ev_pos rfl (ev_some ?_)
      generalize rF (Rn E T G A on) i 1 l = q
      by_cases c : q.2 = 0
      · refine ev_pos c (Ev.bind awake35 (ev_pos rfl (ev_pos c (Ev.now _))))
      · refine ev_neg c (Ev.bind awake35 (ev_pos rfl (ev_pos hx.1 (ev_pos hx.2 ?_))))
        rw [RAdd_eq, rd_eq]
        exact ev_some (ev_pos rfl (ev_pos rfl (Ev.now _)))
    · have hf : Ev (fun k => walk_Follow.f k E T G A on x l) (0, 0, 3) := by
        unfold walk_Follow.f folF
        exact Ev.bind hc (ev_pos rfl (ev_neg hx (Ev.now _)))
      refine Ev.bind hf (Ev.bind (RCheck_ev E T G A on) (ev_pos h ?_))
      by_cases c : x < 0
      · exact ev_pos c (hj _ _ _ _ _ (follows_err E T G A on x 3 l (by decide)))
      · refine ev_neg c (hj _ _ _ _ _ ?_)
        rw [if_pos (decide_eq_true (by omega))]
        exact follows_err E T G A on x 3 l (by decide)
  · rw [if_neg h] at hc
    have hf : Ev (fun k => walk_Follow.f k E T G A on x l) (0, 0, chkV E T G A on) := by
      unfold walk_Follow.f folF
      exact Ev.bind hc (ev_neg h (Ev.now _))
    refine Ev.bind hf (Ev.bind (RCheck_ev E T G A on) (ev_neg h (hj _ _ _ _ _ ?_)))
    rw [if_neg (by decide)]
    exact follows_err E T G A on x _ l h
theorem WalkFollows : penumbralaw35_WalkFollows.Pure := by
  unfold penumbralaw35_WalkFollows.Pure
  intro E T G A on x l _ _ _ _ _ _ _ _ _ _ _
  refine Ev.rounds ?_
  unfold penumbralaw35_WalkFollows.f
  rw [Few_eq]
  refine ev_some ?_
  by_cases h1 : decide (E.length ≤ 20 ∧ T.length ≤ 200) = true
  · refine ev_pos h1 ?_
    by_cases h2 : (G.length : Int) > 200
    · exact ev_pos h2 (follows_dark _ _ _ _ _ _ _ _ rfl)
    · refine ev_neg h2 ?_
      by_cases h3 : (A.length : Int) > 30
      · exact ev_pos h3 (follows_dark _ _ _ _ _ _ _ _ rfl)
      · refine ev_neg h3 ?_
        by_cases h4 : (l.length : Int) > 20
        · exact follows_dark _ _ _ _ _ _ _ _ (decide_eq_true h4)
        · rw [decide_eq_false h4]
          exact follows_main _ _ _ _ _ _ _ (by omega)
  · exact ev_neg h1 (follows_dark _ _ _ _ _ _ _ _ rfl)
end Go.Proofs.Ytgkgnihjjabapaa.Pure
