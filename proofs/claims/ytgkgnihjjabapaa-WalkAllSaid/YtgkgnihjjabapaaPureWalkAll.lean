/- The sum of each path's value times its chance is the light; that of all chances is 1. -/
import Derived.Test.YtgkgnihjjabapaaXxSWalkAll
import Derived.Test.YtgkgnihjjabapaaPz
namespace Go.Proofs.Ytgkgnihjjabapaa.Pure
open Go.RowKit Go.Proofs.Ytgkgnihjjabapaa.X Go.Proofs.YtgkgnihjjabapaaW.PrintWords Go.Proofs.YtgkgnihjjabapaaW.PrintLast Pa Pb Pc Pd Pl Gv Pq
theorem WalkAll : penumbralaw35_WalkAll.Pure := by
  unfold penumbralaw35_WalkAll.Pure
  intro E T G A on x y _ _ _ _ _ _ _ _ _ hx hy
  refine Ev.rounds ?_
  unfold penumbralaw35_WalkAll.f
  refine Ev.bind (RCheck_ev E T G A on) ?_
  by_cases h : chkV E T G A on = 0
  · refine ev_pos h ?_
    by_cases h2 : (E.length : Int) > 2
    · exact all_dark _ _ _ _ _ _ _ _ (decide_eq_true h2)
    · rw [decide_eq_false h2]
      obtain ⟨a1, a2⟩ := byte_wf hx
      obtain ⟨b1, b2⟩ := byte_wf hy
      obtain ⟨f, rfl⟩ := Int.eq_ofNat_of_zero_le a1
      obtain ⟨p, rfl⟩ := Int.eq_ofNat_of_zero_le b1
      exact all_main h (by omega) f p (by omega) (by omega)
  · exact ev_neg h (all_dark _ _ _ _ _ _ _ _ rfl)
end Go.Proofs.Ytgkgnihjjabapaa.Pure
