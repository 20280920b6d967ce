/- What a picture needs, by the reference. -/
import Derived.Test.YtedifkidnpaejaaXxJ06
import Derived.Test.YtedifkidnpaejaaGj
import Derived.Test.YtedifkidnpaejaaPe
namespace Go.Proofs.Ytedifkidnpaejaa.Pf
open Go.RowKit Go.Proofs.Ytedifkidnpaejaa.X Go.Proofs.YtedifkidnpaejaaW.PrintWords Go.Proofs.YtedifkidnpaejaaW.PrintLast Pe Gv

theorem slots_eq (d : Int) : tape_Slots.f d = some (slotsOf d) := by
  unfold tape_Slots.f slotsOf
  by_cases c : d < 0
  · rw [if_pos c, if_neg (by omega)]
  · by_cases e : d > 64
    · rw [if_neg c, if_pos e, if_neg (by omega)]
    · have h : 0 ≤ d ∧ d ≤ 64 := by omega
      rw [if_neg c, if_neg e, if_pos h, wrap_id (n := d + 1) (by omega) (by omega), wrap_id (n := 8 * (d + 1)) (by omega) (by omega), wrap_id (by omega) (by omega)]
      congr 1; omega
theorem rslots_eq (d : Int) : penumbraref06_Slots.f d = some (slotsOf d) := by
  unfold penumbraref06_Slots.f slotsOf
  by_cases c : d < 0
  · rw [if_pos c, if_neg (by omega)]
  · by_cases e : d > 64
    · rw [if_neg c, if_pos e, if_neg (by omega)]
    · have h : 0 ≤ d ∧ d ≤ 64 := by omega
      rw [if_neg c, if_neg e, if_pos h, wrap_id (n := 8 * d) (by omega) (by omega), wrap_id (by omega) (by omega)]
theorem slotsOf_zero (d : Int) : slotsOf d = 0 ↔ ¬ (0 ≤ d ∧ d ≤ 64) := by
  unfold slotsOf
  by_cases h : 0 ≤ d ∧ d ≤ 64
  · rw [if_pos h]; constructor
    · intro h2; omega
    · intro h2; exact absurd h h2
  · rw [if_neg h]; exact ⟨fun _ => h, fun _ => rfl⟩
theorem need_bad (w h s d : Int) : Ev (fun k => penumbraref06_Need.j0 k w h s d true) (0, 12) := by
  refine Ev.step (fun k => by rw [penumbraref06_Need.j0]) ?_
  exact ev_pos rfl (Ev.now _)
theorem rneed_ev (w h s d : Int) : Ev (fun k => penumbraref06_Need.f k w h s d) (needVal w h s d) := by
  unfold penumbraref06_Need.f needVal
  by_cases c : inB 1 8192 w = true ∧ inB 1 8192 h = true ∧ 1 ≤ s ∧ s ≤ 65536 ∧ slotsOf d ≠ 0
  · rw [if_pos c]
    obtain ⟨h1, h2, h3, h4, h5⟩ := c
    have g1 := inB_true h1
    have g2 := inB_true h2
    have g3 : 0 ≤ d ∧ d ≤ 64 := Decidable.byContradiction fun z => h5 ((slotsOf_zero d).2 z)
    have g4 := slotsOf_le d
    have g5 : 12 ≤ slotsOf d := by unfold slotsOf; rw [if_pos g3]; omega
    have p1 := prod_le (by omega) g1.2 (by omega) g2.2
    have p2 := prod_le p1.1 p1.2 (by omega) h4
    have p3 := prod_le p2.1 p2.2 g4.1 g4.2
    refine ev_neg (by omega) ?_
    refine ev_neg (by omega) ?_
    refine ev_neg (by omega) ?_
    refine ev_neg (by omega) ?_
    refine ev_neg (by omega) ?_
    refine ev_neg (by omega) ?_
    refine ev_neg (by omega) ?_
    rw [show decide (d > 64) = false from decide_eq_false (by omega)]
    refine Ev.step (fun k => by rw [penumbraref06_Need.j0]) ?_
    refine ev_neg (by decide) ?_
    rw [wrap_id (n := w * h) (by omega) (by omega)]
    by_cases e1 : w * h > 65536
    · refine ev_pos e1 ?_
      rw [if_neg (fun z => by have := z.1; omega)]
      exact Ev.now _
    · refine ev_neg e1 ?_
      rw [rslots_eq]
      refine ev_some ?_
      rw [wrap_id (n := w * h * s) (by omega) (by omega), wrap_id (n := w * h * s * slotsOf d) (by omega) (by omega)]
      by_cases e3 : w * h * s * slotsOf d > 4194304
      · refine ev_pos e3 ?_
        rw [if_neg (fun z => by have := z.2.2; omega)]
        exact Ev.now _
      · refine ev_neg e3 ?_
        have e2 : w * h * s ≤ 4194304 := by
          have : w * h * s * 1 ≤ w * h * s * slotsOf d := Int.mul_le_mul_of_nonneg_left (by omega) p2.1
          omega
        rw [if_pos ⟨by omega, e2, by omega⟩]
        exact Ev.now _
  · rw [if_neg c]
    have bad := need_bad w h s d
    have k1 : ∀ n, inB 1 8192 n = true ↔ (1 ≤ n ∧ n ≤ 8192) := fun n => decide_eq_true_iff
    by_cases c1 : w < 1
    · exact ev_pos c1 bad
    refine ev_neg c1 ?_
    by_cases c2 : w > 8192
    · exact ev_pos c2 bad
    refine ev_neg c2 ?_
    by_cases c3 : h < 1
    · exact ev_pos c3 bad
    refine ev_neg c3 ?_
    by_cases c4 : h > 8192
    · exact ev_pos c4 bad
    refine ev_neg c4 ?_
    by_cases c5 : s < 1
    · exact ev_pos c5 bad
    refine ev_neg c5 ?_
    by_cases c6 : s > 65536
    · exact ev_pos c6 bad
    refine ev_neg c6 ?_
    by_cases c7 : d < 0
    · exact ev_pos c7 bad
    refine ev_neg c7 ?_
    have c8 : d > 64 := Decidable.byContradiction fun z => c ⟨(k1 w).2 (by omega), (k1 h).2 (by omega), by omega, by omega, fun e => (slotsOf_zero d).1 e (by omega)⟩
    rw [decide_eq_true c8]
    exact bad
end Go.Proofs.Ytedifkidnpaejaa.Pf
