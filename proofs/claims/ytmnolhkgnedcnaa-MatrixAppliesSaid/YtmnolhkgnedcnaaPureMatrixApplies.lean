/- Tables applied, and powers. -/
import Derived.Test.YtmnolhkgnedcnaaXxL31MatrixApplies
import Derived.Test.YtmnolhkgnedcnaaPb
namespace Go.Proofs.Ytmnolhkgnedcnaa.Pure
open Go.RowKit Go.Proofs.Ytmnolhkgnedcnaa.X Go.Proofs.YtmnolhkgnedcnaaW.PrintWords Go.Proofs.YtmnolhkgnedcnaaW.PrintLast Pa Pb Pl Gv

theorem light_eq (l : List Int) : penumbralaw31_light.f l = some (decide (l.length ≤ 200)) := by
  unfold penumbralaw31_light.f
  congr 1
  exact decide_eq_decide.2 (by omega)
theorem applies_dark (a b : List Int) (t : Int) : Ev (fun k => penumbralaw31_MatrixApplies.j0 k a b t true) true := by
  refine Ev.step (fun k => by rw [penumbralaw31_MatrixApplies.j0]) ?_
  refine ev_pos rfl ?_
  exact Ev.bind awake31 (Ev.now _)
theorem applies_l0 {n : Nat} {m p : List Int} {c : Int} {e : Nat} (h2 : n < 13) (hm : m.length = n * n) (he : e < 20) (hc : wrap64 (Int.tmod c 20) = (e : Int)) : ∀ (d i : Nat) (x : List Int), i + d = e → x.length = n * n → p = itr n m d x →
    Ev (fun k => penumbralaw31_MatrixApplies.l0 k m c p 0 3 (n : Int) x (i : Int)) true := by
  have hnn : n * n ≤ 12 * 12 := Nat.mul_le_mul (by omega) (by omega)
  intro d
  induction d with
  | zero =>
    intro i x hi hx hp
    refine Ev.step (fun k => by rw [penumbralaw31_MatrixApplies.l0]) ?_
    rw [hc]
    refine ev_neg (by omega) ?_
    refine Ev.bind awake31 ?_
    refine ev_pos rfl ?_
    refine ev_pos rfl ?_
    refine ev_pos rfl ?_
    refine Ev.bind (Ints_ev _ _ (by rw [hp, itr]; omega)) ?_
    rw [itr] at hp
    rw [decide_eq_true hp]
    exact Ev.now _
  | succ d ih =>
    intro i x hi hx hp
    refine Ev.step (fun k => by rw [penumbralaw31_MatrixApplies.l0]) ?_
    rw [hc]
    refine ev_pos (by omega) ?_
    refine Ev.bind (RMul_ev h2 hx hm) ?_
    rw [wrap_id (n := (i : Int) + 1) (by omega) (by omega)]
    exact ih (i + 1) _ (by omega) (mm_length _ _ _) hp

theorem MatrixApplies : penumbralaw31_MatrixApplies.Pure := by
  intro m v c h1 h2 _ h3 _ _ hc
  have hc' := byte_wf hc
  refine Ev.rounds ?_
  unfold penumbralaw31_MatrixApplies.f
  rw [light_eq, light_eq]
  by_cases ca : m.length ≤ 200
  · rw [decide_eq_true ca]
    refine ev_some ?_
    refine ev_pos rfl ?_
    refine ev_some ?_
    by_cases cb : v.length ≤ 200
    · rw [decide_eq_true cb]
      refine Ev.step (fun k => by rw [penumbralaw31_MatrixApplies.j0]) ?_
      refine ev_neg (by decide) ?_
      obtain ⟨e, he, hce⟩ : ∃ e : Nat, e < 20 ∧ wrap64 (Int.tmod c 20) = (e : Int) := by
        refine ⟨(c % 20).toNat, by omega, ?_⟩
        rw [Int.tmod_eq_emod_of_nonneg hc'.1, wrap_id (by omega) (by omega)]
        omega
      have hng : wrap64 ((-1) - wrap64 c) < 0 := by
        rw [wrap_id (n := c) (by omega) (by omega), wrap_id (by omega) (by omega)]; omega
      by_cases c0 : sideOf m.length = 0
      · refine Ev.bind (Apply_no (.inl c0)) ?_
        refine Ev.bind (Pow_none _ c0) ?_
        refine Ev.bind (Pow_none _ c0) ?_
        refine Ev.bind (RSide_ev m) ?_
        refine ev_pos (by omega) ?_
        refine Ev.bind awake31 ?_
        refine ev_pos rfl ?_
        refine ev_pos rfl ?_
        refine ev_pos rfl ?_
        exact Ev.now _
      · have hr := sideOf_range m.length
        have hl := side_len c0
        have hp := Pow_ev (m := m) (e := e) c0 (by omega)
        have hg := Pow_less (m := m) c0 hng
        have hs := RSide_ev m
        generalize hn : sideOf m.length = n at *
        have fin : Ev (fun k => penumbralaw31_MatrixApplies.j1 k m c (itr n m e (unit n)) 0 3 (n : Int) false) true := by
          refine Ev.step (fun k => by rw [penumbralaw31_MatrixApplies.j1]) ?_
          refine ev_neg (by decide) ?_
          refine Ev.bind (One_ev (by omega) (by omega)) ?_
          exact applies_l0 (by omega) hl he hce e 0 _ (by omega) (unit_length _) rfl
        by_cases cv : n = v.length
        · refine Ev.bind (Apply_yes (n := n) c0 hn cv.symm) ?_
          rw [hce]
          refine Ev.bind hp ?_
          refine Ev.bind hg ?_
          refine Ev.bind hs ?_
          refine ev_neg (by omega) ?_
          refine ev_pos (by omega) ?_
          refine ev_pos rfl ?_
          refine Ev.bind (RApply_ev (by omega) hl cv.symm) ?_
          refine Ev.bind (Ints_ev _ _ (by rw [mv_length]; omega)) ?_
          rw [decide_eq_true rfl]
          exact fin
        · refine Ev.bind (Apply_no (.inr (by omega))) ?_
          rw [hce]
          refine Ev.bind hp ?_
          refine Ev.bind hg ?_
          refine Ev.bind hs ?_
          refine ev_neg (by omega) ?_
          refine ev_neg (by omega) ?_
          refine ev_pos rfl ?_
          exact fin
    · rw [decide_eq_false cb]
      exact applies_dark m v c
  · rw [decide_eq_false ca]
    refine ev_some ?_
    refine ev_neg (by decide) ?_
    exact applies_dark m v c

end Go.Proofs.Ytmnolhkgnedcnaa.Pure
