/- A line of equations, and a determinant. -/
import Derived.Test.YtpjfelbamcgnhaaXxL34SolveLines
import Derived.Test.YtpjfelbamcgnhaaNg
namespace Go.Proofs.Ytpjfelbamcgnhaa.Pure
open Go.RowKit Go.Proofs.Ytpjfelbamcgnhaa.X Go.Proofs.YtpjfelbamcgnhaaW.PrintWords Go.Proofs.YtpjfelbamcgnhaaW.PrintLast Pa Pb Pc Pd Pl Gv De

theorem lines_dark (a b : List Int) : Ev (fun k => penumbralaw34_SolveLines.j0 k a b true) true := by
  refine Ev.step (fun k => by rw [penumbralaw34_SolveLines.j0]) ?_
  refine ev_pos rfl ?_
  exact Ev.bind awake34 (Ev.now _)
theorem lines_none {a b : List Int} (h : sideOf a.length = 0) : Ev (fun k => penumbralaw34_SolveLines.j0 k a b false) true := by
  refine Ev.step (fun k => by rw [penumbralaw34_SolveLines.j0]) ?_
  refine ev_neg (by decide) ?_
  have e1 : solve_Line.f a b = some ([], 14) := by unfold solve_Line.f lineF; rw [if_pos (Or.inl h)]
  have e2 : solve_Det.f a = some (0, 14) := by unfold solve_Det.f; rw [detF_none h]
  rw [e1, e2]
  refine ev_some ?_
  refine ev_some ?_
  refine Ev.bind (RSide_ev a) ?_
  rw [h]
  refine ev_pos rfl ?_
  refine Ev.bind awake34 ?_
  refine ev_pos rfl ?_
  refine ev_pos rfl ?_
  refine ev_pos rfl ?_
  refine ev_pos rfl ?_
  exact Ev.now _
theorem lines_apply {n : Nat} {a b x : List Int} (h2 : n < 13) (ha : a.length = n * n) (hb : b.length = n) (hx : x.length = n) (he : mv n a x = b.map of) {f : Nat → Option Bool} (hf : ∀ k, f k = (penumbraref31_Apply.f k a x (n : Int)).bind fun t111 => ((penumbraref31_Rests.f k b).bind fun t114 => ((penumbraref01_Ints.f k t111 t114).bind fun t117 => (some t117)))) : Ev f true := by
  refine Ev.congr hf ?_
  refine Ev.bind (RApply_ev h2 ha hx) ?_
  refine Ev.bind (Rests_ev b (by omega)) ?_
  refine Ev.bind (Ints_ev _ _ (by rw [mv_length]; omega)) ?_
  rw [he, decide_eq_true rfl]
  exact Ev.now _
theorem lines_far {n : Nat} {a b : List Int} (h : sideOf a.length = n) (hn : 4 < n) : Ev (fun k => penumbralaw34_SolveLines.j0 k a b false) true := by
  have h12 : n ≤ 12 := by rw [← h]; exact sideOf_range _
  have ha : a.length = n * n := by rw [← h]; exact side_len (by omega)
  refine Ev.step (fun k => by rw [penumbralaw34_SolveLines.j0]) ?_
  refine ev_neg (by decide) ?_
  obtain ⟨y, hy⟩ : ∃ y, lineF a b = y := ⟨_, rfl⟩
  have e1 : solve_Line.f a b = some y := by unfold solve_Line.f; rw [hy]
  have e2 : solve_Det.f a = some (detF a) := rfl
  rw [e1, e2]
  refine ev_some ?_
  refine ev_some ?_
  refine Ev.bind (RSide_ev a) ?_
  rw [h]
  refine ev_neg (by omega) ?_
  refine ev_pos (by omega) ?_
  refine Ev.bind awake34 ?_
  refine ev_pos rfl ?_
  refine ev_pos (det_code (by omega)) ?_
  unfold lineF at hy
  rw [h] at hy
  by_cases c : n = 0 ∨ n ≠ b.length
  · rw [if_pos c] at hy
    subst hy
    exact ev_neg (by decide) (Ev.now _)
  · rw [if_neg c] at hy
    have hb : b.length = n := by omega
    obtain ⟨o, ho⟩ : ∃ o, elim invP n n 0 (ini n a b) 1 = o := ⟨_, rfl⟩
    rw [ho] at hy
    cases o with
    | none =>
      subst hy
      exact ev_neg (show ¬ (13 : Int) = 0 by decide) (Ev.now _)
    | some Fe =>
      obtain ⟨F, e⟩ := Fe
      subst hy
      refine ev_pos rfl ?_
      exact lines_apply (by omega) ha hb (xs_length n F) (told_mv hb ho) (fun _ => rfl)
theorem lines_near {n : Nat} {a b : List Int} (h : sideOf a.length = n) (h1 : 1 ≤ n) (h4 : n ≤ 4) : Ev (fun k => penumbralaw34_SolveLines.j0 k a b false) true := by
  have ha : a.length = n * n := by rw [← h]; exact side_len (by omega)
  refine Ev.step (fun k => by rw [penumbralaw34_SolveLines.j0]) ?_
  refine ev_neg (by decide) ?_
  obtain ⟨y, hy⟩ : ∃ y, lineF a b = y := ⟨_, rfl⟩
  have e1 : solve_Line.f a b = some y := by unfold solve_Line.f; rw [hy]
  have e2 : solve_Det.f a = some (of (det n (fun i k => a.getD (i * n + k) 0)), 0) := by unfold solve_Det.f; rw [det_told h h1 (by omega)]
  rw [e1, e2]
  refine ev_some ?_
  refine ev_some ?_
  refine Ev.bind (RSide_ev a) ?_
  rw [h]
  refine ev_neg (by omega) ?_
  refine ev_neg (by omega) ?_
  refine ev_pos rfl ?_
  refine Ev.bind (rdet_ev n a h1 (by omega) ha) ?_
  have e3 : (of (det n (fun i k => a.getD (i * n + k) 0)) != of (det n (Tl a n))) = false := bne_eq_false_iff_eq.mpr rfl
  dsimp only
  rw [e3]
  refine Ev.step (fun k => by rw [penumbralaw34_SolveLines.j1]) ?_
  refine ev_neg (by decide) ?_
  unfold lineF at hy
  rw [h] at hy
  by_cases c : n = b.length
  · refine ev_pos (by omega) ?_
    rw [if_neg (by omega)] at hy
    obtain ⟨o, ho⟩ : ∃ o, elim invP n n 0 (ini n a b) 1 = o := ⟨_, rfl⟩
    rw [ho] at hy
    cases o with
    | none =>
      subst hy
      refine Ev.bind (RLine_no h1 (by omega) ha (ini_none ho (by omega))) ?_
      refine ev_neg (by decide) ?_
      refine Ev.bind awake34 ?_
      refine ev_pos rfl ?_
      refine ev_pos rfl ?_
      exact Ev.now _
    | some Fe =>
      obtain ⟨F, e⟩ := Fe
      subst hy
      obtain ⟨g1, g2⟩ := ini_some ho (by omega)
      refine Ev.bind (RLine_yes h1 (by omega) ha c.symm (by rw [tl_det, ← g1]; exact g2)) ?_
      refine ev_pos rfl ?_
      refine Ev.bind awake34 ?_
      refine ev_pos rfl ?_
      refine ev_pos rfl ?_
      refine Ev.bind (Ints_ev _ _ (by rw [tabTo_length]; omega)) ?_
      have e4 : tabTo (fun i => F i n) n = tab (crF a b n) n := told_line h1 h4 ho
      dsimp only
      refine ev_pos (decide_eq_true e4) ?_
      exact lines_apply (by omega) ha c.symm (xs_length n F) (told_mv c.symm ho) (fun _ => rfl)
  · refine ev_neg (by omega) ?_
    rw [if_pos (Or.inr c)] at hy
    subst hy
    refine Ev.bind awake34 ?_
    refine ev_pos rfl ?_
    refine ev_pos rfl ?_
    exact Ev.now _
theorem SolveLines : penumbralaw34_SolveLines.Pure := by
  intro a b _ _ _ _ _ _
  refine Ev.rounds ?_
  unfold penumbralaw34_SolveLines.f
  by_cases c1 : (a.length : Int) > 200
  · exact ev_pos c1 (lines_dark a b)
  · refine ev_neg c1 ?_
    by_cases c2 : (b.length : Int) > 30
    · rw [decide_eq_true c2]
      exact lines_dark a b
    · rw [decide_eq_false c2]
      by_cases h0 : sideOf a.length = 0
      · exact lines_none h0
      · by_cases h4 : sideOf a.length ≤ 4
        · exact lines_near rfl (by omega) h4
        · exact lines_far rfl (by omega)
end Go.Proofs.Ytpjfelbamcgnhaa.Pure
