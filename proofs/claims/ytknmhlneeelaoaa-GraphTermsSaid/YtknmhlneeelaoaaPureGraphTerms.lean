/- What shines, thrown any number of times. -/
import Derived.Test.YtknmhlneeelaoaaXxSGraphTerms
import Derived.Test.YtknmhlneeelaoaaPc
namespace Go.Proofs.Ytknmhlneeelaoaa.Pure
open Go.RowKit Go.Proofs.Ytknmhlneeelaoaa.X Go.Proofs.YtknmhlneeelaoaaW.PrintWords Go.Proofs.YtknmhlneeelaoaaW.PrintLast Pa Pb Pc Pl Gv

theorem terms_dark (l e t : List Int) (a : Int) : Ev (fun k => penumbralaw32_GraphTerms.j0 k a l true e t) true := by
  refine Ev.step (fun k => by rw [penumbralaw32_GraphTerms.j0]) ?_
  refine ev_pos rfl ?_
  exact Ev.bind awake32 (Ev.now _)
theorem terms_range (v e t : List Int) (a : Int) : Ev (fun k => penumbralaw32_GraphTerms.j1 k a v [] 3 true e t) true := by
  refine Ev.step (fun k => by rw [penumbralaw32_GraphTerms.j1]) ?_
  refine ev_pos rfl ?_
  refine Ev.bind awake32 ?_
  refine ev_pos rfl ?_
  refine ev_pos rfl ?_
  exact Ev.now _
theorem terms_l0 {e t v : List Int} (h : right e t) {m : Nat} (hm : m ≤ 1024) (hv : v.length ≤ 30) : ∀ (d i : Nat), i + d = min v.length e.length →
    Ev (fun k => penumbralaw32_GraphTerms.l0 k (m : Int) v (itv e.length t m (e.map of)) 0 (dotTo v (itv e.length t m (e.map of)) i) (i : Int) e t) true := by
  have hlen : (itv e.length t m (e.map of)).length = e.length := itv_length m _ (by rw [List.length_map])
  have hR := RTerm_ev h (m := m) (by omega)
  have h2 := h.2.1
  generalize hL : itv e.length t m (e.map of) = L at *
  have fin : ∀ i, i = min v.length e.length → Ev (fun k => penumbralaw32_GraphTerms.j3 k (m : Int) v L 0 (dotTo v L i) (i : Int) false e t) true := by
    intro i hi
    refine Ev.step (fun k => by rw [penumbralaw32_GraphTerms.j3]) ?_
    refine ev_neg (by decide) ?_
    refine Ev.bind awake32 ?_
    refine ev_pos rfl ?_
    refine ev_pos rfl ?_
    refine Ev.bind hR ?_
    refine Ev.bind (Ints_ev _ _ (by omega)) ?_
    refine ev_pos (decide_eq_true rfl) ?_
    have e1 : graph_Seen.f v L = some (dotOf v L) := rfl
    rw [e1]
    refine ev_some ?_
    have e2 : (dotOf v L == dotTo v L i) = true := by rw [beq_iff_eq, hi]; unfold dotOf; rw [hlen]
    rw [e2]
    exact Ev.now _
  intro d
  induction d with
  | zero =>
    intro i hi
    refine Ev.step (fun k => by rw [penumbralaw32_GraphTerms.l0]) ?_
    by_cases c : i < v.length
    · refine ev_pos (by omega) ?_
      rw [show decide ((i : Int) < (L.length : Int)) = false from decide_eq_false (by omega)]
      exact fin i (by omega)
    · exact ev_neg (by omega) (fin i (by omega))
  | succ d ih =>
    intro i hi
    refine Ev.step (fun k => by rw [penumbralaw32_GraphTerms.l0]) ?_
    refine ev_pos (by omega) ?_
    rw [show decide ((i : Int) < (L.length : Int)) = true from decide_eq_true (by omega)]
    refine Ev.step (fun k => by rw [penumbralaw32_GraphTerms.j3]) ?_
    refine ev_pos rfl ?_
    refine ev_pos (by omega) ?_
    refine ev_pos (by omega) ?_
    refine ev_pos (by omega) ?_
    rw [RMul_eq]
    refine ev_some ?_
    rw [RAdd_eq]
    refine ev_some ?_
    rw [sucW i (by omega), rd_eq, rd_eq]
    have e3 : of (dotTo v L i + of (v.getD i 0 * L.getD i 0)) = dotTo v L (i + 1) := rfl
    rw [e3]
    exact ih (i + 1) (by omega)
theorem terms_j0 {e t v : List Int} {a : Int} (he : e.length ≤ 20) (hv : v.length ≤ 30) : Ev (fun k => penumbralaw32_GraphTerms.j0 k a v false e t) true := by
  refine Ev.step (fun k => by rw [penumbralaw32_GraphTerms.j0]) ?_
  refine ev_neg (by decide) ?_
  by_cases h : right e t
  · by_cases c0 : a < 0
    · refine Ev.bind (Term_range h (.inl c0)) ?_
      rw [Right_eq e t he]
      refine ev_some ?_
      rw [decide_eq_true h]
      refine ev_pos rfl ?_
      refine ev_pos c0 ?_
      exact terms_range v e t a
    · by_cases c1 : 1024 < a
      · refine Ev.bind (Term_range h (.inr c1)) ?_
        rw [Right_eq e t he]
        refine ev_some ?_
        rw [decide_eq_true h]
        refine ev_pos rfl ?_
        refine ev_neg c0 ?_
        rw [show decide (a > 1024) = true from decide_eq_true c1]
        exact terms_range v e t a
      · obtain ⟨m, rfl⟩ := Int.eq_ofNat_of_zero_le (show 0 ≤ a from by omega)
        refine Ev.bind (Term_yes h (m := m) (by omega)) ?_
        rw [Right_eq e t he]
        refine ev_some ?_
        rw [decide_eq_true h]
        refine ev_pos rfl ?_
        refine ev_neg c0 ?_
        rw [show decide ((m : Int) > 1024) = false from decide_eq_false c1]
        refine Ev.step (fun k => by rw [penumbralaw32_GraphTerms.j1]) ?_
        refine ev_neg (by decide) ?_
        exact terms_l0 h (by omega) hv (min v.length e.length) 0 (by omega)
  · refine Ev.bind (Term_no h a) ?_
    rw [Right_eq e t he]
    refine ev_some ?_
    rw [decide_eq_false h]
    refine ev_neg (by decide) ?_
    refine Ev.bind awake32 ?_
    refine ev_pos rfl ?_
    refine ev_pos rfl ?_
    exact Ev.now _
theorem GraphTerms : penumbralaw32_GraphTerms.Pure := by
  intro e t a v _ _ _ _ _ _ _
  refine Ev.rounds ?_
  unfold penumbralaw32_GraphTerms.f
  rw [Few_eq]
  refine ev_some ?_
  by_cases cf : e.length ≤ 20 ∧ t.length ≤ 200
  · rw [decide_eq_true cf]
    refine ev_pos rfl ?_
    have rest : Ev (fun k => penumbralaw32_GraphTerms.j0 k a v (decide ((v.length : Int) > 30)) e t) true := by
      by_cases cl : v.length > 30
      · rw [show decide ((v.length : Int) > 30) = true from decide_eq_true (by omega)]
        exact terms_dark v e t a
      · rw [show decide ((v.length : Int) > 30) = false from decide_eq_false (by omega)]
        exact terms_j0 cf.1 (by omega)
    by_cases ca : a > 60
    · refine ev_pos ca ?_
      by_cases cb : a ≤ 1024
      · exact ev_pos cb (terms_dark v e t a)
      · exact ev_neg cb rest
    · exact ev_neg ca rest
  · rw [decide_eq_false cf]
    refine ev_neg (by decide) ?_
    exact terms_dark v e t a

end Go.Proofs.Ytknmhlneeelaoaa.Pure
