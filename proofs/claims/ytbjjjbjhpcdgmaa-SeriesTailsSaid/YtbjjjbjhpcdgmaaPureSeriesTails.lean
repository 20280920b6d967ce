/- A sum is a shorter one, and the tail behind it. -/
import Derived.Test.YtbjjjbjhpcdgmaaXxSSeriesTails
import Derived.Test.YtbjjjbjhpcdgmaaPd
namespace Go.Proofs.Ytbjjjbjhpcdgmaa.Pure
open Go.RowKit Go.Proofs.Ytbjjjbjhpcdgmaa.X Go.Proofs.YtbjjjbjhpcdgmaaW.PrintWords Go.Proofs.YtbjjjbjhpcdgmaaW.PrintLast Pa Pb Pc Pd Pl Gv

theorem tails_dark (e t : List Int) (a b : Int) : Ev (fun k => penumbralaw33_SeriesTails.j0 k a b true e t) true := by
  refine Ev.step (fun k => by rw [penumbralaw33_SeriesTails.j0]) ?_
  refine ev_pos rfl ?_
  exact Ev.bind awake33 (Ev.now _)
theorem byte_tmod {c : Int} (hc : 0 ≤ c ∧ c ≤ 255) : ∃ m : Nat, m < 20 ∧ wrap64 (Int.tmod c 20) = (m : Int) := by
  refine ⟨(c % 20).toNat, by omega, ?_⟩
  rw [Int.tmod_eq_emod_of_nonneg hc.1, wrap_id (by omega) (by omega)]
  omega
theorem tails_j0 {e t : List Int} {a b : Int} (h : right e t) (ha : 0 ≤ a ∧ a ≤ 255) (hb : 0 ≤ b ∧ b ≤ 255) : Ev (fun k => penumbralaw33_SeriesTails.j0 k a b false e t) true := by
  have h2 := h.2.1
  refine Ev.step (fun k => by rw [penumbralaw33_SeriesTails.j0]) ?_
  refine ev_neg (by decide) ?_
  obtain ⟨m, hm, hm2⟩ := byte_tmod ha
  obtain ⟨n, hn, hn2⟩ := byte_tmod hb
  rw [hm2, hn2]
  have e0 : series_Tail.f e t (m : Int) (n : Int) = some (tailTo e t (m : Int) (n + 1), 0) := by
    unfold series_Tail.f
    rw [tailVal_yes h (by unfold deep; omega) (by omega)]
  rw [e0]
  refine ev_some ?_
  by_cases c : n < m
  · refine ev_pos (by omega) ?_
    refine Ev.bind awake33 ?_
    refine ev_pos rfl ?_
    refine ev_pos rfl ?_
    refine ev_pos (by omega) ?_
    refine ev_pos (by omega) ?_
    refine Ev.bind (Ints_ev _ _ (by rw [tailTo_length]; omega)) ?_
    rw [tail_none e t m (n + 1) (by omega), Int.toNat_natCast, decide_eq_true rfl]
    exact Ev.now _
  · refine ev_neg (by omega) ?_
    by_cases c0 : m = 0
    · subst c0
      refine ev_pos rfl ?_
      refine Ev.bind awake33 ?_
      refine ev_pos rfl ?_
      refine ev_pos rfl ?_
      refine Ev.bind (RSum_ev h (m := n) (by omega)) ?_
      refine Ev.bind (Ints_ev _ _ (by rw [tailTo_length]; omega)) ?_
      have e1 : tailTo e t ((0 : Nat) : Int) (n + 1) = rs e t n := tail_all e t n
      rw [e1, decide_eq_true rfl]
      exact Ev.now _
    · refine ev_neg (by omega) ?_
      obtain ⟨q, rfl⟩ : ∃ q, m = q + 1 := ⟨m - 1, by omega⟩
      have e1 : wrap64 (((q + 1 : Nat) : Int) - 1) = (q : Int) := by rw [wrap_id (by omega) (by omega)]; omega
      rw [e1]
      refine Ev.bind awake33 ?_
      refine ev_pos rfl ?_
      refine ev_pos rfl ?_
      refine Ev.bind (RSum_ev h (m := q) (by omega)) ?_
      refine Ev.bind (RPlus_ev (n := e.length) (by omega) (rs_length _ _ _) (tailTo_length _ _ _ _)) ?_
      refine Ev.bind (RSum_ev h (m := n) (by omega)) ?_
      refine Ev.bind (Ints_ev _ _ (by unfold plus; rw [tab_length]; omega)) ?_
      rw [tail_plus e t q n (by omega), decide_eq_true rfl]
      exact Ev.now _
theorem SeriesTails : penumbralaw33_SeriesTails.Pure := by
  intro e t a b _ _ _ _ ha hb
  have ha' := byte_wf ha
  have hb' := byte_wf hb
  refine Ev.rounds ?_
  unfold penumbralaw33_SeriesTails.f
  rw [Few_eq]
  refine ev_some ?_
  by_cases cf : e.length ≤ 20 ∧ t.length ≤ 200
  · rw [decide_eq_true cf]
    refine ev_pos rfl ?_
    rw [Right_eq e t cf.1]
    refine ev_some ?_
    by_cases h : right e t
    · rw [decide_eq_true h]
      exact tails_j0 h ha' hb'
    · rw [decide_eq_false h]
      exact tails_dark e t a b
  · rw [decide_eq_false cf]
    refine ev_neg (by decide) ?_
    exact tails_dark e t a b
end Go.Proofs.Ytbjjjbjhpcdgmaa.Pure
