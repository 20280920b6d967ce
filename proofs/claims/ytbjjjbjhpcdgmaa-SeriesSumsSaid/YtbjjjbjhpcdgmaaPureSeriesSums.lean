/- The sum of all terms, and what is seen of it. -/
import Derived.Test.YtbjjjbjhpcdgmaaXxSSeriesSums
import Derived.Test.YtbjjjbjhpcdgmaaPd
namespace Go.Proofs.Ytbjjjbjhpcdgmaa.Pure
open Go.RowKit Go.Proofs.Ytbjjjbjhpcdgmaa.X Go.Proofs.YtbjjjbjhpcdgmaaW.PrintWords Go.Proofs.YtbjjjbjhpcdgmaaW.PrintLast Pa Pb Pc Pd Pl Gv

theorem sums_dark (e t v : List Int) (a : Int) : Ev (fun k => penumbralaw33_SeriesSums.j0 k a v true e t) true := by
  refine Ev.step (fun k => by rw [penumbralaw33_SeriesSums.j0]) ?_
  refine ev_pos rfl ?_
  exact Ev.bind awake33 (Ev.now _)
theorem sums_err (e t v : List Int) (a c : Int) (hc : c ≠ 0) : Ev (fun k => penumbralaw33_SeriesSums.j1 k a v [] c 0 c [] c c e t) true := by
  refine Ev.step (fun k => by rw [penumbralaw33_SeriesSums.j1]) ?_
  refine ev_neg hc ?_
  refine Ev.bind awake33 ?_
  refine ev_pos rfl ?_
  refine ev_pos rfl ?_
  refine ev_pos rfl ?_
  refine ev_pos rfl ?_
  have e1 : (wrap64 (wrap64 ((([] : List Int).length : Int) + 0) + (([] : List (List Int)).length : Int)) == 0) = true := by decide +kernel
  rw [e1]
  exact Ev.now _
theorem terms_length (e t : List Int) (m : Nat) : (terms e t m).length = m := by simp [terms]
theorem terms_at (e t : List Int) (m i : Nat) (h : i < m) : rd_L1 (terms e t m) (i : Int) = tm e t i := by
  unfold rd_L1 terms
  rw [Int.toNat_natCast, List.getD_eq_getElem?_getD, List.getElem?_map, List.getElem?_range h]
  rfl
theorem sums_l1 {e t : List Int} (h : right e t) {m : Nat} (hm : m ≤ 1024) (x9 : Int) : ∀ (d i : Nat), i + d = m + 1 →
    Ev (fun k => penumbralaw33_SeriesSums.l1 k (rs e t m) x9 (terms e t (m + 1)) (rs e t m) x9 (i : Int) e t) true := by
  have h2 := h.2.1
  intro d
  induction d with
  | zero =>
    intro i hi
    refine Ev.step (fun k => by rw [penumbralaw33_SeriesSums.l1]) ?_
    refine ev_neg (by rw [terms_length]; omega) ?_
    refine Ev.bind awake33 ?_
    refine ev_pos rfl ?_
    refine Ev.bind (Ints_ev _ _ (by rw [rs_length]; omega)) ?_
    refine ev_pos (decide_eq_true rfl) ?_
    rw [show (x9 == x9) = true from beq_self_eq_true x9]
    exact Ev.now _
  | succ d ih =>
    intro i hi
    refine Ev.step (fun k => by rw [penumbralaw33_SeriesSums.l1]) ?_
    refine ev_pos (by rw [terms_length]; omega) ?_
    refine ev_pos (by omega) ?_
    refine Ev.bind (RTerm_ev h (m := i) (by omega)) ?_
    rw [terms_at e t (m + 1) i (by omega)]
    refine Ev.bind (Ints_ev _ _ (by rw [tm_length]; omega)) ?_
    refine ev_pos (decide_eq_true rfl) ?_
    rw [sucW i (by omega)]
    exact ih (i + 1) (by omega)
theorem sums_l0 {e t v : List Int} (h : right e t) {m : Nat} (hm : m ≤ 1024) (hv : v.length ≤ 30) : ∀ (d i : Nat), i + d = min v.length e.length →
    Ev (fun k => penumbralaw33_SeriesSums.l0 k (m : Int) v (rs e t m) 0 (dotOf v (rs e t m)) 0 (terms e t (m + 1)) 0 (rs e t m) (dotTo v (rs e t m) i) (i : Int) e t) true := by
  have hlen := rs_length e t m
  have h2 := h.2.1
  have fin : ∀ i, i = min v.length e.length → Ev (fun k => penumbralaw33_SeriesSums.j3 k (m : Int) v (rs e t m) 0 (dotOf v (rs e t m)) 0 (terms e t (m + 1)) 0 (rs e t m) (dotTo v (rs e t m) i) (i : Int) false e t) true := by
    intro i hi
    have hd : dotTo v (rs e t m) i = dotOf v (rs e t m) := by unfold dotOf; rw [hlen, hi]
    rw [hd]
    refine Ev.step (fun k => by rw [penumbralaw33_SeriesSums.j3]) ?_
    refine ev_neg (by decide) ?_
    refine ev_pos rfl ?_
    refine ev_pos rfl ?_
    refine ev_pos rfl ?_
    have e1 : (((terms e t (m + 1)).length : Int) != wrap64 ((m : Int) + 1)) = false := by rw [terms_length, sucW m (by omega)]; simp
    rw [e1]
    refine Ev.step (fun k => by rw [penumbralaw33_SeriesSums.j4]) ?_
    refine ev_neg (by decide) ?_
    exact sums_l1 h hm _ (m + 1) 0 (by omega)
  intro d
  induction d with
  | zero =>
    intro i hi
    refine Ev.step (fun k => by rw [penumbralaw33_SeriesSums.l0]) ?_
    by_cases c : i < v.length
    · refine ev_pos (by omega) ?_
      rw [show decide ((i : Int) < ((rs e t m).length : Int)) = false from decide_eq_false (by omega)]
      exact fin i (by omega)
    · exact ev_neg (by omega) (fin i (by omega))
  | succ d ih =>
    intro i hi
    refine Ev.step (fun k => by rw [penumbralaw33_SeriesSums.l0]) ?_
    refine ev_pos (by omega) ?_
    rw [show decide ((i : Int) < ((rs e t m).length : Int)) = true from decide_eq_true (by omega)]
    refine Ev.step (fun k => by rw [penumbralaw33_SeriesSums.j3]) ?_
    refine ev_pos rfl ?_
    refine ev_pos (by omega) ?_
    refine ev_pos (by omega) ?_
    refine ev_pos (by omega) ?_
    rw [RMul_eq]
    refine ev_some ?_
    rw [RAdd_eq]
    refine ev_some ?_
    rw [sucW i (by omega), rd_eq, rd_eq]
    have e3 : of (dotTo v (rs e t m) i + of (v.getD i 0 * (rs e t m).getD i 0)) = dotTo v (rs e t m) (i + 1) := rfl
    rw [e3]
    exact ih (i + 1) (by omega)
theorem sums_j0 {e t v : List Int} {a : Int} (he : e.length ≤ 20) (hv : v.length ≤ 30) : Ev (fun k => penumbralaw33_SeriesSums.j0 k a v false e t) true := by
  refine Ev.step (fun k => by rw [penumbralaw33_SeriesSums.j0]) ?_
  refine ev_neg (by decide) ?_
  by_cases h : right e t
  · by_cases c0 : deep a
    · obtain ⟨m, rfl⟩ := Int.eq_ofNat_of_zero_le c0.1
      have hm : m ≤ 1024 := by have := c0.2; omega
      rw [Sum_yes h hm]
      refine ev_some ?_
      rw [Image_yes v h hm]
      refine ev_some ?_
      refine Ev.bind (All_yes h hm) ?_
      rw [Right_eq e t he]
      refine ev_some ?_
      rw [decide_eq_true h]
      refine ev_pos rfl ?_
      refine ev_neg (by omega) ?_
      refine ev_neg (by omega) ?_
      refine Ev.step (fun k => by rw [penumbralaw33_SeriesSums.j1]) ?_
      refine ev_pos rfl ?_
      refine Ev.bind (RSum_ev h (m := m) (by omega)) ?_
      exact sums_l0 h hm hv (min v.length e.length) 0 (by omega)
    · rw [Sum_range h c0]
      refine ev_some ?_
      rw [Image_range v h c0]
      refine ev_some ?_
      refine Ev.bind (All_range h c0) ?_
      rw [Right_eq e t he]
      refine ev_some ?_
      rw [decide_eq_true h]
      refine ev_pos rfl ?_
      unfold deep at c0
      by_cases c1 : a < 0
      · refine ev_pos c1 ?_
        exact sums_err e t v a 3 (by decide)
      · refine ev_neg c1 ?_
        refine ev_pos (by omega) ?_
        exact sums_err e t v a 3 (by decide)
  · rw [Sum_no a h]
    refine ev_some ?_
    rw [Image_no v a h]
    refine ev_some ?_
    refine Ev.bind (All_no a h) ?_
    rw [Right_eq e t he]
    refine ev_some ?_
    rw [decide_eq_false h]
    refine ev_neg (by decide) ?_
    exact sums_err e t v a 14 (by decide)
theorem SeriesSums : penumbralaw33_SeriesSums.Pure := by
  intro e t a v _ _ _ _ _ _ _
  refine Ev.rounds ?_
  unfold penumbralaw33_SeriesSums.f
  rw [Few_eq]
  refine ev_some ?_
  by_cases cf : e.length ≤ 20 ∧ t.length ≤ 200
  · rw [decide_eq_true cf]
    refine ev_pos rfl ?_
    by_cases c1 : a > 60
    · refine ev_pos c1 ?_
      by_cases c2 : a ≤ 1024
      · refine ev_pos c2 ?_
        exact sums_dark e t v a
      · refine ev_neg c2 ?_
        by_cases c3 : (v.length : Int) > 30
        · rw [decide_eq_true c3]; exact sums_dark e t v a
        · rw [decide_eq_false c3]; exact sums_j0 cf.1 (by omega)
    · refine ev_neg c1 ?_
      by_cases c3 : (v.length : Int) > 30
      · rw [decide_eq_true c3]; exact sums_dark e t v a
      · rw [decide_eq_false c3]; exact sums_j0 cf.1 (by omega)
  · rw [decide_eq_false cf]
    refine ev_neg (by decide) ?_
    exact sums_dark e t v a
end Go.Proofs.Ytbjjjbjhpcdgmaa.Pure
