/- What shines in a mix of two models is a mix of what shines in both. -/
import Derived.Test.YtknmhlneeelaoaaXxSGraphMixes
import Derived.Test.YtknmhlneeelaoaaPc
namespace Go.Proofs.Ytknmhlneeelaoaa.Pure
open Go.RowKit Go.Proofs.Ytknmhlneeelaoaa.X Go.Proofs.YtknmhlneeelaoaaW.PrintWords Go.Proofs.YtknmhlneeelaoaaW.PrintLast Pa Pb Pc Pl Gv

/-- p times u and q times v -/
def lin (n : Nat) (p q : Int) (u v : List Int) : List Int := tab (fun i => of (p * u.getD i 0 + q * v.getD i 0)) n
theorem of_lin (p q a b : Int) : of (of (p * a) + of (q * b)) = of (p * a + q * b) := of_add _ _
theorem lin_clean (n : Nat) (p q : Int) (u v : List Int) : lin n p q (u.map of) (v.map of) = lin n p q u v := by
  refine tab_congr fun i _ => ?_
  rw [map_at, map_at, ← of_add, of_mul_right, of_mul_right, of_add]
theorem lin_length (n : Nat) (p q : Int) (u v : List Int) : (lin n p q u v).length = n := tab_length _ _
theorem lin_of (n : Nat) (p q : Int) (u v : List Int) : (lin n p q u v).map of = lin n p q u v := by
  unfold lin tab
  rw [List.map_map]
  exact List.map_congr_left fun x _ => of_of _
theorem mv_lin (n : Nat) (t : List Int) (p q : Int) (u v : List Int) : mv n t (lin n p q u v) = lin n p q (mv n t u) (mv n t v) := by
  refine tab_congr fun i hi => ?_
  rw [mv_el _ _ _ hi, mv_el _ _ _ hi]
  have e1 : of (sm n fun k => el t n i k * (lin n p q u v).getD k 0) = of (sm n fun k => p * (el t n i k * u.getD k 0) + q * (el t n i k * v.getD k 0)) := by
    refine of_sm_congr fun k hk => ?_
    unfold lin
    rw [tab_at _ _ _ hk, of_mul_right, Int.mul_add, Int.mul_left_comm, Int.mul_left_comm (el t n i k) q]
  rw [e1, sm_add, sm_mul_left, sm_mul_left, ← of_add, ← of_mul_right p, ← of_mul_right q, of_add]
theorem itv_lin (n : Nat) (t : List Int) (p q : Int) (m : Nat) : ∀ u v, itv n t m (lin n p q u v) = lin n p q (itv n t m u) (itv n t m v) := by
  induction m with
  | zero => intro u v; rfl
  | succ m ih => intro u v; rw [itv, itv, itv, mv_lin]; exact ih _ _
theorem itv_clean (n : Nat) (t : List Int) (m : Nat) : ∀ u, itv n (t.map of) m u = itv n t m u := by
  induction m with
  | zero => intro u; rfl
  | succ m ih => intro u; rw [itv, itv, mv_clean_left]; exact ih _
theorem map_of_of (l : List Int) : (l.map of).map of = l.map of := by
  rw [List.map_map]
  exact List.map_congr_left fun x _ => of_of x

theorem Mix_yes {e t f s : List Int} {p q : Int} (h : right e t) (h' : right f s) (hl : e.length = f.length) (hs : t.map of = s.map of) : Ev (fun k => graph_Mix.f k e t p f s q) (lin e.length p q e f, t.map of, 0) := by
  have h2 := h.2.1
  have h3 := sq_le h2
  have h4 := h.2.2
  have h5 := h'.2.2
  rw [← hl] at h5
  unfold graph_Mix.f
  rw [Check_yes h, Check_yes h']
  refine ev_some ?_
  refine ev_some ?_
  refine ev_pos rfl ?_
  refine ev_pos rfl ?_
  refine ev_pos (by omega) ?_
  refine Ev.bind (Same_ev t s (by omega) (by omega)) ?_
  rw [decide_eq_true hs]
  refine Ev.step (fun k => by rw [graph_Mix.j0]) ?_
  refine ev_neg (by decide) ?_
  unfold field_fold.f
  rw [if_pos (by omega)]
  refine ev_some ?_
  refine Ev.bind (Clean_ev t (by omega)) ?_
  have e1 : tabTo (fun i => of (of (p * e.getD i 0) + of (q * f.getD i 0))) (min e.length f.length) = lin e.length p q e f := by
    rw [← hl, Nat.min_self]
    exact tab_congr fun i _ => of_lin _ _ _ _
  rw [e1]
  exact Ev.now _
theorem Mix_ne {e t f s : List Int} {p q : Int} (h : right e t) (h' : right f s) (hl : e.length = f.length) (hs : t.map of ≠ s.map of) : Ev (fun k => graph_Mix.f k e t p f s q) ([], [], 14) := by
  have h2 := h.2.1
  have h3 := sq_le h2
  have h4 := h.2.2
  have h5 := h'.2.2
  rw [← hl] at h5
  unfold graph_Mix.f
  rw [Check_yes h, Check_yes h']
  refine ev_some ?_
  refine ev_some ?_
  refine ev_pos rfl ?_
  refine ev_pos rfl ?_
  refine ev_pos (by omega) ?_
  refine Ev.bind (Same_ev t s (by omega) (by omega)) ?_
  rw [decide_eq_false hs]
  refine Ev.step (fun k => by rw [graph_Mix.j0]) ?_
  exact ev_pos rfl (Ev.now _)

theorem mixes_l0 {e t f : List Int} {p q : Int} {u v : List Int} (h : right e t) (hl : f.length = e.length) (hu : u.length = e.length) (hv : v.length = e.length) : ∀ (d i : Nat), i + d = e.length →
    Ev (fun k => penumbralaw32_GraphMixes.l0 k p q (lin e.length p q u v) u v (i : Int) e t f (t.map of)) true := by
  have h2 := h.2.1
  have h3 := sq_le h2
  have h4 := h.2.2
  have h1 := h.1
  have ht : 0 < t.length := by rw [h4]; exact Nat.mul_pos (by omega) (by omega)
  intro d
  induction d with
  | zero =>
    intro i hi
    refine Ev.step (fun k => by rw [penumbralaw32_GraphMixes.l0]) ?_
    refine ev_neg (by rw [lin_length]; omega) ?_
    refine Ev.bind (Rests_ev t (by omega)) ?_
    refine ev_pos (by rw [List.length_map]; omega) ?_
    rw [RAdd_eq]
    refine ev_some ?_
    have hr : right f ((t.map of).set (0 : Int).toNat (of (rd (t.map of) 0 + 1))) := by
      refine ⟨by omega, by omega, ?_⟩
      rw [List.length_set, List.length_map, hl]
      exact h4
    refine Ev.bind (Mix_ne (p := p) (q := q) h hr hl.symm ?_) ?_
    · intro hc
      have h0 := congrArg (fun z : List Int => z.getD 0 0) hc
      simp only [map_at] at h0
      have e1 : ((t.map of).set (0 : Int).toNat (of (rd (t.map of) 0 + 1))).getD 0 0 = of (of (t.getD 0 0) + 1) := by
        rw [show (0 : Int).toNat = 0 from rfl, List.getD_eq_getElem?_getD, List.getElem?_set_self (by rw [List.length_map]; exact ht)]
        show of (rd (t.map of) ((0 : Nat) : Int) + 1) = _
        rw [rd_eq, map_at]
      rw [e1] at h0
      have g1 := of_nonneg (t.getD 0 0)
      have g2 := of_lt (t.getD 0 0)
      generalize of (t.getD 0 0) = z at *
      unfold of at h0
      omega
    · refine Ev.bind awake32 ?_
      exact ev_pos rfl (Ev.now _)
  | succ d ih =>
    intro i hi
    refine Ev.step (fun k => by rw [penumbralaw32_GraphMixes.l0]) ?_
    refine ev_pos (by rw [lin_length]; omega) ?_
    refine ev_pos (by omega) ?_
    refine ev_pos (by omega) ?_
    rw [RMul_eq]
    refine ev_some ?_
    refine ev_pos (by omega) ?_
    rw [RMul_eq]
    refine ev_some ?_
    rw [RAdd_eq]
    refine ev_some ?_
    refine ev_pos ?_ ?_
    · rw [rd_eq, rd_eq, rd_eq]
      unfold lin
      rw [tab_at _ _ _ (by omega)]
      exact (of_lin _ _ _ _).symm
    rw [sucW i (by omega)]
    exact ih (i + 1) (by omega)
theorem mixes_dark (e t f : List Int) (p q k : Int) : Ev (fun n => penumbralaw32_GraphMixes.j0 n f p q k true e t) true := by
  refine Ev.step (fun k => by rw [penumbralaw32_GraphMixes.j0]) ?_
  refine ev_pos rfl ?_
  exact Ev.bind awake32 (Ev.now _)
theorem mixes_j0 {e t f : List Int} {p q c : Int} (h : right e t) (hf : e.length ≤ f.length) (_ : f.length ≤ maxLen) (hc : 0 ≤ c ∧ c ≤ 255) : Ev (fun n => penumbralaw32_GraphMixes.j0 n f p q c false e t) true := by
  have h2 := h.2.1
  have h3 := sq_le h2
  have h4 := h.2.2
  refine Ev.step (fun k => by rw [penumbralaw32_GraphMixes.j0]) ?_
  refine ev_neg (by decide) ?_
  refine ev_pos (by omega) ?_
  refine ev_pos (by omega) ?_
  refine ev_some ?_
  refine Ev.bind (Rests_ev t (by omega)) ?_
  obtain ⟨m, hm, hcm⟩ : ∃ m : Nat, m < 12 ∧ wrap64 (Int.tmod c 12) = (m : Int) := by
    refine ⟨(c % 12).toNat, by omega, ?_⟩
    rw [Int.tmod_eq_emod_of_nonneg hc.1, wrap_id (by omega) (by omega)]
    omega
  rw [hcm, Int.toNat_natCast]
  have hg : (f.take e.length).length = e.length := by rw [List.length_take]; omega
  generalize f.take e.length = g at *
  have hr : right g (t.map of) := ⟨by have := h.1; omega, by omega, by rw [List.length_map, hg]; exact h4⟩
  refine Ev.bind (Mix_yes (p := p) (q := q) h hr hg.symm (map_of_of t).symm) ?_
  have hmr : right (lin e.length p q e g) (t.map of) := by rw [right, lin_length, List.length_map]; exact h
  have e1 : itv (lin e.length p q e g).length (t.map of) m ((lin e.length p q e g).map of) = lin e.length p q (itv e.length t m (e.map of)) (itv e.length t m (g.map of)) := by
    rw [lin_length, lin_of, itv_clean, ← lin_clean, itv_lin]
  have T1 := Term_yes hmr (m := m) (by omega)
  rw [e1] at T1
  refine Ev.bind T1 ?_
  refine Ev.bind (RTerm_ev h (m := m) (by omega)) ?_
  have T2 := RTerm_ev hr (m := m) (by omega)
  rw [itv_clean, hg] at T2
  refine Ev.bind T2 ?_
  refine ev_pos rfl ?_
  refine ev_pos rfl ?_
  have hu : (itv e.length t m (e.map of)).length = e.length := itv_length m _ (by rw [List.length_map])
  have hv : (itv e.length t m (g.map of)).length = e.length := itv_length m _ (by rw [List.length_map]; exact hg)
  have e2 : ((((lin e.length p q (itv e.length t m (e.map of)) (itv e.length t m (g.map of))).length : Nat) : Int) != ((itv e.length t m (e.map of)).length : Int)) = false := by rw [lin_length, hu]; simp
  rw [e2]
  refine Ev.step (fun k => by rw [penumbralaw32_GraphMixes.j1]) ?_
  refine ev_neg (by decide) ?_
  exact mixes_l0 h hg hu hv e.length 0 (by omega)
theorem GraphMixes : penumbralaw32_GraphMixes.Pure := by
  intro e t f p q c _ _ _ _ hf _ _ _ hc
  have hc' := byte_wf hc
  refine Ev.rounds ?_
  unfold penumbralaw32_GraphMixes.f
  rw [Few_eq]
  refine ev_some ?_
  by_cases cf : e.length ≤ 20 ∧ t.length ≤ 200
  · rw [decide_eq_true cf]
    refine ev_pos rfl ?_
    rw [Right_eq e t cf.1]
    refine ev_some ?_
    by_cases h : right e t
    · rw [decide_eq_true h]
      refine ev_pos rfl ?_
      by_cases cl : f.length < e.length
      · rw [show decide ((f.length : Int) < (e.length : Int)) = true from decide_eq_true (by omega)]
        exact mixes_dark e t f p q c
      · rw [show decide ((f.length : Int) < (e.length : Int)) = false from decide_eq_false (by omega)]
        exact mixes_j0 h (by omega) hf hc'
    · rw [decide_eq_false h]
      refine ev_neg (by decide) ?_
      exact mixes_dark e t f p q c
  · rw [decide_eq_false cf]
    refine ev_neg (by decide) ?_
    exact mixes_dark e t f p q c

end Go.Proofs.Ytknmhlneeelaoaa.Pure
