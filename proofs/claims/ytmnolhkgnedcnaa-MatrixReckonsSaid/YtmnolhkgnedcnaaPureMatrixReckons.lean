/- Sums, differences and products of tables. -/
import Derived.Test.YtmnolhkgnedcnaaXxL31MatrixReckons
import Derived.Test.YtmnolhkgnedcnaaPb
namespace Go.Proofs.Ytmnolhkgnedcnaa.Pure
open Go.RowKit Go.Proofs.Ytmnolhkgnedcnaa.X Go.Proofs.YtmnolhkgnedcnaaW.PrintWords Go.Proofs.YtmnolhkgnedcnaaW.PrintLast Pa Pb Pl Gv

theorem light_eq (l : List Int) : penumbralaw31_light.f l = some (decide (l.length ≤ 200)) := by
  unfold penumbralaw31_light.f
  congr 1
  exact decide_eq_decide.2 (by omega)
theorem reckons_l0 {n : Nat} {a b : List Int} (h2 : n < 13) (ha : a.length = n * n) (hb : b.length = n * n) : ∀ (d i : Nat), i + d = n * n →
    Ev (fun k => penumbralaw31_MatrixReckons.l0 k a b (tab (fun q => of (a.getD q 0 + b.getD q 0)) (n * n)) (tab (fun q => of (a.getD q 0 - b.getD q 0)) (n * n)) (mm n a b) (n : Int) (i : Int)) true := by
  have hnn : n * n ≤ 12 * 12 := Nat.mul_le_mul (by omega) (by omega)
  have w0 : wrap64 ((n : Int) * (n : Int)) = ((n * n : Nat) : Int) := by
      rw [show ((n : Int) * (n : Int)) = ((n * n : Nat) : Int) from by simp]; exact wrap_id (by omega) (by omega)
  intro d
  induction d with
  | zero =>
    intro i hi
    refine Ev.step (fun k => by rw [penumbralaw31_MatrixReckons.l0]) ?_
    rw [w0]
    refine ev_neg (by omega) ?_
    refine Ev.bind awake31 ?_
    refine ev_pos rfl ?_
    refine Ev.bind (RMul_ev h2 ha hb) ?_
    refine Ev.bind (Ints_ev _ _ (by rw [mm_length]; omega)) ?_
    rw [decide_eq_true rfl]
    exact Ev.now _
  | succ d ih =>
    intro i hi
    refine Ev.step (fun k => by rw [penumbralaw31_MatrixReckons.l0]) ?_
    rw [w0]
    refine ev_pos (by omega) ?_
    refine ev_pos (by omega) ?_
    refine ev_pos (by rw [tab_length]; omega) ?_
    refine ev_pos (by omega) ?_
    refine ev_pos (by omega) ?_
    rw [RAdd_eq]
    refine ev_some ?_
    refine ev_pos (by rw [rd_eq, tab_at _ _ _ (by omega)]; rfl) ?_
    refine ev_pos (by rw [tab_length]; omega) ?_
    rw [RSub_eq]
    refine ev_some ?_
    refine ev_pos (by rw [rd_eq, tab_at _ _ _ (by omega)]; rfl) ?_
    rw [wrap_id (n := (i : Int) + 1) (by omega) (by omega)]
    exact ih (i + 1) (by omega)
theorem reckons_dark (a b : List Int) : Ev (fun k => penumbralaw31_MatrixReckons.j0 k a b true) true := by
  refine Ev.step (fun k => by rw [penumbralaw31_MatrixReckons.j0]) ?_
  refine ev_pos rfl ?_
  exact Ev.bind awake31 (Ev.now _)
theorem reckons_none (a b : List Int) (t : Int) : Ev (fun k => penumbralaw31_MatrixReckons.j1 k a b [] 14 [] 14 [] 14 t true) true := by
  refine Ev.step (fun k => by rw [penumbralaw31_MatrixReckons.j1]) ?_
  refine ev_pos rfl ?_
  refine Ev.bind awake31 ?_
  refine ev_pos rfl ?_
  refine ev_pos rfl ?_
  refine ev_pos rfl ?_
  refine ev_pos rfl ?_
  have e : (wrap64 (wrap64 ((([] : List Int).length : Int) + (([] : List Int).length : Int)) + (([] : List Int).length : Int)) == 0) = true := by simp [wrap64]
  rw [e]
  exact Ev.now _

theorem MatrixReckons : penumbralaw31_MatrixReckons.Pure := by
  intro a b h1 h2 _ h3 _ _
  refine Ev.rounds ?_
  unfold penumbralaw31_MatrixReckons.f
  rw [light_eq, light_eq]
  by_cases ca : a.length ≤ 200
  · rw [decide_eq_true ca]
    refine ev_some ?_
    refine ev_pos rfl ?_
    refine ev_some ?_
    by_cases cb : b.length ≤ 200
    · rw [decide_eq_true cb]
      refine Ev.step (fun k => by rw [penumbralaw31_MatrixReckons.j0]) ?_
      refine ev_neg (by decide) ?_
      by_cases c : sideOf a.length = 0 ∨ sideOf a.length ≠ sideOf b.length
      · rw [Add_no c, Sub_no c, Mul_no c]
        refine ev_some ?_
        refine ev_some ?_
        refine ev_some ?_
        refine Ev.bind (RSide_ev a) ?_
        by_cases c0 : sideOf a.length = 0
        · exact ev_pos (by omega) (reckons_none a b _)
        · refine ev_neg (by omega) ?_
          refine Ev.bind (RSide_ev b) ?_
          have : (((sideOf a.length : Nat) : Int) != ((sideOf b.length : Nat) : Int)) = true := by simp; omega
          rw [this]
          exact reckons_none a b _
      · have hr := sideOf_range a.length
        have hla := side_len (l := a) (by omega)
        have hlb := side_len (l := b) (by omega)
        have e : sideOf b.length = sideOf a.length := by omega
        rw [e] at hlb
        generalize hn : sideOf a.length = n at *
        have hnn : n * n ≤ 12 * 12 := Nat.mul_le_mul (by omega) (by omega)
        have w0 : wrap64 ((n : Int) * (n : Int)) = ((n * n : Nat) : Int) := by
          rw [show ((n : Int) * (n : Int)) = ((n * n : Nat) : Int) from by simp]; exact wrap_id (by omega) (by omega)
        rw [Add_yes (n := n) (by omega) hn e, Sub_yes (n := n) (by omega) hn e, Mul_yes (n := n) (by omega) hn e]
        refine ev_some ?_
        refine ev_some ?_
        refine ev_some ?_
        refine Ev.bind (RSide_ev a) ?_
        rw [hn]
        refine ev_neg (by omega) ?_
        refine Ev.bind (RSide_ev b) ?_
        rw [e, show ((n : Int) != (n : Int)) = false from by simp]
        refine Ev.step (fun k => by rw [penumbralaw31_MatrixReckons.j1]) ?_
        refine ev_neg (by decide) ?_
        refine ev_pos rfl ?_
        refine ev_pos rfl ?_
        refine ev_pos rfl ?_
        rw [w0]
        refine ev_pos (by rw [tab_length]) ?_
        rw [tab_length, show (((n * n : Nat) : Int) != ((n * n : Nat) : Int)) = false from by simp]
        refine Ev.step (fun k => by rw [penumbralaw31_MatrixReckons.j2]) ?_
        refine ev_neg (by decide) ?_
        exact reckons_l0 (by omega) hla hlb (n * n) 0 (by omega)
    · rw [decide_eq_false cb]
      exact reckons_dark a b
  · rw [decide_eq_false ca]
    refine ev_some ?_
    refine ev_neg (by decide) ?_
    exact reckons_dark a b

end Go.Proofs.Ytmnolhkgnedcnaa.Pure
