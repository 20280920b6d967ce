/- field.Dot is the sum of the products of both lists' numbers, as far as both go, in either order: for any two lists, with no condition. -/
import Derived.Test.YtkjgaecjdfgnmaaXxL30FieldDots
import Derived.Test.YtkjgaecjdfgnmaaPa
namespace Go.Proofs.Ytkjgaecjdfgnmaa.Pure
open Go.RowKit Go.Proofs.Ytkjgaecjdfgnmaa.X Go.Proofs.YtkjgaecjdfgnmaaW.PrintWords Go.Proofs.YtkjgaecjdfgnmaaW.PrintLast Pa Pl Gv

theorem dotTo_comm (a b : List Int) (k : Nat) : dotTo a b k = dotTo b a k := by
  induction k with
  | zero => rfl
  | succ k ih => rw [dotTo, dotTo, ih, Int.mul_comm]
theorem dotOf_comm (a b : List Int) : dotOf a b = dotOf b a := by
  unfold dotOf
  rw [dotTo_comm, Nat.min_comm]
theorem dots_l0 (a b : List Int) (hm : a.length ≤ 1000000000000000) : ∀ (d i : Nat), i + d = min a.length b.length → Ev (fun k => penumbralaw30_FieldDots.l0 k a b (dotTo a b i) (i : Int)) true := by
  intro d
  induction d with
  | zero =>
    intro i hi
    have fin : Ev (fun k => penumbralaw30_FieldDots.j1 k a b (dotTo a b i) (i : Int) false) true := by
      refine Ev.step (fun k => by rw [penumbralaw30_FieldDots.j1]) ?_
      refine ev_neg (by decide) ?_
      refine Ev.bind awake30 ?_
      refine ev_pos rfl ?_
      refine ev_some ?_
      refine ev_pos (by unfold dotOf; rw [← hi, Nat.add_zero]) ?_
      refine ev_some ?_
      have e : (dotOf b a == dotTo a b i) = true := by rw [beq_iff_eq, dotOf_comm]; unfold dotOf; rw [← hi, Nat.add_zero]
      rw [e]
      exact Ev.now _
    refine Ev.step (fun k => by rw [penumbralaw30_FieldDots.l0]) ?_
    by_cases h : i < a.length
    · refine ev_pos (by omega) ?_
      rw [show decide ((i : Int) < (b.length : Int)) = false from decide_eq_false (by omega)]
      exact fin
    · exact ev_neg (by omega) fin
  | succ d ih =>
    intro i hi
    refine Ev.step (fun k => by rw [penumbralaw30_FieldDots.l0]) ?_
    refine ev_pos (by omega) ?_
    rw [show decide ((i : Int) < (b.length : Int)) = true from decide_eq_true (by omega)]
    refine Ev.step (fun k => by rw [penumbralaw30_FieldDots.j1]) ?_
    refine ev_pos rfl ?_
    refine ev_pos (by omega) ?_
    refine ev_pos (by omega) ?_
    refine ev_pos (by omega) ?_
    rw [RMul_eq]
    refine ev_some ?_
    rw [RAdd_eq]
    refine ev_some ?_
    rw [wrap_id (n := (i : Int) + 1) (by omega) (by omega), rd_eq, rd_eq]
    exact ih (i + 1) (by omega)
theorem dots_l1001 (a b : List Int) (hm : a.length ≤ 1000000000000000) : ∀ (d i : Nat), i + d = min a.length b.length → Ev (fun k => penumbralaw30_FieldDots.l1001 k a b (dotTo a b i) (i : Int)) true := by
  intro d
  induction d with
  | zero =>
    intro i hi
    have fin : Ev (fun k => penumbralaw30_FieldDots.j3 k a b (dotTo a b i) (i : Int) false) true := by
      refine Ev.step (fun k => by rw [penumbralaw30_FieldDots.j3]) ?_
      refine ev_neg (by decide) ?_
      refine Ev.bind awake30 ?_
      refine ev_pos rfl ?_
      refine ev_some ?_
      refine ev_pos (by unfold dotOf; rw [← hi, Nat.add_zero]) ?_
      refine ev_some ?_
      have e : (dotOf b a == dotTo a b i) = true := by rw [beq_iff_eq, dotOf_comm]; unfold dotOf; rw [← hi, Nat.add_zero]
      rw [e]
      exact Ev.now _
    refine Ev.step (fun k => by rw [penumbralaw30_FieldDots.l1001]) ?_
    by_cases h : i < a.length
    · refine ev_pos (by omega) ?_
      rw [show decide ((i : Int) < (b.length : Int)) = false from decide_eq_false (by omega)]
      exact fin
    · exact ev_neg (by omega) fin
  | succ d ih =>
    intro i hi
    refine Ev.step (fun k => by rw [penumbralaw30_FieldDots.l1001]) ?_
    refine ev_pos (by omega) ?_
    rw [show decide ((i : Int) < (b.length : Int)) = true from decide_eq_true (by omega)]
    refine Ev.step (fun k => by rw [penumbralaw30_FieldDots.j3]) ?_
    refine ev_pos rfl ?_
    refine ev_pos (by omega) ?_
    refine ev_pos (by omega) ?_
    refine ev_pos (by omega) ?_
    rw [RMul_eq]
    refine ev_some ?_
    rw [RAdd_eq]
    refine ev_some ?_
    rw [wrap_id (n := (i : Int) + 1) (by omega) (by omega), rd_eq, rd_eq]
    exact ih (i + 1) (by omega)

theorem FieldDots : penumbralaw30_FieldDots.Pure := by
  intro a b h1 h2 _ h3 _ _
  unfold maxLen at h1 h3
  refine Ev.rounds ?_
  unfold penumbralaw30_FieldDots.f
  by_cases h : a.length > 60
  · refine ev_pos (by omega) ?_
    refine ev_pos (by omega) ?_
    have := dots_l0 (a.take 60) b (by rw [List.length_take]; omega) (min (a.take 60).length b.length) 0 (by omega)
    exact this
  · refine ev_neg (by omega) ?_
    have := dots_l1001 a b (by omega) (min a.length b.length) 0 (by omega)
    exact this

end Go.Proofs.Ytkjgaecjdfgnmaa.Pure
