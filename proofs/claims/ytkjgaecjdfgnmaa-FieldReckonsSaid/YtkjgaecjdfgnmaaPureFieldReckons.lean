/- field.Add, field.Mul, field.Sub, field.Of and field.Clean reckon as the document says, modulo the prime: for any list and any two numbers, with no condition. -/
import Derived.Test.YtkjgaecjdfgnmaaXxL30FieldReckons
import Derived.Test.YtkjgaecjdfgnmaaPa
namespace Go.Proofs.Ytkjgaecjdfgnmaa.Pure
open Go.RowKit Go.Proofs.Ytkjgaecjdfgnmaa.X Go.Proofs.YtkjgaecjdfgnmaaW.PrintWords Go.Proofs.YtkjgaecjdfgnmaaW.PrintLast Pa Pl Gv

theorem reck_l1 (l : List Int) (a b : Int) (hm : l.length ≤ 1000000) : ∀ (d i : Nat), i + d = l.length → Ev (fun k => penumbralaw30_FieldReckons.l1 k l a b (suml l) (prodl' l) (l.map of) (i : Int)) true := by
  intro d
  induction d with
  | zero =>
    intro i hi
    refine Ev.step (fun k => by rw [penumbralaw30_FieldReckons.l1]) ?_
    refine ev_neg (by omega) ?_
    refine Ev.bind awake30 ?_
    refine ev_pos rfl ?_
    refine ev_some ?_
    refine ev_pos rfl ?_
    refine ev_some ?_
    refine ev_pos rfl ?_
    rw [Sub_eq, RSub_eq]
    refine ev_some ?_
    refine ev_some ?_
    refine ev_pos rfl ?_
    rw [Of_eq, ROf_eq]
    refine ev_some ?_
    refine ev_some ?_
    refine ev_pos rfl ?_
    rw [show (((l.map of).length : Int) == (l.length : Int)) = true from by simp]
    exact Ev.now _
  | succ d ih =>
    intro i hi
    refine Ev.step (fun k => by rw [penumbralaw30_FieldReckons.l1]) ?_
    have hml : (l.map of).length = l.length := List.length_map _
    refine ev_pos (by omega) ?_
    refine ev_neg (by omega) ?_
    refine ev_pos (by omega) ?_
    refine ev_pos (by omega) ?_
    rw [ROf_eq]
    refine ev_some ?_
    refine ev_pos (by rw [rd_eq, rd_eq, List.getD_eq_getElem?_getD, List.getD_eq_getElem?_getD, List.getElem?_map, List.getElem?_eq_getElem (by omega)]; rfl) ?_
    rw [wrap_id (n := (i : Int) + 1) (by omega) (by omega)]
    exact ih (i + 1) (by omega)
theorem reck_l0 (l : List Int) (a b : Int) (hm : l.length ≤ 1000000) : ∀ (d i : Nat), i + d = l.length → Ev (fun k => penumbralaw30_FieldReckons.l0 k l a b (sumTo l i) (prodTo l i) (i : Int)) true := by
  intro d
  induction d with
  | zero =>
    intro i hi
    refine Ev.step (fun k => by rw [penumbralaw30_FieldReckons.l0]) ?_
    refine ev_neg (by omega) ?_
    refine Ev.bind (Clean_ev l (by omega)) ?_
    rw [show i = l.length from by omega, sumTo_all, prodTo_all]
    exact reck_l1 l a b hm l.length 0 (by omega)
  | succ d ih =>
    intro i hi
    refine Ev.step (fun k => by rw [penumbralaw30_FieldReckons.l0]) ?_
    refine ev_pos (by omega) ?_
    refine ev_pos (by omega) ?_
    rw [RAdd_eq]
    refine ev_some ?_
    rw [RMul_eq]
    refine ev_some ?_
    rw [wrap_id (n := (i : Int) + 1) (by omega) (by omega), rd_eq, ← of_add_right, ← of_mul_right, ← sumTo_succ l i (by omega), ← prodTo_succ l i (by omega)]
    exact ih (i + 1) (by omega)
theorem reck_l1003 (l : List Int) (a b : Int) (hm : l.length ≤ 1000000) : ∀ (d i : Nat), i + d = l.length → Ev (fun k => penumbralaw30_FieldReckons.l1003 k l a b (suml l) (prodl' l) (l.map of) (i : Int)) true := by
  intro d
  induction d with
  | zero =>
    intro i hi
    refine Ev.step (fun k => by rw [penumbralaw30_FieldReckons.l1003]) ?_
    refine ev_neg (by omega) ?_
    refine Ev.bind awake30 ?_
    refine ev_pos rfl ?_
    refine ev_some ?_
    refine ev_pos rfl ?_
    refine ev_some ?_
    refine ev_pos rfl ?_
    rw [Sub_eq, RSub_eq]
    refine ev_some ?_
    refine ev_some ?_
    refine ev_pos rfl ?_
    rw [Of_eq, ROf_eq]
    refine ev_some ?_
    refine ev_some ?_
    refine ev_pos rfl ?_
    rw [show (((l.map of).length : Int) == (l.length : Int)) = true from by simp]
    exact Ev.now _
  | succ d ih =>
    intro i hi
    refine Ev.step (fun k => by rw [penumbralaw30_FieldReckons.l1003]) ?_
    have hml : (l.map of).length = l.length := List.length_map _
    refine ev_pos (by omega) ?_
    refine ev_neg (by omega) ?_
    refine ev_pos (by omega) ?_
    refine ev_pos (by omega) ?_
    rw [ROf_eq]
    refine ev_some ?_
    refine ev_pos (by rw [rd_eq, rd_eq, List.getD_eq_getElem?_getD, List.getD_eq_getElem?_getD, List.getElem?_map, List.getElem?_eq_getElem (by omega)]; rfl) ?_
    rw [wrap_id (n := (i : Int) + 1) (by omega) (by omega)]
    exact ih (i + 1) (by omega)
theorem reck_l1002 (l : List Int) (a b : Int) (hm : l.length ≤ 1000000) : ∀ (d i : Nat), i + d = l.length → Ev (fun k => penumbralaw30_FieldReckons.l1002 k l a b (sumTo l i) (prodTo l i) (i : Int)) true := by
  intro d
  induction d with
  | zero =>
    intro i hi
    refine Ev.step (fun k => by rw [penumbralaw30_FieldReckons.l1002]) ?_
    refine ev_neg (by omega) ?_
    refine Ev.bind (Clean_ev l (by omega)) ?_
    rw [show i = l.length from by omega, sumTo_all, prodTo_all]
    exact reck_l1003 l a b hm l.length 0 (by omega)
  | succ d ih =>
    intro i hi
    refine Ev.step (fun k => by rw [penumbralaw30_FieldReckons.l1002]) ?_
    refine ev_pos (by omega) ?_
    refine ev_pos (by omega) ?_
    rw [RAdd_eq]
    refine ev_some ?_
    rw [RMul_eq]
    refine ev_some ?_
    rw [wrap_id (n := (i : Int) + 1) (by omega) (by omega), rd_eq, ← of_add_right, ← of_mul_right, ← sumTo_succ l i (by omega), ← prodTo_succ l i (by omega)]
    exact ih (i + 1) (by omega)

theorem FieldReckons : penumbralaw30_FieldReckons.Pure := by
  intro l a b h1 _ _ _ _
  refine Ev.rounds ?_
  unfold penumbralaw30_FieldReckons.f
  by_cases h : l.length > 50
  · refine ev_pos (by omega) ?_
    refine ev_pos (by omega) ?_
    have := reck_l0 (l.take 50) a b (by rw [List.length_take]; omega) (l.take 50).length 0 (by omega)
    rw [sumTo_zero, prodTo_zero] at this
    exact this
  · refine ev_neg (by omega) ?_
    have := reck_l1002 l a b (by omega) l.length 0 (by omega)
    rw [sumTo_zero, prodTo_zero] at this
    exact this

end Go.Proofs.Ytkjgaecjdfgnmaa.Pure
