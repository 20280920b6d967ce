/- What the functions of layer 33 tell, as plain tables. -/
import Derived.Test.YtgkgnihjjabapaaXxD33
import Derived.Test.YtgkgnihjjabapaaPc
namespace Go.Proofs.Ytgkgnihjjabapaa.Pd
open Go.RowKit Go.Proofs.Ytgkgnihjjabapaa.X Go.Proofs.YtgkgnihjjabapaaW.PrintWords Pl Gv Pa Pb Pc

theorem sm_head (n : Nat) (f : Nat → Int) : sm (n + 1) f = f 0 + sm n (fun k => f (k + 1)) := by
  induction n with
  | zero => simp [sm]
  | succ n ih => rw [sm, ih, sm]; omega
theorem sm_split (m a : Nat) (h : a ≤ m) (f : Nat → Int) : sm m f = sm a f + sm m (fun k => if (a : Int) ≤ (k : Int) then f k else 0) := by
  induction m with
  | zero =>
    obtain rfl : a = 0 := by omega
    rfl
  | succ m ih =>
    by_cases c : a ≤ m
    · rw [sm, ih c, sm, if_pos (by omega)]; omega
    · obtain rfl : a = m + 1 := by omega
      rw [sm_congr (n := m + 1) (f := fun k => if ((m + 1 : Nat) : Int) ≤ (k : Int) then f k else 0) (g := fun _ => 0) (fun k hk => if_neg (by omega)), sm_zero]; omega
/-- what shines, thrown k times -/
def tm (e t : List Int) (k : Nat) : List Int := itv e.length t k (e.map of)
theorem tm_length (e t : List Int) (k : Nat) : (tm e t k).length = e.length := itv_length k _ (by rw [List.length_map])
theorem tm_zero (e t : List Int) (i : Nat) : (tm e t 0).getD i 0 = of (e.getD i 0) := map_at e i
theorem tm_succ (e t : List Int) (k : Nat) : tm e t (k + 1) = mv e.length t (tm e t k) := itv_succ _ _ _ _
theorem getD_set (l : List Int) (i j : Nat) (v : Int) (hi : i < l.length) : (l.set i v).getD j 0 = if i = j then v else l.getD j 0 := by
  rw [List.getD_eq_getElem?_getD, List.getElem?_set]
  by_cases c : i = j
  · rw [if_pos c, if_pos c, if_pos hi]; rfl
  · rw [if_neg c, if_neg c, List.getD_eq_getElem?_getD]
theorem list_tab {l : List Int} {n : Nat} {F : Nat → Int} (hl : l.length = n) (h : ∀ i, i < n → l.getD i 0 = F i) : l = tab F n := by
  rw [← tab_self l, hl]
  exact tab_congr h
/-- the sum of all terms up to a depth, by the shorter one thrown -/
def rs (e t : List Int) : Nat → List Int
  | 0 => e.map of
  | d + 1 => nx e.length e t (rs e t d)
theorem rs_length (e t : List Int) : ∀ d, (rs e t d).length = e.length
  | 0 => List.length_map _
  | _ + 1 => nx_length _ _ _ _
theorem rs_tab (e t : List Int) (d : Nat) : rs e t d = tab (fun i => of (sm (d + 1) fun k => (tm e t k).getD i 0)) e.length := by
  induction d with
  | zero =>
    refine list_tab (rs_length _ _ _) (fun i hi => ?_)
    rw [rs, sm, sm, tm_zero, map_at, Int.zero_add, of_of]
  | succ d ih =>
    rw [rs]
    unfold nx
    refine tab_congr fun i hi => ?_
    rw [sm_head, tm_zero, of_add_left]
    have e1 : of (sm e.length fun j => el t e.length i j * (rs e t d).getD j 0) = of (sm (d + 1) fun k => (tm e t (k + 1)).getD i 0) := by
      rw [sm_congr (n := d + 1) (g := fun k => of (sm e.length fun j => el t e.length i j * (tm e t k).getD j 0)) (fun k _ => by rw [tm_succ, mv_el _ _ _ hi]), of_sm]
      rw [sm_comm (d + 1) e.length (fun k j => el t e.length i j * (tm e t k).getD j 0)]
      refine of_sm_congr fun j hj => ?_
      rw [ih, tab_at _ _ _ hj, of_mul_right, sm_mul_left]
    rw [← of_add_right, e1, of_add_right]
def plus (n : Nat) (u v : List Int) : List Int := tab (fun i => of (u.getD i 0 + v.getD i 0)) n
theorem RSum_loop {e t : List Int} (h : right e t) {m : Nat} (hm : m ≤ 100000) : ∀ (d i : Nat), i + d = m → Ev (fun k => penumbraref33_Sum.l0 k (m : Int) (rs e t i) (i : Int) e t) (rs e t m) := by
  intro d
  induction d with
  | zero =>
    intro i hi
    obtain rfl : i = m := by omega
    refine Ev.step (fun k => by rw [penumbraref33_Sum.l0]) ?_
    exact ev_neg (by omega) (Ev.now _)
  | succ d ih =>
    intro i hi
    refine Ev.step (fun k => by rw [penumbraref33_Sum.l0]) ?_
    refine ev_pos (by omega) ?_
    refine Ev.bind (RNext_ev h (rs_length e t i)) ?_
    rw [sucW i (by omega)]
    exact ih (i + 1) (by omega)
theorem RSum_ev {e t : List Int} (h : right e t) {m : Nat} (hm : m ≤ 100000) : Ev (fun k => penumbraref33_Sum.f k e t (m : Int)) (rs e t m) := by
  unfold penumbraref33_Sum.f
  refine Ev.bind (Rests_ev e (by have := h.2.1; omega)) ?_
  exact RSum_loop h hm m 0 (by omega)
end Go.Proofs.Ytgkgnihjjabapaa.Pd
