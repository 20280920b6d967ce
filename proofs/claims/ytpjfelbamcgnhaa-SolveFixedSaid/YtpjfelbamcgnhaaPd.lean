/- What the functions of layer 33 tell, as plain tables. -/
import Derived.Test.YtpjfelbamcgnhaaXxD33
import Derived.Test.YtpjfelbamcgnhaaGt
import Derived.Test.YtpjfelbamcgnhaaPc
namespace Go.Proofs.Ytpjfelbamcgnhaa.Pd
open Go.RowKit Go.Proofs.Ytpjfelbamcgnhaa.X Go.Proofs.YtpjfelbamcgnhaaW.PrintWords Pl Gv Pa Pb Pc

theorem sm_head (n : Nat) (f : Nat → Int) : sm (n + 1) f = f 0 + sm n (fun k => f (k + 1)) := by
  induction n with
  | zero => simp [sm]
  | succ n ih => rw [sm, ih, sm]; omega
theorem sm_split (m a : Nat) (h : a ≤ m) (f : Nat → Int) : sm m f = sm a f + sm m (fun k => if (a : Int) ≤ (k : Int) then f k else 0) := by
  induction m with
  | zero =>
    obtain rfl : a = 0 := by omega
    rfl
  | succ m ih =>
    by_cases c : a ≤ m
    · rw [sm, ih c, sm, if_pos (by omega)]; omega
    · obtain rfl : a = m + 1 := by omega
      rw [sm_congr (n := m + 1) (f := fun k => if ((m + 1 : Nat) : Int) ≤ (k : Int) then f k else 0) (g := fun _ => 0) (fun k hk => if_neg (by omega)), sm_zero]; omega
/-- what shines, thrown k times -/
def tm (e t : List Int) (k : Nat) : List Int := itv e.length t k (e.map of)
theorem tm_length (e t : List Int) (k : Nat) : (tm e t k).length = e.length := itv_length k _ (by rw [List.length_map])
theorem tm_zero (e t : List Int) (i : Nat) : (tm e t 0).getD i 0 = of (e.getD i 0) := map_at e i
theorem tm_succ (e t : List Int) (k : Nat) : tm e t (k + 1) = mv e.length t (tm e t k) := itv_succ _ _ _ _
theorem getD_set (l : List Int) (i j : Nat) (v : Int) (hi : i < l.length) : (l.set i v).getD j 0 = if i = j then v else l.getD j 0 := by
  rw [List.getD_eq_getElem?_getD, List.getElem?_set]
  by_cases c : i = j
  · rw [if_pos c, if_pos c, if_pos hi]; rfl
  · rw [if_neg c, if_neg c, List.getD_eq_getElem?_getD]
theorem addTo_at (s l : List Int) : ∀ (k : Nat), k ≤ s.length → ∀ i, (addTo s l k).getD i 0 = if i < k then of (s.getD i 0 + l.getD i 0) else s.getD i 0 := by
  intro k
  induction k with
  | zero => intro _ i; rw [if_neg (by omega)]; rfl
  | succ k ih =>
    intro hk i
    have hk1 := ih (by omega) k
    have hi1 := ih (by omega) i
    rw [if_neg (Nat.lt_irrefl k)] at hk1
    rw [addTo, getD_set _ _ _ _ (by rw [addTo_length]; omega), hk1, hi1]
    by_cases c : k = i
    · subst c; rw [if_pos rfl, if_pos (by omega)]
    · rw [if_neg c]
      by_cases c2 : i < k
      · rw [if_pos c2, if_pos (by omega)]
      · rw [if_neg c2, if_neg (by omega)]
theorem list_tab {l : List Int} {n : Nat} {F : Nat → Int} (hl : l.length = n) (h : ∀ i, i < n → l.getD i 0 = F i) : l = tab F n := by
  rw [← tab_self l, hl]
  exact tab_congr h
theorem addTo_tab (s l : List Int) (n : Nat) (hs : s.length = n) (hl : l.length = n) : addTo s l l.length = tab (fun i => of (s.getD i 0 + l.getD i 0)) n := by
  refine list_tab (by rw [addTo_length, hs]) (fun i hi => ?_)
  rw [addTo_at s l _ (by omega), if_pos (by omega)]
/-- the terms from a on, below m, together -/
theorem tailTo_tab (e t : List Int) (a : Int) (m : Nat) : tailTo e t a m = tab (fun i => of (sm m fun k => if a ≤ (k : Int) then (tm e t k).getD i 0 else 0)) e.length := by
  induction m with
  | zero =>
    refine list_tab (by rw [tailTo, List.length_replicate]) (fun i hi => ?_)
    rw [tailTo, sm, zeros_at]; rfl
  | succ m ih =>
    rw [tailTo]
    by_cases c : a ≤ m
    · rw [if_pos c]
      show addTo (tailTo e t a m) (tm e t m) (tm e t m).length = _
      rw [addTo_tab _ _ e.length (tailTo_length _ _ _ _) (tm_length _ _ _)]
      refine tab_congr fun i hi => ?_
      rw [ih, tab_at _ _ _ hi, sm, if_pos c, of_add_left]
    · rw [if_neg c, ih]
      refine tab_congr fun i hi => ?_
      rw [sm, if_neg c, Int.add_zero]
/-- the sum of all terms up to a depth, by the shorter one thrown -/
def rs (e t : List Int) : Nat → List Int
  | 0 => e.map of
  | d + 1 => nx e.length e t (rs e t d)
theorem rs_length (e t : List Int) : ∀ d, (rs e t d).length = e.length
  | 0 => List.length_map _
  | _ + 1 => nx_length _ _ _ _
theorem rs_tab (e t : List Int) (d : Nat) : rs e t d = tab (fun i => of (sm (d + 1) fun k => (tm e t k).getD i 0)) e.length := by
  induction d with
  | zero =>
    refine list_tab (rs_length _ _ _) (fun i hi => ?_)
    rw [rs, sm, sm, tm_zero, map_at, Int.zero_add, of_of]
  | succ d ih =>
    rw [rs]
    unfold nx
    refine tab_congr fun i hi => ?_
    rw [sm_head, tm_zero, of_add_left]
    have e1 : of (sm e.length fun j => el t e.length i j * (rs e t d).getD j 0) = of (sm (d + 1) fun k => (tm e t (k + 1)).getD i 0) := by
      rw [sm_congr (n := d + 1) (g := fun k => of (sm e.length fun j => el t e.length i j * (tm e t k).getD j 0)) (fun k _ => by rw [tm_succ, mv_el _ _ _ hi]), of_sm]
      rw [sm_comm (d + 1) e.length (fun k j => el t e.length i j * (tm e t k).getD j 0)]
      refine of_sm_congr fun j hj => ?_
      rw [ih, tab_at _ _ _ hj, of_mul_right, sm_mul_left]
    rw [← of_add_right, e1, of_add_right]
theorem tail_all (e t : List Int) (d : Nat) : tailTo e t 0 (d + 1) = rs e t d := by
  rw [tailTo_tab, rs_tab]
  refine tab_congr fun i _ => ?_
  rw [sm_congr (fun k _ => if_pos (by omega))]
theorem tail_none (e t : List Int) (a m : Nat) (h : m ≤ a) : tailTo e t a m = List.replicate e.length 0 := by
  symm
  rw [tailTo_tab]
  refine list_tab List.length_replicate (fun i hi => ?_)
  rw [zeros_at, sm_congr (g := fun _ => 0) (fun k hk => if_neg (by omega)), sm_zero]; rfl
def plus (n : Nat) (u v : List Int) : List Int := tab (fun i => of (u.getD i 0 + v.getD i 0)) n
theorem tail_plus (e t : List Int) (a b : Nat) (h : a ≤ b) : plus e.length (rs e t a) (tailTo e t (a + 1 : Nat) (b + 1)) = rs e t b := by
  rw [rs_tab e t b]
  refine tab_congr fun i hi => ?_
  rw [rs_tab, tailTo_tab, tab_at _ _ _ hi, tab_at _ _ _ hi, of_add, ← sm_split (b + 1) (a + 1) (by omega)]

theorem RSum_loop {e t : List Int} (h : right e t) {m : Nat} (hm : m ≤ 100000) : ∀ (d i : Nat), i + d = m → Ev (fun k => penumbraref33_Sum.l0 k (m : Int) (rs e t i) (i : Int) e t) (rs e t m) := by
  intro d
  induction d with
  | zero =>
    intro i hi
    obtain rfl : i = m := by omega
    refine Ev.step (fun k => by rw [penumbraref33_Sum.l0]) ?_
    exact ev_neg (by omega) (Ev.now _)
  | succ d ih =>
    intro i hi
    refine Ev.step (fun k => by rw [penumbraref33_Sum.l0]) ?_
    refine ev_pos (by omega) ?_
    refine Ev.bind (RNext_ev h (rs_length e t i)) ?_
    rw [sucW i (by omega)]
    exact ih (i + 1) (by omega)
theorem RSum_ev {e t : List Int} (h : right e t) {m : Nat} (hm : m ≤ 100000) : Ev (fun k => penumbraref33_Sum.f k e t (m : Int)) (rs e t m) := by
  unfold penumbraref33_Sum.f
  refine Ev.bind (Rests_ev e (by have := h.2.1; omega)) ?_
  exact RSum_loop h hm m 0 (by omega)
theorem RPlus_loop {n : Nat} {u v : List Int} (hn : n ≤ 1000) (hu : u.length = n) (hv : v.length = n) : ∀ (d i : Nat), i + d = n →
    Ev (fun k => penumbraref33_Plus.l0 k u v (tab (fun j => of (u.getD j 0 + v.getD j 0)) i) (i : Int)) (plus n u v) := by
  intro d
  induction d with
  | zero =>
    intro i hi
    obtain rfl : i = n := by omega
    refine Ev.step (fun k => by rw [penumbraref33_Plus.l0]) ?_
    exact ev_neg (by omega) (Ev.now _)
  | succ d ih =>
    intro i hi
    refine Ev.step (fun k => by rw [penumbraref33_Plus.l0]) ?_
    refine ev_pos (by omega) ?_
    refine ev_pos (by omega) ?_
    refine ev_pos (by omega) ?_
    rw [RAdd_eq]
    refine ev_some ?_
    refine ev_pos (by rw [tab_length]; omega) ?_
    rw [sucW i (by omega), rd_eq, rd_eq]
    have e1 : tab (fun j => of (u.getD j 0 + v.getD j 0)) i ++ [of (u.getD i 0 + v.getD i 0)] = tab (fun j => of (u.getD j 0 + v.getD j 0)) (i + 1) := (tab_succ _ _).symm
    rw [e1]
    exact ih (i + 1) (by omega)
theorem RPlus_ev {n : Nat} {u v : List Int} (hn : n ≤ 1000) (hu : u.length = n) (hv : v.length = n) : Ev (fun k => penumbraref33_Plus.f k u v) (plus n u v) := by
  unfold penumbraref33_Plus.f
  exact RPlus_loop hn hu hv n 0 (by omega)
theorem tailVal_no {e t : List Int} {a b : Int} (h : ¬ right e t) : tailVal e t a b = ([], 14) := by unfold tailVal; rw [if_neg h]
theorem tailVal_range {e t : List Int} {a b : Int} (h : right e t) (hd : ¬ (deep a ∧ deep b)) : tailVal e t a b = ([], 3) := by
  unfold tailVal; rw [if_pos h, deepVal_two, if_neg hd, if_neg (by decide)]
theorem tailVal_yes {e t : List Int} {a : Int} {b : Nat} (h : right e t) (ha : deep a) (hb : b ≤ 1024) : tailVal e t a (b : Int) = (tailTo e t a (b + 1), 0) := by
  unfold tailVal
  have hd : deep a ∧ deep (b : Int) := ⟨ha, by unfold deep; omega⟩
  rw [if_pos h, deepVal_two, if_pos hd]
  rfl
theorem Sum_no {e t : List Int} (m : Int) (h : ¬ right e t) : series_Sum.f e t m = some ([], 14) := by
  unfold series_Sum.f series_Tail.f
  rw [tailVal_no h]; rfl
theorem Sum_range {e t : List Int} {m : Int} (h : right e t) (hd : ¬ deep m) : series_Sum.f e t m = some ([], 3) := by
  unfold series_Sum.f series_Tail.f
  rw [tailVal_range h (fun c => hd c.2)]; rfl
theorem Sum_yes {e t : List Int} {m : Nat} (h : right e t) (hm : m ≤ 1024) : series_Sum.f e t (m : Int) = some (rs e t m, 0) := by
  unfold series_Sum.f series_Tail.f
  rw [tailVal_yes h (by decide) hm, tail_all]; rfl
end Go.Proofs.Ytpjfelbamcgnhaa.Pd
