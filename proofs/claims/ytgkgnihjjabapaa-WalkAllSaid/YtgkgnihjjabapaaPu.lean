/- The mean of all paths, as a table: the light up to its depth. -/
import Derived.Test.YtgkgnihjjabapaaPq
namespace Go.Proofs.Ytgkgnihjjabapaa.Pq
open Go.RowKit Go.Proofs.Ytgkgnihjjabapaa.X Go.Proofs.YtgkgnihjjabapaaW.PrintWords Go.Proofs.YtgkgnihjjabapaaW.PrintLast Pl Gv Pa Pb Pc Pd
/-- what comes from beyond, after so many rounds -/
def bey (e t : List Int) : Nat → List Int
  | 0 => List.replicate e.length 0
  | d + 1 => tab (fun i => of (sm e.length fun j => el t e.length i j * (e.getD j 0 + (bey e t d).getD j 0))) e.length
theorem bey_length (e t : List Int) : ∀ d, (bey e t d).length = e.length
  | 0 => List.length_replicate
  | _ + 1 => tab_length _ _
theorem zero_at (n i : Nat) : (List.replicate n (0 : Int)).getD i 0 = 0 := by
  rw [List.getD_eq_getElem?_getD, List.getElem?_replicate]
  split <;> rfl
theorem bey_rs (e t : List Int) : ∀ d, tab (fun i => of (e.getD i 0 + (bey e t d).getD i 0)) e.length = rs e t d
  | 0 => by
    rw [Pd.rs, ← tab_map e of]
    refine tab_congr fun i _ => ?_
    rw [bey, zero_at, Int.add_zero]
  | d + 1 => by
    rw [Pd.rs]
    unfold nx
    refine tab_congr fun i hi => ?_
    rw [bey, tab_at _ _ _ hi, of_add_right]
    have h : of (sm e.length fun j => el t e.length i j * (e.getD j 0 + (bey e t d).getD j 0)) = of (sm e.length fun j => el t e.length i j * (rs e t d).getD j 0) := by
      refine of_sm_congr fun j hj => ?_
      rw [← bey_rs e t d, tab_at _ _ _ hj, of_mul_right]
    rw [← of_add_right, h, of_add_right]
theorem suml3 (a b c : Int) : suml [a, b, c] = of (a + b + c) := by simp [suml]
/-- the two ways together are the whole -/
theorem both_ways (S T E a b y : Int) (h : of (a + b) = 1) : of (of S + of (T * E * a) + of (T * of (of (E * b) + y))) = of (S + T * (E + y)) := by
  have e1 : of (T * of (of (E * b) + y)) = of (T * (E * b + y)) := by rw [of_mul_right, ← of_mul_right T, of_add_left, of_mul_right]
  rw [e1, of_add_right, ← of_add_left, of_add, of_add_left]
  obtain ⟨q, hq⟩ := of_eq (a + b)
  rw [h] at hq
  have h1 : T * E * a + T * E * b = T * E + 2147483647 * (q * (T * E)) := by
    rw [← Int.mul_add, show a + b = 1 + 2147483647 * q by omega, Int.mul_add, Int.mul_one, Int.mul_left_comm, Int.mul_comm (T * E) q]
  have h2 : T * (E * b + y) = T * E * b + T * y := by rw [Int.mul_add, Int.mul_assoc]
  have h3 : T * (E + y) = T * E + T * y := Int.mul_add _ _ _
  refine of_congr (q * (T * E)) ?_
  rw [h2, h3]
  omega
theorem Mul3_eq (a b c : Int) : field_Mul.f [a, b, c] = some (of (a * b * c)) := by unfold field_Mul.f; rw [prodl3]
theorem Add3_eq (a b c : Int) : field_Add.f [a, b, c] = some (of (a + b + c)) := by unfold field_Add.f; rw [suml3]
theorem set_tab (f : Nat → Int) (n i : Nat) (v : Int) (hi : i < n) : (tab f n).set i v = tab (fun q => if q = i then v else f q) n := by
  refine list_tab (by rw [List.length_set, tab_length]) (fun q hq => ?_)
  rw [getD_set _ _ _ _ (by rw [tab_length]; exact hi)]
  by_cases c : i = q
  · rw [if_pos c, if_pos c.symm]
  · rw [if_neg c, if_neg (fun h => c h.symm), tab_at _ _ _ hq]
section
variable {E T G A : List Int} {on : Int}
theorem Mean_in (hs : shape E T G A) (B : List Int) (hB : B.length = E.length) (F : Nat → Int) (i : Nat) (hi : i < E.length) (x38 x39 x43 : Int) {r : List Int × Int}
    (hr : Ev (fun k => walk_Mean.l1 k (E.length : Int) B (tab (fun q => if q < i then F q else if q = i then of (sm E.length fun j => el T E.length i j * (E.getD j 0 + B.getD j 0)) else 0) E.length) x38 x39 x43 ((i + 1 : Nat) : Int) E T G A on) r) :
    ∀ (d j : Nat), j + d = E.length → Ev (fun k => walk_Mean.l2 k (E.length : Int) B (tab (fun q => if q < i then F q else if q = i then of (sm j fun j => el T E.length i j * (E.getD j 0 + B.getD j 0)) else 0) E.length) (i : Int) x38 x39 x43 (i : Int) (E.length : Int) (j : Int) E T G A on) r := by
  obtain ⟨⟨n1, n12, lT⟩, lG, lA⟩ := hs
  intro d
  induction d with
  | zero =>
    intro j hj
    obtain rfl : j = E.length := hj
    refine Ev.step (fun k => by rw [walk_Mean.l2]) ?_
    refine ev_neg (Int.lt_irrefl _) ?_
    rw [sucW i (Nat.le_trans (Nat.le_of_lt hi) (Nat.le_trans n12 (by decide)))]
    exact hr
  | succ d ih =>
    intro j hj
    have hj1 : j < E.length := by omega
    have z1 : (j : Int) < (E.length : Int) := Int.ofNat_lt.mpr hj1
    have z0 : (0 : Int) ≤ (j : Int) := Int.natCast_nonneg _
    have zi : (i : Int) < (E.length : Int) := Int.ofNat_lt.mpr hi
    have zi0 : (0 : Int) ≤ (i : Int) := Int.natCast_nonneg _
    have zj : j ≤ 1000000 := Nat.le_trans (Nat.le_of_lt hj1) (Nat.le_trans n12 (by decide))
    have zd : j + 1 + d = E.length := by omega
    obtain ⟨e1, e2⟩ := ix_wrap n12 hi hj1
    have e3 := ix_lt hi hj1
    have z2 : ((i * E.length + j : Nat) : Int) < (T.length : Int) := by rw [lT]; exact Int.ofNat_lt.mpr e3
    have z3 : (0 : Int) ≤ ((i * E.length + j : Nat) : Int) := Int.natCast_nonneg _
    have zb : (j : Int) < (B.length : Int) := by rw [hB]; exact z1
    obtain ⟨Z, hZ⟩ : ∃ Z, tab (fun q => if q < i then F q else if q = i then of (sm j fun j => el T E.length i j * (E.getD j 0 + B.getD j 0)) else 0) E.length = Z := ⟨_, rfl⟩
    have hZl : Z.length = E.length := by rw [← hZ, tab_length]
    rw [hZ]
    refine Ev.step (fun k => by rw [walk_Mean.l2, e1, e2]) ?_
    refine ev_pos z1 (ev_pos z3 (ev_pos z2 ?_))
    refine Ev.bind (wts_ev G A on E.length i j n12 hi hj1 lG lA) ?_
    refine ev_pos z0 (ev_pos z1 ?_)
    have hab := wts_one G A E.length i j
    generalize wts G A E.length i j = ab at *
    rw [rd_eq, rd_eq, rd_eq, Mul3_eq]
    refine ev_some ?_
    rw [Mul2_eq]
    refine ev_some (ev_pos zb ?_)
    rw [Add2_eq]
    refine ev_some ?_
    rw [Mul2_eq]
    refine ev_some (ev_pos zi0 (ev_pos (by rw [hZl]; exact zi) ?_))
    rw [rd_eq, ← hZ, tab_at _ _ _ hi, if_neg (show ¬ i < i by omega), if_pos rfl, Add3_eq, both_ways _ _ _ _ _ _ hab]
    refine ev_some ?_
    have hval : of ((sm j fun j => el T E.length i j * (E.getD j 0 + B.getD j 0)) + T.getD (i * E.length + j) 0 * (E.getD j 0 + B.getD j 0)) = of (sm (j + 1) fun j => el T E.length i j * (E.getD j 0 + B.getD j 0)) := rfl
    rw [sucW j zj, Int.toNat_natCast, set_tab _ _ _ _ hi, hval]
    have htab : tab (fun q => if q = i then of (sm (j + 1) fun j => el T E.length i j * (E.getD j 0 + B.getD j 0)) else if q < i then F q else if q = i then of (sm j fun j => el T E.length i j * (E.getD j 0 + B.getD j 0)) else 0) E.length = tab (fun q => if q < i then F q else if q = i then of (sm (j + 1) fun j => el T E.length i j * (E.getD j 0 + B.getD j 0)) else 0) E.length := by
      refine tab_congr fun q _ => ?_
      by_cases c : q = i
      · rw [if_pos c, if_neg (show ¬ q < i from fun h => Nat.lt_irrefl i (c ▸ h)), if_pos c]
      · rw [if_neg c]
        by_cases c2 : q < i
        · rw [if_pos c2, if_pos c2]
        · rw [if_neg c2, if_neg c2, if_neg c, if_neg c]
    rw [htab]
    exact ih (j + 1) zd
theorem Mean_row (hs : shape E T G A) (B : List Int) (hB : B.length = E.length) (x38 x39 : Int) {r : List Int × Int}
    (hr : Ev (fun k => walk_Mean.l0 k (E.length : Int) (tab (fun i => of (sm E.length fun j => el T E.length i j * (E.getD j 0 + B.getD j 0))) E.length) x38 (wrap64 (x39 + 1)) E T G A on) r) :
    ∀ (d i : Nat), i + d = E.length → Ev (fun k => walk_Mean.l1 k (E.length : Int) B (tab (fun q => if q < i then of (sm E.length fun j => el T E.length q j * (E.getD j 0 + B.getD j 0)) else 0) E.length) x38 x39 (E.length : Int) (i : Int) E T G A on) r := by
  intro d
  induction d with
  | zero =>
    intro i hi
    obtain rfl : i = E.length := by omega
    obtain ⟨Z, hZ⟩ : ∃ Z, tab (fun q => if q < E.length then of (sm E.length fun j => el T E.length q j * (E.getD j 0 + B.getD j 0)) else 0) E.length = Z := ⟨_, rfl⟩
    rw [hZ]
    refine Ev.step (fun k => by rw [walk_Mean.l1]) ?_
    refine ev_neg (by omega) ?_
    rw [← hZ, tab_congr (G := fun i => of (sm E.length fun j => el T E.length i j * (E.getD j 0 + B.getD j 0))) (fun q hq => if_pos hq)]
    exact hr
  | succ d ih =>
    intro i hi
    obtain ⟨Z, hZ⟩ : ∃ Z, tab (fun q => if q < i then of (sm E.length fun j => el T E.length q j * (E.getD j 0 + B.getD j 0)) else 0) E.length = Z := ⟨_, rfl⟩
    rw [hZ]
    refine Ev.step (fun k => by rw [walk_Mean.l1]) ?_
    refine ev_pos (by omega) ?_
    rw [← hZ]
    have h := Mean_in hs B hB (fun q => of (sm E.length fun j => el T E.length q j * (E.getD j 0 + B.getD j 0))) i (by omega) x38 x39 (E.length : Int) (r := r) ?_ E.length 0 (by omega) (on := on)
    · rw [tab_congr (F := fun q => if q < i then of (sm E.length fun j => el T E.length q j * (E.getD j 0 + B.getD j 0)) else 0) (G := fun q => if q < i then of (sm E.length fun j => el T E.length q j * (E.getD j 0 + B.getD j 0)) else if q = i then of (sm 0 fun j => el T E.length i j * (E.getD j 0 + B.getD j 0)) else 0) (fun q _ => by
        by_cases c : q < i
        · rw [if_pos c, if_pos c]
        · rw [if_neg c, if_neg c, sm]
          split <;> rfl)]
      exact h
    · rw [tab_congr (G := fun q => if q < i + 1 then of (sm E.length fun j => el T E.length q j * (E.getD j 0 + B.getD j 0)) else 0) (fun q _ => by
        by_cases c : q < i
        · rw [if_pos c, if_pos (by omega)]
        · rw [if_neg c]
          by_cases c2 : q = i
          · rw [if_pos c2, if_pos (by omega), c2]
          · rw [if_neg c2, if_neg (by omega)])]
      exact ih (i + 1) (by omega)
theorem Mean_end (hE : E.length ≤ 12) (B : List Int) (hB : B.length = E.length) : ∀ (d i : Nat), i + d = E.length → Ev (fun k => walk_Mean.l3 k B (tab (fun q => of (E.getD q 0 + B.getD q 0)) i) (E.length : Int) (i : Int) E T) (tab (fun q => of (E.getD q 0 + B.getD q 0)) E.length, 0) := by
  intro d
  induction d with
  | zero =>
    intro i hi
    obtain rfl : i = E.length := by omega
    obtain ⟨Z, hZ⟩ : ∃ Z, tab (fun q => of (E.getD q 0 + B.getD q 0)) E.length = Z := ⟨_, rfl⟩
    rw [hZ]
    refine Ev.step (fun k => by rw [walk_Mean.l3]) ?_
    exact ev_neg (by omega) (Ev.now _)
  | succ d ih =>
    intro i hi
    refine Ev.step (fun k => by rw [walk_Mean.l3]) ?_
    refine ev_pos (by omega) (ev_pos (by omega) (ev_pos (by omega) (ev_pos (by omega) ?_)))
    rw [rd_eq, rd_eq, Add2_eq]
    refine ev_some (ev_pos (by rw [tab_length]; omega) ?_)
    rw [sucW i (by omega), ← tab_succ]
    exact ih (i + 1) (by omega)
theorem Mean_loop (hs : shape E T G A) {m : Nat} (hm : m ≤ 100000) : ∀ (d i : Nat), i + d = m → Ev (fun k => walk_Mean.l0 k (E.length : Int) (bey E T i) (m : Int) (i : Int) E T G A on) (rs E T m, 0) := by
  have n12 := hs.1.2.1
  intro d
  induction d with
  | zero =>
    intro i hi
    obtain rfl : i = m := by omega
    refine Ev.step (fun k => by rw [walk_Mean.l0]) ?_
    refine ev_neg (by omega) ?_
    rw [← bey_rs]
    exact Mean_end n12 _ (bey_length _ _ _) E.length 0 (by omega)
  | succ d ih =>
    intro i hi
    refine Ev.step (fun k => by rw [walk_Mean.l0]) ?_
    refine ev_pos (by omega) (ev_pos (by omega) (ev_pos (by rw [Int.toNat_natCast]; omega) ?_))
    rw [Int.toNat_natCast]
    have h := Mean_row (on := on) hs (bey E T i) (bey_length _ _ _) (m : Int) (i : Int) (r := (rs E T m, 0)) ?_ E.length 0 (by omega)
    · rw [tab_congr (G := fun q => 0) (fun q _ => if_neg (by omega))] at h
      rw [← list_tab (l := List.replicate E.length 0) (F := fun _ => 0) List.length_replicate (fun q _ => zero_at _ _)] at h
      exact h
    · rw [sucW i (by omega)]
      exact ih (i + 1) (by omega)
theorem Mean_bad (x : Int) (h : chkV E T G A on ≠ 0) : Ev (fun k => walk_Mean.f k E T G A on x) ([], chkV E T G A on) := by
  unfold walk_Mean.f
  have hc := Check_ev E T G A on
  rw [if_neg h] at hc
  exact Ev.bind hc (ev_neg h (Ev.now _))
theorem Mean_far {x : Int} (h : chkV E T G A on = 0) (hx : x < 0 ∨ 1024 < x) : Ev (fun k => walk_Mean.f k E T G A on x) ([], 3) := by
  have hj (b : Bool) (hb : b = true) : Ev (fun k => walk_Mean.j0 k x (E.length : Int) b E T G A on) ([], 3) := by
    subst hb
    exact Ev.step (fun k => by rw [walk_Mean.j0]) (ev_pos rfl (Ev.now _))
  unfold walk_Mean.f
  have hc := Check_ev E T G A on
  rw [if_pos h] at hc
  refine Ev.bind hc (ev_pos rfl ?_)
  by_cases c : x < 0
  · exact ev_pos c (hj _ rfl)
  · exact ev_neg c (hj _ (decide_eq_true (by omega)))
theorem Mean_yes {m : Nat} (h : chkV E T G A on = 0) (hm : m ≤ 1024) : Ev (fun k => walk_Mean.f k E T G A on (m : Int)) (rs E T m, 0) := by
  obtain ⟨hs, -, -⟩ := chk_zero h
  have n12 := hs.1.2.1
  unfold walk_Mean.f
  have hc := Check_ev E T G A on
  rw [if_pos h] at hc
  refine Ev.bind hc (ev_pos rfl (ev_neg (by omega) ?_))
  have e : decide ((m : Int) > 1024) = false := decide_eq_false (by omega)
  rw [e]
  refine Ev.step (fun k => by rw [walk_Mean.j0]) ?_
  refine ev_neg (by decide) (ev_pos (by omega) (ev_pos (by rw [Int.toNat_natCast]; omega) ?_))
  rw [Int.toNat_natCast]
  exact Mean_loop hs (by omega) m 0 (by omega)
end
end Go.Proofs.Ytgkgnihjjabapaa.Pq
