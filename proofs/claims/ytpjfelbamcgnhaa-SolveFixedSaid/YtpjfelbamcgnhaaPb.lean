/- What the functions of layer 31 tell, as plain tables. -/
import Derived.Test.YtpjfelbamcgnhaaXxB31
import Derived.Test.YtpjfelbamcgnhaaPa
import Derived.Test.YtpjfelbamcgnhaaZb
namespace Go.Proofs.Ytpjfelbamcgnhaa.Pb
open Go.RowKit Go.Proofs.Ytpjfelbamcgnhaa.X Go.Proofs.YtpjfelbamcgnhaaW.PrintWords Pl Gv Pa

theorem side_sq : ∀ n, n < 13 → 1 ≤ n → sideOf (n * n) = n := by decide
theorem side_of {n : Nat} {l : List Int} (h1 : 1 ≤ n) (h2 : n < 13) (h : l.length = n * n) : sideOf l.length = n := by rw [h]; exact side_sq n h2 h1
theorem side_len {l : List Int} (h : sideOf l.length ≠ 0) : l.length = sideOf l.length * sideOf l.length := (sideOf_sq _ h).symm
theorem byte_wf {c : Int} (h : (Lit.int .u8 c).wf = true) : 0 ≤ c ∧ c ≤ 255 := by
  simp [Lit.wf, IntKind.min, IntKind.max, IntKind.signed, IntKind.bits] at h
  omega
theorem natW {a : Nat} (h : a ≤ 9223372036854775807) : wrap64 (a : Int) = (a : Int) := wrap_id (by omega) (by omega)
theorem mulW (n i : Nat) (h : i * n ≤ 1000000) : wrap64 ((n : Int) * (i : Int)) = ((i * n : Nat) : Int) := by
  rw [show ((n : Int) * (i : Int)) = ((i * n : Nat) : Int) from by rw [Int.mul_comm]; simp]
  exact natW (by omega)
theorem mulW' (n i : Nat) (h : i * n ≤ 1000000) : wrap64 ((i : Int) * (n : Int)) = ((i * n : Nat) : Int) := by
  rw [show ((i : Int) * (n : Int)) = ((i * n : Nat) : Int) from by simp]
  exact natW (by omega)
theorem addW (a b : Nat) (h : a + b ≤ 1000000) : wrap64 ((a : Int) + (b : Int)) = ((a + b : Nat) : Int) := by
  rw [show ((a : Int) + (b : Int)) = ((a + b : Nat) : Int) from by simp]
  exact natW (by omega)
theorem sucW (a : Nat) (h : a ≤ 1000000) : wrap64 ((a : Int) + 1) = ((a + 1 : Nat) : Int) := wrap_id (by omega) (by omega)
theorem at_low {n i j : Nat} (h2 : n < 13) (hi : i < n) (hj : j < n) : i * n ≤ 144 ∧ i * n + j < n * n ∧ n * n ≤ 144 := by
  have hle : i * n + n ≤ n * n := by rw [← Nat.succ_mul]; exact Nat.mul_le_mul_right n (by omega)
  have hnn : n * n ≤ 12 * 12 := Nat.mul_le_mul (by omega) (by omega)
  omega
theorem Side_eq (l : List Int) : matrix_Side.f l = some ((sideOf l.length : Nat) : Int) := rfl
theorem squares : ∀ i, i < 12 → ([1, 4, 9, 16, 25, 36, 49, 64, 81, 100, 121, 144] : List Int).getD i 0 = ((i + 1) * (i + 1) : Nat) := by decide
theorem RSide_loop (l : List Int) : ∀ (d i : Nat), i + d = 12 → Ev (fun k => penumbraref31_Side.l0 k l ([1, 4, 9, 16, 25, 36, 49, 64, 81, 100, 121, 144] : List Int) (i : Int)) ((sideFrom l.length d (i + 1) : Nat) : Int) := by
  intro d
  induction d with
  | zero =>
    intro i hi
    refine Ev.step (fun k => by rw [penumbraref31_Side.l0]) ?_
    exact ev_neg (by omega) (Ev.now _)
  | succ d ih =>
    intro i hi
    refine Ev.step (fun k => by rw [penumbraref31_Side.l0]) ?_
    refine ev_pos (by omega) ?_
    refine ev_pos (by omega) ?_
    refine ev_pos (by simp; omega) ?_
    rw [rd_eq, squares i (by omega), wrap_id (n := (i : Int) + 1) (by omega) (by omega), sideFrom]
    by_cases e : (i + 1) * (i + 1) = l.length
    · rw [if_pos e]
      exact ev_pos (by omega) (Ev.now _)
    · rw [if_neg e]
      refine ev_neg (by omega) ?_
      exact ih (i + 1) (by omega)
theorem RSide_ev (l : List Int) : Ev (fun k => penumbraref31_Side.f k l) ((sideOf l.length : Nat) : Int) := RSide_loop l 12 0 (by omega)

theorem Sub_yes {a b : List Int} {n : Nat} (h0 : n ≠ 0) (ha : sideOf a.length = n) (hb : sideOf b.length = n) : matrix_Sub.f a b = some (tab (fun q => of (a.getD q 0 - b.getD q 0)) (n * n), 0) := by
  unfold matrix_Sub.f
  rw [ha, hb, if_neg (by omega)]
  rfl
theorem Sub_no {a b : List Int} (h : sideOf a.length = 0 ∨ sideOf a.length ≠ sideOf b.length) : matrix_Sub.f a b = some ([], 14) := by
  unfold matrix_Sub.f
  rw [if_pos h]
theorem One_at : ∀ n : Nat, n < 13 → 1 ≤ n → matrix_One.f 20 (n : Int) = some (unit n) := by decide +kernel
theorem One_ev {n : Nat} (h1 : 1 ≤ n) (h2 : n < 13) : Ev (fun k => matrix_One.f k (n : Int)) (unit n) := Ev.of (matrix_One.mono _) (One_at n h2 h1)
theorem One_no {n : Int} (h : n < 1 ∨ 12 < n) : Ev (fun k => matrix_One.f k n) [] := by
  have fin : Ev (fun k => matrix_One.j0 k n true) [] := by
    refine Ev.step (fun k => by rw [matrix_One.j0]) ?_
    exact ev_pos rfl (Ev.now _)
  unfold matrix_One.f
  by_cases c : n < 1
  · exact ev_pos c fin
  · refine ev_neg c ?_
    rw [show decide (n > 12) = true from decide_eq_true (by omega)]
    exact fin
theorem dotTo_sm (a b : List Int) (k : Nat) : dotTo a b k = of (sm k fun l => a.getD l 0 * b.getD l 0) := by
  induction k with
  | zero => rfl
  | succ k ih => rw [dotTo, ih, of_add]; rfl
theorem dot_row {n i : Nat} {m v : List Int} (hi : i < n) (hm : m.length = n * n) (hv : v.length = n) :
    dotOf ((m.take (i * n + n)).drop (i * n)) v = of (sm n fun k => el m n i k * v.getD k 0) := by
  have hle : i * n + n ≤ n * n := by rw [← Nat.succ_mul]; exact Nat.mul_le_mul_right n hi
  have hl : ((m.take (i * n + n)).drop (i * n)).length = n := by rw [List.length_drop, List.length_take]; omega
  unfold dotOf
  rw [hl, hv, Nat.min_self, dotTo_sm]
  congr 1
  refine sm_congr fun k hk => ?_
  congr 1
  unfold el
  rw [List.getD_eq_getElem?_getD, List.getD_eq_getElem?_getD, List.getElem?_drop, List.getElem?_take, if_pos (by omega)]
theorem Apply_loop {n : Nat} {m v : List Int} (h2 : n < 13) (hm : m.length = n * n) (hv : v.length = n) : ∀ (d i : Nat), i + d = n →
    Ev (fun k => matrix_Apply.l0 k m v (n : Int) (tab (fun i => of (sm n fun k => el m n i k * v.getD k 0)) i) (n : Int) (i : Int)) (mv n m v, 0) := by
  intro d
  induction d with
  | zero =>
    intro i hi
    refine Ev.step (fun k => by rw [matrix_Apply.l0]) ?_
    rw [show i = n from by omega]
    exact ev_neg (by omega) (Ev.now _)
  | succ d ih =>
    intro i hi
    have hle : i * n + n ≤ n * n := by rw [← Nat.succ_mul]; exact Nat.mul_le_mul_right n (by omega)
    have hnn : n * n ≤ 12 * 12 := Nat.mul_le_mul (by omega) (by omega)
    have w1 : wrap64 ((i : Int) * (n : Int)) = ((i * n : Nat) : Int) := by
      rw [show ((i : Int) * (n : Int)) = ((i * n : Nat) : Int) from by simp]; exact wrap_id (by omega) (by omega)
    have w2 : wrap64 (((i * n : Nat) : Int) + (n : Int)) = ((i * n + n : Nat) : Int) := by
      rw [show (((i * n : Nat) : Int) + (n : Int)) = ((i * n + n : Nat) : Int) from by simp]; exact wrap_id (by omega) (by omega)
    refine Ev.step (fun k => by rw [matrix_Apply.l0]) ?_
    refine ev_pos (by omega) ?_
    rw [w1, w2]
    refine ev_pos (by omega) ?_
    refine ev_pos (by omega) ?_
    refine ev_pos (by omega) ?_
    refine ev_some ?_
    refine ev_pos (by rw [tab_length]; omega) ?_
    rw [wrap_id (n := (i : Int) + 1) (by omega) (by omega), Int.toNat_natCast, Int.toNat_natCast, dot_row (show i < n from by omega) hm hv, ← tab_succ]
    exact ih (i + 1) (by omega)
theorem Apply_yes {n : Nat} {m v : List Int} (h0 : n ≠ 0) (hm : sideOf m.length = n) (hv : v.length = n) : Ev (fun k => matrix_Apply.f k m v) (mv n m v, 0) := by
  have hr := sideOf_range m.length
  have hl := side_len (l := m) (by omega)
  rw [hm] at hl hr
  unfold matrix_Apply.f
  rw [Side_eq, hm]
  refine ev_some ?_
  refine ev_neg (by omega) ?_
  refine Ev.step (fun k => by rw [matrix_Apply.j0]) ?_
  refine ev_neg (by simp [hv]) ?_
  exact Apply_loop (by omega) hl hv n 0 (by omega)
theorem Apply_no {m v : List Int} (h : sideOf m.length = 0 ∨ sideOf m.length ≠ v.length) : Ev (fun k => matrix_Apply.f k m v) ([], 14) := by
  have fin : ∀ t, Ev (fun k => matrix_Apply.j0 k m v t true) ([], 14) := fun t => by
    refine Ev.step (fun k => by rw [matrix_Apply.j0]) ?_
    exact ev_pos rfl (Ev.now _)
  unfold matrix_Apply.f
  rw [Side_eq]
  refine ev_some ?_
  by_cases c : sideOf m.length = 0
  · exact ev_pos (by omega) (fin _)
  · refine ev_neg (by omega) ?_
    have : (((sideOf m.length : Nat) : Int) != (v.length : Int)) = true := by simp; omega
    rw [this]
    exact fin _
theorem RApply_in {n i : Nat} {m v : List Int} (h2 : n < 13) (hi : i < n) (hm : m.length = n * n) (hv : v.length = n) {x : List Int} {r : List Int} (hx : x.length ≤ 100000)
    (hk : Ev (fun k => penumbraref31_Apply.l0 k m v (n : Int) (x ++ [of (sm n fun k => el m n i k * v.getD k 0)]) ((i + 1 : Nat) : Int)) r) : ∀ (d j : Nat), j + d = n →
    Ev (fun k => penumbraref31_Apply.l1 k m v (n : Int) x (i : Int) (of (sm j fun k => el m n i k * v.getD k 0)) (j : Int)) r := by
  intro d
  induction d with
  | zero =>
    intro j hj
    refine Ev.step (fun k => by rw [penumbraref31_Apply.l1]) ?_
    refine ev_neg (by omega) ?_
    refine ev_pos (by omega) ?_
    rw [show j = n from by omega, wrap_id (n := (i : Int) + 1) (by omega) (by omega)]
    exact hk
  | succ d ih =>
    intro j hj
    obtain ⟨b1, b2, b3⟩ := at_low h2 hi (show j < n from by omega)
    refine Ev.step (fun k => by rw [penumbraref31_Apply.l1]) ?_
    refine ev_pos (by omega) ?_
    rw [mulW n i (by omega), addW (i * n) j (by omega)]
    have c1 : (0 : Int) ≤ ((i * n + j : Nat) : Int) := Int.natCast_nonneg _
    have c2 : ((i * n + j : Nat) : Int) < (m.length : Int) := by rw [hm]; exact_mod_cast b2
    refine ev_pos c1 ?_
    refine ev_pos c2 ?_
    refine ev_pos (by omega) ?_
    refine ev_pos (by omega) ?_
    rw [RMul_eq]
    refine ev_some ?_
    rw [RAdd_eq]
    refine ev_some ?_
    rw [sucW j (by omega), of_add]
    exact ih (j + 1) (by omega)
theorem RApply_loop {n : Nat} {m v : List Int} (h2 : n < 13) (hm : m.length = n * n) (hv : v.length = n) : ∀ (d i : Nat), i + d = n →
    Ev (fun k => penumbraref31_Apply.l0 k m v (n : Int) (tab (fun i => of (sm n fun k => el m n i k * v.getD k 0)) i) (i : Int)) (mv n m v) := by
  intro d
  induction d with
  | zero =>
    intro i hi
    refine Ev.step (fun k => by rw [penumbraref31_Apply.l0]) ?_
    rw [show i = n from by omega]
    exact ev_neg (by omega) (Ev.now _)
  | succ d ih =>
    intro i hi
    refine Ev.step (fun k => by rw [penumbraref31_Apply.l0]) ?_
    refine ev_pos (by omega) ?_
    refine RApply_in h2 (show i < n from by omega) hm hv (by rw [tab_length]; omega) ?_ n 0 (by omega)
    rw [← tab_succ]
    exact ih (i + 1) (by omega)
theorem RApply_ev {n : Nat} {m v : List Int} (h2 : n < 13) (hm : m.length = n * n) (hv : v.length = n) : Ev (fun k => penumbraref31_Apply.f k m v (n : Int)) (mv n m v) := RApply_loop h2 hm hv n 0 (by omega)
theorem Rests_loop (l : List Int) (hl : l.length ≤ 1000000) : ∀ (d i : Nat), i + d = l.length → Ev (fun k => penumbraref31_Rests.l0 k l ((l.take i).map of) (i : Int)) (l.map of) := by
  intro d
  induction d with
  | zero =>
    intro i hi
    refine Ev.step (fun k => by rw [penumbraref31_Rests.l0]) ?_
    rw [List.take_of_length_le (by omega)]
    exact ev_neg (by omega) (Ev.now _)
  | succ d ih =>
    intro i hi
    refine Ev.step (fun k => by rw [penumbraref31_Rests.l0]) ?_
    refine ev_pos (by omega) ?_
    refine ev_pos (by omega) ?_
    rw [ROf_eq]
    refine ev_some ?_
    refine ev_pos (by rw [List.length_map, List.length_take]; omega) ?_
    have e : (l.take i).map of ++ [of (rd l i)] = (l.take (i + 1)).map of := by
      rw [take_snoc l i (by omega), List.map_append]; rfl
    rw [wrap_id (n := (i : Int) + 1) (by omega) (by omega), e]
    exact ih (i + 1) (by omega)
theorem Rests_ev (l : List Int) (hl : l.length ≤ 1000000) : Ev (fun k => penumbraref31_Rests.f k l) (l.map of) := Rests_loop l hl l.length 0 (by omega)
end Go.Proofs.Ytpjfelbamcgnhaa.Pb
