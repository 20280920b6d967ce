/- Tables of numbers modulo the prime: plain, no program. -/
import Derived.Test.YtpjfelbamcgnhaaZa
namespace Go.Proofs.Ytpjfelbamcgnhaa.Pl
open Go.RowKit

/-- the sum of f at 0 .. n-1 -/
def sm : Nat → (Nat → Int) → Int
  | 0, _ => 0
  | n + 1, f => sm n f + f n
theorem sm_congr {n : Nat} {f g : Nat → Int} (h : ∀ k, k < n → f k = g k) : sm n f = sm n g := by
  induction n with
  | zero => rfl
  | succ n ih => rw [sm, sm, ih (fun k hk => h k (by omega)), h n (by omega)]
theorem sm_add (n : Nat) (f g : Nat → Int) : sm n (fun k => f k + g k) = sm n f + sm n g := by
  induction n with
  | zero => rfl
  | succ n ih => rw [sm, sm, sm, ih]; omega
theorem sm_mul_left (n : Nat) (a : Int) (f : Nat → Int) : sm n (fun k => a * f k) = a * sm n f := by
  induction n with
  | zero => rw [sm, sm, Int.mul_zero]
  | succ n ih => rw [sm, sm, ih, Int.mul_add]
theorem sm_mul_right (n : Nat) (a : Int) (f : Nat → Int) : sm n (fun k => f k * a) = sm n f * a := by
  induction n with
  | zero => rw [sm, sm, Int.zero_mul]
  | succ n ih => rw [sm, sm, ih, Int.add_mul]
theorem sm_zero (n : Nat) : sm n (fun _ => 0) = 0 := by
  induction n with
  | zero => rfl
  | succ n ih => rw [sm, ih]; rfl
theorem sm_comm (n m : Nat) (f : Nat → Nat → Int) : sm n (fun i => sm m (f i)) = sm m (fun j => sm n (fun i => f i j)) := by
  induction n with
  | zero => simp only [sm]; exact (sm_zero m).symm
  | succ n ih => rw [sm, ih, ← sm_add]; rfl
/-- one term alone -/
theorem sm_one (n i : Nat) (hi : i < n) (f : Nat → Int) (h : ∀ k, k < n → k ≠ i → f k = 0) : sm n f = f i := by
  induction n with
  | zero => omega
  | succ n ih =>
    rw [sm]
    by_cases e : i = n
    · subst e
      rw [sm_congr (g := fun _ => 0) (fun k hk => h k (by omega) (by omega)), sm_zero]; omega
    · rw [ih (by omega) (fun k hk hk2 => h k (by omega) hk2), h n (by omega) (by omega)]; omega
theorem of_sm (n : Nat) (f : Nat → Int) : of (sm n (fun k => of (f k))) = of (sm n f) := by
  induction n with
  | zero => rfl
  | succ n ih => rw [sm, sm, of_add_right, ← of_add_left, ih, of_add_left]
theorem of_sm_congr {n : Nat} {f g : Nat → Int} (h : ∀ k, k < n → of (f k) = of (g k)) : of (sm n f) = of (sm n g) := by
  rw [← of_sm n f, ← of_sm n g, sm_congr h]

/-- a list by a rule -/
def tab (F : Nat → Int) (m : Nat) : List Int := (List.range m).map F
theorem tab_length (F : Nat → Int) (m : Nat) : (tab F m).length = m := by simp [tab]
theorem tab_succ (F : Nat → Int) (m : Nat) : tab F (m + 1) = tab F m ++ [F m] := by simp [tab, List.range_succ]
theorem tab_at (F : Nat → Int) (m q : Nat) (h : q < m) : (tab F m).getD q 0 = F q := by
  simp [tab, List.getD_eq_getElem?_getD, h]
theorem tab_congr {F G : Nat → Int} {m : Nat} (h : ∀ q, q < m → F q = G q) : tab F m = tab G m := by
  unfold tab; exact List.map_congr_left (fun q hq => h q (List.mem_range.1 hq))
theorem tab_self (l : List Int) : tab (fun q => l.getD q 0) l.length = l := by
  apply List.ext_getElem
  · simp [tab]
  · intro i h1 h2
    simp [tab, List.getD_eq_getElem?_getD, h2]
theorem tab_map (l : List Int) (g : Int → Int) : tab (fun q => g (l.getD q 0)) l.length = l.map g := by
  apply List.ext_getElem
  · simp [tab]
  · intro i h1 h2
    have h3 : i < l.length := by simpa using h2
    simp [tab, List.getD_eq_getElem?_getD, h3]
theorem map_at (l : List Int) (i : Nat) : (l.map of).getD i 0 = of (l.getD i 0) := by
  by_cases h : i < l.length
  · simp [List.getD_eq_getElem?_getD, h]
  · simp [List.getD_eq_getElem?_getD, h]; decide
theorem sq_lt {n i j : Nat} (hi : i < n) (hj : j < n) : i * n + j < n * n := by
  have : i * n + n ≤ n * n := by rw [← Nat.succ_mul]; exact Nat.mul_le_mul_right n hi
  omega
theorem sq_div {n i j : Nat} (hj : j < n) : (i * n + j) / n = i := by
  rw [Nat.mul_comm, Nat.mul_add_div (by omega), Nat.div_eq_of_lt hj]; omega
theorem sq_mod {n i j : Nat} (hj : j < n) : (i * n + j) % n = j := by
  rw [Nat.mul_comm, Nat.mul_add_mod, Nat.mod_eq_of_lt hj]
theorem sq_split {n q : Nat} (h : q < n * n) : q / n < n ∧ q % n < n ∧ q / n * n + q % n = q := by
  have hn : 0 < n := by cases n with | zero => simp at h | succ n => omega
  refine ⟨Nat.div_lt_of_lt_mul h, Nat.mod_lt _ hn, ?_⟩
  rw [Nat.mul_comm]; exact Nat.div_add_mod q n

/-- the number in row i and column j -/
def el (l : List Int) (n i j : Nat) : Int := l.getD (i * n + j) 0
/-- the product's number -/
def pr (a b : List Int) (n i j : Nat) : Int := of (sm n fun k => el a n i k * el b n k j)
/-- the product -/
def mm (n : Nat) (a b : List Int) : List Int := tab (fun q => pr a b n (q / n) (q % n)) (n * n)
/-- a table applied -/
def mv (n : Nat) (a v : List Int) : List Int := tab (fun i => of (sm n fun k => el a n i k * v.getD k 0)) n
/-- the table that changes nothing -/
def unit (n : Nat) : List Int := tab (fun q => if q / n = q % n then 1 else 0) (n * n)
theorem mm_length (n : Nat) (a b : List Int) : (mm n a b).length = n * n := tab_length _ _
theorem mv_length (n : Nat) (a b : List Int) : (mv n a b).length = n := tab_length _ _
theorem unit_length (n : Nat) : (unit n).length = n * n := tab_length _ _
theorem mm_el (n : Nat) (a b : List Int) {i j : Nat} (hi : i < n) (hj : j < n) : el (mm n a b) n i j = pr a b n i j := by
  unfold el mm
  rw [tab_at _ _ _ (sq_lt hi hj), sq_div hj, sq_mod hj]
theorem mv_el (n : Nat) (a v : List Int) {i : Nat} (hi : i < n) : (mv n a v).getD i 0 = of (sm n fun k => el a n i k * v.getD k 0) := by
  unfold mv
  rw [tab_at _ _ _ hi]
theorem unit_el (n : Nat) {i j : Nat} (hi : i < n) (hj : j < n) : el (unit n) n i j = if i = j then 1 else 0 := by
  unfold el unit
  rw [tab_at _ _ _ (sq_lt hi hj), sq_div hj, sq_mod hj]
theorem el_map (l : List Int) (n i j : Nat) : el (l.map of) n i j = of (el l n i j) := map_at l _
theorem sm_assoc (n : Nat) (x : Nat → Int) (y : Nat → Nat → Int) (z : Nat → Int) :
    of (sm n fun k => of (sm n fun l => x l * y l k) * z k) = of (sm n fun l => x l * of (sm n fun k => y l k * z k)) := by
  have e1 : of (sm n fun k => of (sm n fun l => x l * y l k) * z k) = of (sm n fun k => sm n fun l => x l * y l k * z k) :=
    of_sm_congr fun k _ => by rw [of_mul_left, sm_mul_right]
  have e2 : of (sm n fun l => x l * of (sm n fun k => y l k * z k)) = of (sm n fun l => sm n fun k => x l * y l k * z k) :=
    of_sm_congr fun l _ => by
      rw [of_mul_right, ← sm_mul_left]
      congr 1
      exact sm_congr fun k _ => (Int.mul_assoc _ _ _).symm
  rw [e1, e2, sm_comm]
theorem mm_assoc (n : Nat) (a b c : List Int) : mm n (mm n a b) c = mm n a (mm n b c) := by
  refine tab_congr fun q hq => ?_
  obtain ⟨h1, h2, _⟩ := sq_split hq
  unfold pr
  rw [sm_congr (g := fun k => of (sm n fun l => el a n (q / n) l * el b n l k) * el c n k (q % n)) (fun k hk => by rw [mm_el n a b h1 hk]; rfl),
    sm_congr (f := fun k => el a n (q / n) k * el (mm n b c) n k (q % n)) (g := fun l => el a n (q / n) l * of (sm n fun k => el b n l k * el c n k (q % n))) (fun k hk => by rw [mm_el n b c hk h2]; rfl)]
  exact sm_assoc n _ _ _
theorem mv_mm (n : Nat) (a b v : List Int) : mv n (mm n a b) v = mv n a (mv n b v) := by
  refine tab_congr fun i h1 => ?_
  rw [sm_congr (g := fun k => of (sm n fun l => el a n i l * el b n l k) * v.getD k 0) (fun k hk => by rw [mm_el n a b h1 hk]; rfl),
    sm_congr (f := fun k => el a n i k * (mv n b v).getD k 0) (g := fun l => el a n i l * of (sm n fun k => el b n l k * v.getD k 0)) (fun k hk => by rw [mv_el n b v hk])]
  exact sm_assoc n _ _ _
theorem mm_clean_right (n : Nat) (a b : List Int) : mm n a (b.map of) = mm n a b := by
  refine tab_congr fun q hq => ?_
  unfold pr
  refine of_sm_congr fun k _ => ?_
  rw [el_map, of_mul_right]
theorem mm_clean_left (n : Nat) (a b : List Int) : mm n (a.map of) b = mm n a b := by
  refine tab_congr fun q hq => ?_
  unfold pr
  refine of_sm_congr fun k _ => ?_
  rw [el_map, of_mul_left]
theorem mv_clean_left (n : Nat) (a b : List Int) : mv n (a.map of) b = mv n a b := by
  refine tab_congr fun q hq => ?_
  refine of_sm_congr fun k _ => ?_
  rw [el_map, of_mul_left]
theorem mv_clean_right (n : Nat) (a b : List Int) : mv n a (b.map of) = mv n a b := by
  refine tab_congr fun q hq => ?_
  refine of_sm_congr fun k _ => ?_
  rw [map_at, of_mul_right]
theorem tab_el (n : Nat) (l : List Int) (h : l.length = n * n) : tab (fun q => of (el l n (q / n) (q % n))) (n * n) = l.map of := by
  rw [← tab_map l of, h]
  refine tab_congr fun q hq => ?_
  unfold el
  rw [(sq_split hq).2.2]
theorem unit_mm (n : Nat) (a : List Int) (h : a.length = n * n) : mm n (unit n) a = a.map of := by
  rw [← tab_el n a h]
  refine tab_congr fun q hq => ?_
  obtain ⟨h1, h2, _⟩ := sq_split hq
  unfold pr
  rw [sm_one n (q / n) h1 _ (fun k hk hk2 => by rw [unit_el n h1 hk, if_neg (by omega)]; omega), unit_el n h1 h1, if_pos rfl, Int.one_mul]
theorem mm_unit (n : Nat) (a : List Int) (h : a.length = n * n) : mm n a (unit n) = a.map of := by
  rw [← tab_el n a h]
  refine tab_congr fun q hq => ?_
  obtain ⟨h1, h2, _⟩ := sq_split hq
  unfold pr
  rw [sm_one n (q % n) h2 _ (fun k hk hk2 => by rw [unit_el n hk h2, if_neg (by omega)]; omega), unit_el n h2 h2, if_pos rfl, Int.mul_one]
theorem mv_unit (n : Nat) (v : List Int) (h : v.length = n) : mv n (unit n) v = v.map of := by
  rw [← tab_map v of, h]
  refine tab_congr fun i hi => ?_
  rw [sm_one n i hi _ (fun k hk hk2 => by rw [unit_el n hi hk, if_neg (by omega)]; omega), unit_el n hi hi, if_pos rfl, Int.one_mul]

/-- x times b, e times over -/
def itr (n : Nat) (b : List Int) : Nat → List Int → List Int
  | 0, x => x
  | e + 1, x => itr n b e (mm n x b)
theorem itr_succ (n : Nat) (b : List Int) (e : Nat) : ∀ x, itr n b (e + 1) x = mm n (itr n b e x) b := by
  induction e with
  | zero => intro x; rfl
  | succ e ih => intro x; exact ih (mm n x b)
theorem itr_twice (n : Nat) (b : List Int) (e : Nat) : ∀ x, itr n b (2 * e) x = itr n (mm n b b) e x := by
  induction e with
  | zero => intro x; rfl
  | succ e ih =>
    intro x
    rw [show 2 * (e + 1) = 2 * e + 1 + 1 from by omega, itr, itr, itr, mm_assoc]
    exact ih _
theorem itr_clean (n : Nat) (b : List Int) (e : Nat) : ∀ x, itr n (b.map of) e x = itr n b e x := by
  induction e with
  | zero => intro x; rfl
  | succ e ih => intro x; rw [itr, itr, mm_clean_right]; exact ih _
theorem itr_length (n : Nat) (b : List Int) (e : Nat) : ∀ x, x.length = n * n → (itr n b e x).length = n * n := by
  induction e with
  | zero => intro x h; exact h
  | succ e ih => intro x h; rw [itr]; exact ih _ (mm_length _ _ _)
end Go.Proofs.Ytpjfelbamcgnhaa.Pl
