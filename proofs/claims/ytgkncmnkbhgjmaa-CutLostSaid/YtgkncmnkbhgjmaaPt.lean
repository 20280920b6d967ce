/- chapter 36, plain: one throw. -/
import Derived.Test.YtgkncmnkbhgjmaaPn
namespace Go.Proofs.Ytgkncmnkbhgjmaa.Pure
open Go.RowKit Go.Proofs.Ytgkncmnkbhgjmaa.X Go.Proofs.YtgkncmnkbhgjmaaW.PrintWords Go.Proofs.YtgkncmnkbhgjmaaW.PrintLast
/-- what t has thrown of l, up to its place i -/
def st (n : Nat) (t l : List Int) : Nat → List Int
  | 0 => List.replicate n 0
  | i + 1 => (st n t l i).set (i / n) ((st n t l i).getD (i / n) 0 + t.getD i 0 * l.getD (i % n) 0)
theorem st_length (n : Nat) (t l : List Int) : ∀ i, (st n t l i).length = n
  | 0 => by simp [st]
  | i + 1 => by rw [st, List.length_set, st_length n t l i]
/-- the sum of a row of t, up to the place i -/
def sr (n : Nat) (t : List Int) (row : Nat) : Nat → Int
  | 0 => 0
  | i + 1 => sr n t row i + (if i / n = row then t.getD i 0 else 0)
theorem set_getD (l : List Int) (v : Int) (i j : Nat) (hi : i < l.length) : (l.set i v).getD j 0 = if i = j then v else l.getD j 0 := by
  simp only [List.getD_eq_getElem?_getD, List.getElem?_set]
  by_cases c : i = j
  · subst c; simp [hi]
  · simp [c]
theorem st_bound {n : Nat} (hn : 1 ≤ n) {t l : List Int} {M : Int} (hM : 0 ≤ M) (ht : t.length = n * n) (ht0 : ∀ q, q < n * n → 0 ≤ t.getD q 0) (hl : ∀ j, j < n → 0 ≤ l.getD j 0 ∧ l.getD j 0 ≤ M) : ∀ i, i ≤ n * n → ∀ row, row < n → 0 ≤ (st n t l i).getD row 0 ∧ (st n t l i).getD row 0 ≤ sr n t row i * M
  | 0, _, row, hr => by simp [st, sr, List.getD_eq_getElem?_getD, hr]
  | i + 1, hi, row, hr => by
    obtain ⟨a, b⟩ := st_bound hn hM ht ht0 hl i (by omega) row hr
    have hq : i / n < n := Nat.div_lt_of_lt_mul (by omega)
    have hm : i % n < n := Nat.mod_lt _ (by omega)
    rw [st, sr, set_getD _ _ _ _ (by rw [st_length]; exact hq)]
    by_cases c : i / n = row
    · rw [if_pos c, if_pos c, c, Int.add_mul]
      obtain ⟨x0, x1⟩ := hl (i % n) hm
      have t0 := ht0 i (by omega)
      have y0 := Int.mul_nonneg t0 x0
      have y1 := Int.mul_le_mul_of_nonneg_left x1 t0
      omega
    · rw [if_neg c, if_neg c, Int.add_zero]
      exact ⟨a, b⟩
theorem add_step {x p W : Int} (h0 : 0 ≤ x) (hp : 0 ≤ p) (h1 : x + p ≤ W) (h2 : W ≤ 4611686018427387904) : wrap64 (x + wrap64 p) = x + p := by
  rw [wfit p hp (by omega), wfit _ (by omega) (by omega)]
theorem ediv_w {i n : Nat} (hi : i ≤ 1000) : wrap64 (Int.tdiv (i : Int) (n : Int)) = ((i / n : Nat) : Int) := by
  have hdle := Nat.div_le_self i n
  rw [show Int.tdiv (i : Int) (n : Int) = ((i / n : Nat) : Int) from rfl]
  generalize i / n = u at hdle ⊢
  exact wfit _ (by omega) (by omega)
theorem throw_step {n : Nat} (hn : 1 ≤ n) (hn2 : n ≤ 12) {t l s : List Int} {i : Nat} (ht : t.length = n * n) (hll : l.length = n) (hs : s.length = n) (hi : i < n * n) (k : Nat) (x : Int)
    (hx : wrap64 (s.getD (i / n) 0 + wrap64 (t.getD i 0 * l.getD (i % n) 0)) = x) :
    cut_throw.l0 (k + 1) l (n : Int) s t (t.length : Int) (i : Int) = cut_throw.l0 k l (n : Int) (s.set (i / n) x) t (t.length : Int) ((i + 1 : Nat) : Int) := by
  have hnn : n * n ≤ 12 * 12 := Nat.mul_le_mul hn2 hn2
  have hq : i / n < n := Nat.div_lt_of_lt_mul hi
  have hm : i % n < n := Nat.mod_lt _ (by omega)
  have em : Int.tmod (i : Int) (n : Int) = ((i % n : Nat) : Int) := rfl
  have ed := ediv_w (n := n) (show i ≤ 1000 by omega)
  rw [cut_throw.l0, ed, em, rd_nat, rd_nat, rd_nat, hx, Int.toNat_natCast, suc (by omega)]
  generalize i / n = u at hq ⊢
  generalize i % n = v at hm ⊢
  rw [ht]
  generalize n * n = m at hi hnn ⊢
  rw [if_pos (by omega), if_pos (by omega), if_pos (by omega), if_neg (by omega), if_pos (by omega), if_pos (by omega), if_pos (by omega), if_pos (by omega)]
theorem throw_loop {n : Nat} (hn : 1 ≤ n) (hn2 : n ≤ 12) {t l : List Int} {M : Int} (hM : 0 ≤ M) (ht : t.length = n * n) (ht0 : ∀ q, q < n * n → 0 ≤ t.getD q 0) (hll : l.length = n) (hl : ∀ j, j < n → 0 ≤ l.getD j 0 ∧ l.getD j 0 ≤ M)
    (hw : ∀ i row, i ≤ n * n → row < n → sr n t row i * M ≤ 4611686018427387904) : ∀ d i, i + d = n * n → Ev (fun k => cut_throw.l0 k l (n : Int) (st n t l i) t (t.length : Int) (i : Int)) (st n t l (n * n)) := by
  intro d
  induction d with
  | zero =>
    intro i hi
    have e : i = n * n := by omega
    subst e
    rw [ht]
    generalize n * n = m
    exact Ev.step (fun _ => rfl) (neg (by omega) (Ev.now _))
  | succ d ih =>
    intro i hi
    have h := ih (i + 1) (by omega)
    have hlt : i < n * n := by omega
    have hq : i / n < n := Nat.div_lt_of_lt_mul hlt
    have hm : i % n < n := Nat.mod_lt _ (by omega)
    have hsl := st_length n t l i
    have b0 := (st_bound hn hM ht ht0 hl i (by omega) (i / n) hq).1
    have b1 := (st_bound hn hM ht ht0 hl (i + 1) (by omega) (i / n) hq).2
    have w1 := hw (i + 1) (i / n) (by omega) hq
    rw [st, set_getD _ _ _ _ (by rw [hsl]; exact hq), if_pos rfl] at b1
    exact Ev.step (fun k => throw_step hn hn2 ht hll hsl hlt k _ (add_step b0 (Int.mul_nonneg (ht0 i hlt) (hl _ hm).1) b1 w1)) h
end Go.Proofs.Ytgkncmnkbhgjmaa.Pure
