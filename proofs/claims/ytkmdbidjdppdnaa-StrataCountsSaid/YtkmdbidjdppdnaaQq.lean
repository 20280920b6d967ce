/- Draws laid in a grid whose side is a power of two; how many lie in each part: plain. -/
import Derived.Test.YtkmdbidjdppdnaaQp
namespace Go.Proofs.Ytkmdbidjdppdnaa.Gv
set_option linter.unusedVariables false
set_option linter.unusedSimpArgs false
theorem part_lt : ∀ k, k < 7 → ∀ i, i < 65 → 1 ≤ i → yw (2 ^ k) i < 9218868437227405312 ∧ 0 < yw (2 ^ k) i ∧ val (yw (2 ^ k) i - 1) * 2 ^ k = val (fI i - 1) := by decide +kernel
theorem part_val : ∀ k, k < 7 → ∀ i, i < 65 → val (yw (2 ^ k) i) * 2 ^ k = i * U := by decide +kernel
theorem part_up : ∀ k, k < 7 → ∀ i, i < 64 → yw (2 ^ k) i < yw (2 ^ k) (i + 1) := by decide +kernel
theorem part_one : ∀ k, k < 7 → ∀ i, i < 65 → i ≤ 2 ^ k → yw (2 ^ k) i ≤ 4607182418800017408 := by decide +kernel
theorem pow_le : ∀ k, k < 7 → 1 ≤ 2 ^ k ∧ 2 ^ k < 66 ∧ 2 ^ k ≤ 64 := by decide
theorem flt_lt {a b : Nat} (ha : a < 9218868437227405312) (hb : b < 9218868437227405312) : flt a b = decide (a < b) := by
  unfold flt
  rw [order_val a b ha hb]
  by_cases h : a < b
  · rw [if_pos h, decide_eq_true h]; rfl
  · rw [if_neg h, decide_eq_false h]
    split <;> decide
theorem fge_zero {a : Nat} (ha : a < 9218868437227405312) : fge a 0 = true := by
  unfold fge
  rw [order_val a 0 ha (by decide), if_neg (by omega)]
  split <;> decide
theorem clean_id {v : Nat} (h : v < 4607182418800017408) : cleanF v = v := by
  unfold cleanF
  rw [if_pos ⟨fge_zero (by omega), by rw [flt_lt (by omega) (by decide)]; exact decide_eq_true h⟩]
theorem lay_in {k i u r : Nat} (hk : k < 7) (hi : i < 2 ^ k) (h : Cln u r) : yw (2 ^ k) i ≤ layW (2 ^ k) i u ∧ layW (2 ^ k) i u < yw (2 ^ k) (i + 1) := by
  obtain ⟨p1, p2, p3⟩ := pow_le k hk
  obtain ⟨a1, a2, a3, a4⟩ := ad_ok (i := i) (by omega) h
  have hb := (fI_tab (i + 1) (by omega)).1
  have lo : yw (2 ^ k) i ≤ xw (2 ^ k) i u := dv_mono a3 a2 p1 p2
  have hi2 : xw (2 ^ k) i u ≤ yw (2 ^ k) (i + 1) := dv_mono a4 hb p1 p2
  have hy := (part_lt k hk (i + 1) (by omega) (by omega)).1
  have hu := part_up k hk i (by omega)
  unfold layW
  rw [flt_lt (Nat.lt_of_le_of_lt hi2 hy) hy]
  by_cases c : xw (2 ^ k) i u < yw (2 ^ k) (i + 1)
  · rw [if_pos (decide_eq_true c)]
    exact ⟨lo, c⟩
  · rw [if_neg (by rw [decide_eq_false c]; decide)]
    exact ⟨Nat.le_refl _, hu⟩
theorem cell_lay {k i u r : Nat} (hk : k < 7) (hi : i < 2 ^ k) (h : Cln u r) : cellV (2 ^ k) (layW (2 ^ k) i u) = i := by
  obtain ⟨p1, p2, p3⟩ := pow_le k hk
  obtain ⟨l1, l2⟩ := lay_in hk hi h
  obtain ⟨q1, q2, q3⟩ := part_lt k hk (i + 1) (by omega) (by omega)
  have q4 := part_one k hk (i + 1) (by omega) (by omega)
  have q5 := part_val k hk i (by omega)
  obtain ⟨f1, f2⟩ := fI_tab (i + 1) (by omega)
  have f3 := fI_pos (i + 1) (by omega) (by omega)
  have f4 := (fI_tab i (by omega)).2
  generalize layW (2 ^ k) i u = v at l1 l2
  have hv : v < 4607182418800017408 := Nat.lt_of_lt_of_le l2 q4
  unfold cellV
  rw [clean_id hv]
  have lo : fI i ≤ rung (2 ^ k * val v) 0 := by
    rw [fI_rung (show i < 66 by omega), ← q5, Nat.mul_comm (val _)]
    exact rung_mono 0 (Nat.mul_le_mul_left _ (val_mono l1))
  have up : rung (2 ^ k * val v) 0 ≤ fI (i + 1) - 1 := by
    rw [← rung_val (fI (i + 1) - 1), ← q3, Nat.mul_comm (val _)]
    exact rung_mono 0 (Nat.mul_le_mul_left _ (val_mono (by omega)))
  have up2 : rung (2 ^ k * val v) 0 < fI (i + 1) := Nat.lt_of_le_of_lt up (by omega)
  have em : ml (fI (2 ^ k)) v = rung (2 ^ k * val v) 0 := by
    unfold ml
    rw [ml_word p2 (by omega), Option.getD_some, Nat.min_eq_left (Nat.le_of_lt (Nat.lt_trans up2 f1))]
  rw [em]
  generalize rung (2 ^ k * val v) 0 = p at lo up2
  have v1 := val_mono lo
  have v2 := val_lt up2
  rw [f4] at v1
  rw [f2] at v2
  have hd : val p / U = i := Nat.div_eq_of_lt_le v1 v2
  rw [cut_val (Nat.lt_trans up2 f1) (by rw [hd]; omega), hd]
  rfl
/-- the part a number lies in -/
def cellN (n x : Nat) : Nat := min (cellV n x).toNat (n - 1)
theorem cellN_lt {n x : Nat} (h : 1 ≤ n) : cellN n x < n := by unfold cellN; omega
theorem cellN_min {n x : Nat} (h1 : 1 ≤ n) (h2 : n < 66) : min (cellV n x) ((n : Int) - 1) = (cellN n x : Int) := by
  have h := (cell_gen (x := x) h2).2.2.1
  unfold cellN
  omega
theorem cellN_lay {k i u r : Nat} (hk : k < 7) (hi : i < 2 ^ k) (h : Cln u r) : cellN (2 ^ k) (layW (2 ^ k) i u) = i := by
  unfold cellN
  rw [cell_lay hk hi h]
  omega
end Go.Proofs.Ytkmdbidjdppdnaa.Gv
