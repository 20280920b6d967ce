/- floats, plain: words and what they stand for; a draw below 1. -/
import Derived.Test.YtkmdbidjdppdnaaFm
namespace Go.Proofs.Ytkmdbidjdppdnaa.Gv
def val (r : Nat) : Nat := if r < 4503599627370496 then r else (4503599627370496 + r % 4503599627370496) * 2 ^ (r / 4503599627370496 - 1)
theorem read_val (r : Nat) (h : r < 9218868437227405312) : ∃ (m : Nat) (k : Nat), FloatKind.f64.format.read r = .number false m (-1074 + (k : Int)) ∧ m * 2 ^ k = val r := by
  unfold Ieee.Format.read val
  have hb : FloatKind.f64.format.binade = 4503599627370496 := rfl
  have hi : FloatKind.f64.format.infRung = 9218868437227405312 := rfl
  have hs : FloatKind.f64.format.signWeight = 9223372036854775808 := rfl
  have hl : FloatKind.f64.format.leastPlace = -1074 := rfl
  simp only [hb, hi, hs, hl]
  have h1 : r % 9223372036854775808 = r := Nat.mod_eq_of_lt (by omega)
  have h2 : r / 9223372036854775808 % 2 = 0 := by omega
  rw [h1, h2]
  by_cases c : r < 4503599627370496
  · rw [if_pos c, if_pos c]
    exact ⟨r, 0, rfl, by rw [Nat.pow_zero, Nat.mul_one]⟩
  · rw [if_neg c, if_neg c, if_pos h]
    exact ⟨_, _, rfl, rfl⟩
theorem log2_of {m D : Nat} (h1 : 2 ^ D ≤ m) (h2 : m < 2 ^ (D + 1)) : m.log2 = D := by
  have h0 : m ≠ 0 := by have := Nat.two_pow_pos D; omega
  have a := (Nat.le_log2 h0).mpr h1
  have b := (Nat.log2_lt h0).mpr h2
  omega
theorem rung_of (m D : Nat) (h1 : m < 9007199254740992) (h2 : D = 0 ∨ 4503599627370496 ≤ m) : rung (m * 2 ^ D) 0 = D * 4503599627370496 + m := by
  have hc : cutAt (m * 2 ^ D) 0 = D := by
    by_cases h0 : m = 0
    · subst h0
      have : D = 0 := by omega
      subst this
      rfl
    · unfold cutAt
      rw [log2_shift h0]
      have h3 : m.log2 ≤ 52 := by
        have := (Nat.log2_lt h0).mpr (show m < 2 ^ 53 from h1)
        omega
      rcases h2 with h2 | h2
      · omega
      · have := (Nat.le_log2 h0).mpr (show 2 ^ 52 ≤ m from h2)
        omega
  unfold rung
  rw [hc, rnd_exact, Nat.sub_zero]
theorem val_of (m D : Nat) (h1 : m < 9007199254740992) (h2 : D = 0 ∨ 4503599627370496 ≤ m) : val (D * 4503599627370496 + m) = m * 2 ^ D := by
  unfold val
  by_cases c : D * 4503599627370496 + m < 4503599627370496
  · have : D = 0 := by omega
    subst this
    rw [if_pos c]
    omega
  · rw [if_neg c]
    have e1 : (D * 4503599627370496 + m) / 4503599627370496 = D + 1 := by omega
    have e2 : (D * 4503599627370496 + m) % 4503599627370496 = m - 4503599627370496 := by omega
    rw [e1, e2, show 4503599627370496 + (m - 4503599627370496) = m by omega, Nat.add_sub_cancel]
theorem rung_val (r : Nat) : rung (val r) 0 = r := by
  unfold val
  by_cases c : r < 4503599627370496
  · rw [if_pos c]
    have := rung_of r 0 (by omega) (.inl rfl)
    rw [Nat.pow_zero, Nat.mul_one] at this
    omega
  · rw [if_neg c, rung_of _ _ (by omega) (.inr (by omega))]
    omega
theorem val_lt {r r' : Nat} (h : r < r') : val r < val r' := by
  rcases Nat.lt_or_ge (val r) (val r') with c | c
  · exact c
  · have := rung_mono 0 c
    rw [rung_val, rung_val] at this
    omega
theorem order_val (r r' : Nat) (h : r < 9218868437227405312) (h' : r' < 9218868437227405312) : FloatKind.f64.format.order r r' = some (if r < r' then .lt else if r = r' then .eq else .gt) := by
  obtain ⟨m, k, e1, v1⟩ := read_val r h
  obtain ⟨n, j, e2, v2⟩ := read_val r' h'
  unfold Ieee.Format.order
  rw [e1, e2]
  simp only [Ieee.Datum.order, Ieee.signed, Bool.false_eq_true, ↓reduceIte, cmp_int, Nat.shiftLeft_eq]
  have hmin : min (-1074 + (k : Int)) (-1074 + (j : Int)) = -1074 + ((min k j : Nat) : Int) := by omega
  rw [hmin]
  have a1 : (-1074 + (k : Int) - (-1074 + ((min k j : Nat) : Int))).toNat = k - min k j := by omega
  have a2 : (-1074 + (j : Int) - (-1074 + ((min k j : Nat) : Int))).toNat = j - min k j := by omega
  rw [a1, a2]
  have b1 : m * 2 ^ (k - min k j) * 2 ^ (min k j) = val r := by rw [Nat.mul_assoc, ← Nat.pow_add, show k - min k j + min k j = k by omega]; exact v1
  have b2 : n * 2 ^ (j - min k j) * 2 ^ (min k j) = val r' := by rw [Nat.mul_assoc, ← Nat.pow_add, show j - min k j + min k j = j by omega]; exact v2
  have hp := Nat.two_pow_pos (min k j)
  generalize m * 2 ^ (k - min k j) = x at *
  generalize n * 2 ^ (j - min k j) = y at *
  generalize 2 ^ min k j = g at *
  have key : (x < y ↔ r < r') ∧ (x = y ↔ r = r') := by
    rcases Nat.lt_trichotomy r r' with c | c | c
    · have := val_lt c
      rw [← b1, ← b2] at this
      have := Nat.lt_of_mul_lt_mul_right this
      omega
    · subst c
      rw [← b2] at b1
      have := Nat.eq_of_mul_eq_mul_right hp b1
      omega
    · have := val_lt c
      rw [← b1, ← b2] at this
      have := Nat.lt_of_mul_lt_mul_right this
      omega
  congr 1
  by_cases c : r < r'
  · rw [if_pos c, if_pos (by have := key.1.mpr c; omega)]
  · rw [if_neg c, if_neg (fun z => c (key.1.mp (by omega)))]
    by_cases d : r = r'
    · rw [if_pos d, if_pos (by have := key.2.mpr d; omega)]
    · rw [if_neg d, if_neg (fun z => d (key.2.mp (by omega)))]
/-- the nearest word of m * 2 ^ (s - 1074) -/
theorem nearest_up (m s : Nat) : FloatKind.f64.format.nearest false m (-1074 + (s : Int)) = min (rung (m * 2 ^ s) 0) 9218868437227405312 := by
  by_cases h0 : m = 0
  · subst h0
    have h := nearest_rung 0 0
    rw [Nat.zero_mul, ← h]
    unfold Ieee.Format.nearest
    rw [if_pos rfl, if_pos rfl]
  · unfold Ieee.Format.nearest
    have hl : FloatKind.f64.format.leastPlace = -1074 := rfl
    have hf : FloatKind.f64.format.fractionBits = 52 := rfl
    have hb : FloatKind.f64.format.binade = 4503599627370496 := rfl
    have hi : FloatKind.f64.format.infRung = 9218868437227405312 := rfl
    rw [if_neg h0, hl, hf, hb, hi]
    have hc : cutAt (m * 2 ^ s) 0 = m.log2 + s - 52 := by
      unfold cutAt
      rw [log2_shift h0]
      omega
    have e1 : max (-1074 + (s : Int) + (m.log2 : Int) - (52 : Nat)) (-1074) = -1074 + ((m.log2 + s - 52 : Nat) : Int) := by omega
    rw [e1]
    simp only [cut_rnd]
    unfold rung
    rw [hc, Nat.sub_zero]
    have e4 : (-1074 + ((m.log2 + s - 52 : Nat) : Int) - -1074).toNat = m.log2 + s - 52 := by omega
    rw [e4]
    simp only [Ieee.Format.word, Bool.false_eq_true, ↓reduceIte]
    congr 2
    by_cases c : m.log2 + s - 52 ≤ s
    · have e2 : (-1074 + (s : Int) - (-1074 + ((m.log2 + s - 52 : Nat) : Int))).toNat = s - (m.log2 + s - 52) := by omega
      have e3 : (-1074 + ((m.log2 + s - 52 : Nat) : Int) - (-1074 + (s : Int))).toNat = 0 := by omega
      rw [e2, e3, Nat.shiftLeft_eq]
      generalize m.log2 + s - 52 = D at *
      have h1 := rnd_exact (m * 2 ^ (s - D)) D
      have h2 := rnd_exact (m * 2 ^ (s - D)) 0
      rw [Nat.pow_zero, Nat.mul_one] at h2
      rw [h2]
      rw [Nat.mul_assoc, ← Nat.pow_add, show s - D + D = s by omega] at h1
      exact h1.symm
    · have e2 : (-1074 + (s : Int) - (-1074 + ((m.log2 + s - 52 : Nat) : Int))).toNat = 0 := by omega
      have e3 : (-1074 + ((m.log2 + s - 52 : Nat) : Int) - (-1074 + (s : Int))).toNat = m.log2 + s - 52 - s := by omega
      rw [e2, e3, Nat.shiftLeft_zero]
      have h1 := rnd_shift m (m.log2 + s - 52 - s) s
      rw [show m.log2 + s - 52 - s + s = m.log2 + s - 52 by omega] at h1
      exact h1.symm
end Go.Proofs.Ytkmdbidjdppdnaa.Gv
