/- floats, plain: how far a rounded quotient is from the true one. -/
import Derived.Test.YtncbomdngldhbaaFs
import Derived.Test.YtncbomdngldhbaaFu
namespace Go.Proofs.Ytncbomdngldhbaa.Gv
theorem val_ext (D m : Nat) (h1 : m ≤ 9007199254740992) (h2 : D = 0 ∨ 4503599627370496 ≤ m) : val (D * 4503599627370496 + m) = m * 2 ^ D := by
  rcases Nat.lt_or_ge m 9007199254740992 with c | c
  · exact val_of m D c h2
  · have e : m = 9007199254740992 := by omega
    subst e
    have h := val_of 4503599627370496 (D + 1) (by decide) (.inr (Nat.le_refl _))
    rw [show (D + 1) * 4503599627370496 + 4503599627370496 = D * 4503599627370496 + 9007199254740992 by omega] at h
    rw [h, Nat.pow_succ, Nat.mul_comm (2 ^ D) 2, ← Nat.mul_assoc]
/-- V = the word of p / (d * 2 ^ b): 2 ^ 53 V d 2 ^ b is p * 2 ^ 53, but for p + 2 ^ 52 d 2 ^ b -/
theorem quo_near (p d b : Nat) (h : 0 < d) : 9007199254740992 * (val (qrung p d b) * (d * 2 ^ b)) ≤ 9007199254740993 * p + 4503599627370496 * (d * 2 ^ b) ∧ 9007199254740991 * p ≤ 9007199254740992 * (val (qrung p d b) * (d * 2 ^ b)) + 4503599627370496 * (d * 2 ^ b) := by
  have hd (D : Nat) : 0 < d * 2 ^ D := Nat.mul_pos h (Nat.two_pow_pos D)
  unfold qrung
  have hb : b ≤ qcut p d b := by unfold qcut; omega
  have hN : p / d < 2 ^ ((p / d).log2 + 1) := Nat.lt_log2_self
  have hL : (p / d).log2 + 1 ≤ qcut p d b + 53 := by unfold qcut; omega
  have k1 : qrn p (d * 2 ^ qcut p d b) ≤ 9007199254740992 := by
    apply qrn_le (hd _)
    have : p / d < 2 ^ (qcut p d b + 53) := Nat.lt_of_lt_of_le hN (Nat.pow_le_pow_right (by decide) hL)
    rw [Nat.div_lt_iff_lt_mul h, Nat.pow_add] at this
    rw [Nat.mul_assoc, Nat.mul_comm d]
    exact Nat.le_of_lt this
  obtain ⟨n1, n2⟩ := qrn_near (p := p) (hd (qcut p d b))
  by_cases c : qcut p d b = b
  · rw [c] at k1 n1 n2 ⊢
    rw [Nat.sub_self, Nat.zero_mul, Nat.zero_add]
    have hv := val_ext 0 (qrn p (d * 2 ^ b)) k1 (.inl rfl)
    rw [Nat.zero_mul, Nat.zero_add, Nat.pow_zero, Nat.mul_one] at hv
    rw [hv]
    generalize d * 2 ^ b = g at *
    generalize qrn p g = m at *
    have e : g * (2 * m) = 2 * (m * g) := by rw [Nat.mul_left_comm, Nat.mul_comm g m]
    rw [e] at n1 n2
    generalize m * g = mg at *
    omega
  · have hD : qcut p d b = (p / d).log2 - 52 := by unfold qcut at c ⊢; omega
    have hL' : 52 ≤ (p / d).log2 := by unfold qcut at c hD; omega
    have hz : p / d ≠ 0 := by
      intro z
      rw [z] at hL'
      simp at hL'
    have hp : d * 2 ^ qcut p d b * 4503599627370496 ≤ p := by
      rw [hD, Nat.mul_assoc, show (4503599627370496 : Nat) = 2 ^ 52 from rfl, ← Nat.pow_add, show (p / d).log2 - 52 + 52 = (p / d).log2 by omega]
      exact Nat.le_trans (Nat.mul_le_mul_left d (Nat.log2_self_le hz)) (Nat.mul_div_le _ _)
    have k2 : 4503599627370496 ≤ qrn p (d * 2 ^ qcut p d b) := qrn_ge (hd _) hp
    have hv := val_ext (qcut p d b - b) (qrn p (d * 2 ^ qcut p d b)) k1 (.inr k2)
    rw [hv]
    have e : qrn p (d * 2 ^ qcut p d b) * 2 ^ (qcut p d b - b) * (d * 2 ^ b) = qrn p (d * 2 ^ qcut p d b) * (d * 2 ^ qcut p d b) := by
      rw [Nat.mul_assoc, Nat.mul_left_comm (2 ^ (qcut p d b - b)), ← Nat.pow_add, show qcut p d b - b + b = qcut p d b by omega]
    rw [e]
    generalize d * 2 ^ b = f at *
    generalize d * 2 ^ qcut p d b = g at *
    generalize qrn p g = m at *
    have e2 : g * (2 * m) = 2 * (m * g) := by rw [Nat.mul_left_comm, Nat.mul_comm g m]
    rw [e2] at n1 n2
    generalize m * g = mg at *
    omega
theorem rung_quo (N b : Nat) : rung N b = qrung N 1 b := by
  unfold rung qrung cutAt qcut rnd qrn
  rw [Nat.div_one, Nat.one_mul]
theorem rung_near (N b : Nat) : 9007199254740992 * (val (rung N b) * 2 ^ b) ≤ 9007199254740993 * N + 4503599627370496 * 2 ^ b ∧ 9007199254740991 * N ≤ 9007199254740992 * (val (rung N b) * 2 ^ b) + 4503599627370496 * 2 ^ b := by
  have h := quo_near N 1 b (by decide)
  rw [← rung_quo, Nat.one_mul] at h
  exact h
end Go.Proofs.Ytncbomdngldhbaa.Gv
