/- floats, plain: quotients keep order. -/
import Derived.Test.YtkmdbidjdppdnaaFo
namespace Go.Proofs.Ytkmdbidjdppdnaa.Gv
/-- p / q to the nearest, between two the even one -/
def qrn (p q : Nat) : Nat := p / q + (decide (q < 2 * (p % q)) || (q == 2 * (p % q) && p / q % 2 == 1)).toNat
theorem qrn_near {p q : Nat} (h : 0 < q) : q * (2 * qrn p q) ≤ 2 * p + q ∧ 2 * p ≤ q * (2 * qrn p q) + q := by
  have h1 := Nat.div_add_mod p q
  have hl := Nat.mod_lt p h
  unfold qrn
  generalize p / q = d at *
  generalize p % q = r at *
  cases hb : (decide (q < 2 * r) || (q == 2 * r && d % 2 == 1)) with
  | true =>
    have : q ≤ 2 * r := by
      simp at hb
      omega
    simp only [Bool.toNat_true]
    rw [show 2 * (d + 1) = 2 * d + 2 by omega, Nat.mul_add, Nat.mul_left_comm]
    omega
  | false =>
    have : 2 * r ≤ q := by
      simp at hb
      omega
    simp only [Bool.toNat_false, Nat.add_zero]
    rw [Nat.mul_left_comm]
    omega
theorem qrn_mono {p p' q : Nat} (h0 : 0 < q) (h : p ≤ p') : qrn p q ≤ qrn p' q := by
  rcases Nat.lt_or_ge p p' with c | c
  · rcases Nat.lt_or_ge (qrn p' q) (qrn p q) with d | d
    · exfalso
      have h1 := (qrn_near (p := p) h0).1
      have h2 := (qrn_near (p := p') h0).2
      have h3 : q * (2 * qrn p' q + 2) ≤ q * (2 * qrn p q) := Nat.mul_le_mul_left _ (by omega)
      rw [Nat.mul_add] at h3
      omega
    · exact d
  · have : p = p' := by omega
    subst this
    exact Nat.le_refl _
theorem qrn_ge {p q k : Nat} (h0 : 0 < q) (h : q * k ≤ p) : k ≤ qrn p q := by
  have h1 : k ≤ p / q := by
    rw [Nat.le_div_iff_mul_le h0, Nat.mul_comm]
    exact h
  unfold qrn
  omega
theorem qrn_le {p q k : Nat} (h0 : 0 < q) (h : p ≤ q * k) : qrn p q ≤ k := by
  have h2 := (qrn_near (p := p) h0).1
  rcases Nat.lt_or_ge k (qrn p q) with d | d
  · exfalso
    have h3 : q * (2 * k + 2) ≤ q * (2 * qrn p q) := Nat.mul_le_mul_left _ (by omega)
    rw [Nat.mul_add, Nat.mul_left_comm] at h3
    omega
  · exact d
theorem qrn_scale (p q t : Nat) (h : 0 < t) : qrn (p * t) (q * t) = qrn p q := by
  unfold qrn
  rw [Nat.mul_div_mul_right _ _ h, Nat.mul_mod_mul_right, ← Nat.mul_assoc]
  congr 2
  congr 1
  · rw [decide_eq_decide]
    exact Nat.mul_lt_mul_right h
  · congr 1
    rw [Bool.eq_iff_iff, beq_iff_eq, beq_iff_eq]
    exact Nat.mul_left_inj (by omega)
/-- the quotient's digits and one more, which is 1 where anything is left over, round as the quotient does -/
theorem sticky (p q D : Nat) (h : 0 < q) : rnd (2 * (p / q) + (p % q != 0).toNat) (D + 2) = qrn p (q * 2 ^ (D + 1)) := by
  have h1 := Nat.div_add_mod p q
  have hl := Nat.mod_lt p h
  have e0 : p / (q * 2 ^ (D + 1)) = p / q / 2 ^ (D + 1) := (Nat.div_div_eq_div_mul _ _ _).symm
  have e1 : p % (q * 2 ^ (D + 1)) = p / q % 2 ^ (D + 1) * q + p % q := by
    rw [Nat.mod_mul, Nat.mul_comm q, Nat.add_comm]
  unfold rnd qrn
  rw [e0, e1]
  have e2 : 2 ^ (D + 2) = 2 * 2 ^ (D + 1) := by rw [Nat.pow_succ 2 (D + 1), Nat.mul_comm]
  have e3 : 2 ^ (D + 1) = 2 * 2 ^ D := by rw [Nat.pow_succ, Nat.mul_comm]
  have hst : (p % q != 0).toNat ≤ 1 := by cases (p % q != 0) <;> simp
  have hs1 : (p % q != 0).toNat = 1 ↔ 0 < p % q := by
    cases c : (p % q != 0) with
    | true => have := bne_iff_ne.mp c; simp; omega
    | false => simp at c; simp [c]
  generalize (p % q != 0).toNat = st at *
  generalize p % q = r at *
  generalize p / q = F at *
  have hp := Nat.two_pow_pos D
  have f1 : (2 * F + st) / 2 ^ (D + 2) = F / 2 ^ (D + 1) := by
    rw [e2, ← Nat.div_div_eq_div_mul]
    congr 1
    omega
  have f2 : (2 * F + st) % 2 ^ (D + 2) = 2 * (F % 2 ^ (D + 1)) + st := by
    rw [e2, Nat.mod_mul]
    rw [show (2 * F + st) / 2 = F by omega, show (2 * F + st) % 2 = st by omega]
    omega
  rw [f1, f2, e2, e3]
  have hf := Nat.mod_lt F (show 0 < 2 * 2 ^ D by omega)
  generalize F / (2 * 2 ^ D) = u
  generalize F % (2 * 2 ^ D) = f at *
  generalize 2 ^ D = g at *
  have m1 : q * (2 * g) = 2 * (q * g) := Nat.mul_left_comm _ _ _
  rw [m1]
  have cmpr : (f < g → f * q + r < q * g) ∧ (g < f → q * g < f * q + r) ∧ (f = g → f * q + r = q * g + r) := by
    refine ⟨fun c => ?_, fun c => ?_, fun c => ?_⟩
    · have := Nat.mul_le_mul_right q (show f + 1 ≤ g from c)
      rw [Nat.add_mul, Nat.one_mul, Nat.mul_comm g] at this
      omega
    · have := Nat.mul_le_mul_right q (show g + 1 ≤ f from c)
      rw [Nat.add_mul, Nat.one_mul, Nat.mul_comm g] at this
      omega
    · rw [c, Nat.mul_comm]
  generalize f * q + r = x at *
  generalize q * g = y at *
  congr 2
  have k1 : (2 * (2 * g) < 2 * (2 * f + st)) ↔ (2 * y < 2 * x) := by
    rcases Nat.lt_trichotomy f g with c | c | c
    · have := cmpr.1 c; omega
    · have := cmpr.2.2 c; omega
    · have := cmpr.2.1 c; omega
  have k2 : (2 * (2 * g) = 2 * (2 * f + st)) ↔ (2 * y = 2 * x) := by
    rcases Nat.lt_trichotomy f g with c | c | c
    · have := cmpr.1 c; omega
    · have := cmpr.2.2 c; omega
    · have := cmpr.2.1 c; omega
  congr 1
  · rw [decide_eq_decide]
    exact k1
  · congr 1
    rw [Bool.eq_iff_iff, beq_iff_eq, beq_iff_eq]
    exact k2
/-! the rung of p / q * 2 ^ (-1074 - b) -/
def qcut (p q b : Nat) : Nat := max ((p / q).log2 - 52) b
def qrung (p q b : Nat) : Nat := (qcut p q b - b) * 4503599627370496 + qrn p (q * 2 ^ qcut p q b)
theorem qrung_scale (p q b t : Nat) (h : 0 < t) : qrung (p * t) (q * t) b = qrung p q b := by
  have e : qcut (p * t) (q * t) b = qcut p q b := by unfold qcut; rw [Nat.mul_div_mul_right _ _ h]
  unfold qrung
  rw [e, Nat.mul_right_comm, qrn_scale _ _ _ h]
theorem qrung_same {p p' q : Nat} (b : Nat) (h0 : 0 < q) (h : p ≤ p') : qrung p q b ≤ qrung p' q b := by
  have hF : p / q ≤ p' / q := Nat.div_le_div_right h
  have h1 : (p / q).log2 ≤ (p' / q).log2 := by
    by_cases z : p / q = 0
    · rw [z]; simp
    · rw [Nat.le_log2 (fun z2 => z (by rw [z2] at hF; exact Nat.le_zero.mp hF))]
      exact Nat.le_trans (Nat.log2_self_le z) hF
  have hN : p / q < 2 ^ ((p / q).log2 + 1) := Nat.lt_log2_self
  unfold qrung
  have hc : qcut p q b ≤ qcut p' q b := by unfold qcut; omega
  have hb : b ≤ qcut p q b := by unfold qcut; omega
  have hq (D : Nat) : 0 < q * 2 ^ D := Nat.mul_pos h0 (Nat.two_pow_pos D)
  rcases Nat.lt_or_ge (qcut p q b) (qcut p' q b) with c | c
  · have hD' : qcut p' q b = (p' / q).log2 - 52 := by unfold qcut at c ⊢; omega
    have hL' : 52 ≤ (p' / q).log2 := by unfold qcut at c hD'; omega
    have hL : (p / q).log2 + 1 ≤ qcut p q b + 53 := by unfold qcut; omega
    have k1 : qrn p (q * 2 ^ qcut p q b) ≤ 9007199254740992 := by
      apply qrn_le (hq _)
      have : p / q < 2 ^ (qcut p q b + 53) := Nat.lt_of_lt_of_le hN (Nat.pow_le_pow_right (by decide) hL)
      rw [Nat.div_lt_iff_lt_mul h0, Nat.pow_add] at this
      rw [Nat.mul_assoc, Nat.mul_comm q]
      exact Nat.le_of_lt this
    have k2 : 4503599627370496 ≤ qrn p' (q * 2 ^ qcut p' q b) := by
      apply qrn_ge (hq _)
      rw [hD', Nat.mul_assoc, show (4503599627370496 : Nat) = 2 ^ 52 from rfl, ← Nat.pow_add, show (p' / q).log2 - 52 + 52 = (p' / q).log2 by omega]
      have hz : p' / q ≠ 0 := by
        intro z
        rw [z] at hL'
        simp at hL'
      have := Nat.mul_le_mul_left q (Nat.log2_self_le hz)
      exact Nat.le_trans this (Nat.mul_div_le _ _)
    have k3 : (qcut p q b - b + 1) * 4503599627370496 ≤ (qcut p' q b - b) * 4503599627370496 := Nat.mul_le_mul_right _ (by omega)
    rw [Nat.add_mul] at k3
    omega
  · have e : qcut p' q b = qcut p q b := by omega
    rw [e]
    have := qrn_mono (hq (qcut p q b)) h
    omega
theorem qrung_mono {p q p' q' : Nat} (b : Nat) (h0 : 0 < q) (h0' : 0 < q') (h : p * q' ≤ p' * q) : qrung p q b ≤ qrung p' q' b := by
  rw [← qrung_scale p q b q' h0', ← qrung_scale p' q' b q h0, Nat.mul_comm q' q]
  exact qrung_same b (Nat.mul_pos h0 h0') h
end Go.Proofs.Ytkmdbidjdppdnaa.Gv
