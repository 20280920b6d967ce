/- floats, plain: rounding keeps order. -/
import Derived.Test.YtkmdbidjdppdnaaIa
namespace Go.Proofs.Ytkmdbidjdppdnaa.Gv
/-! how a number is rounded -/
/-- n / 2 ^ D to the nearest, between two the even one -/
def rnd (n D : Nat) : Nat := n / 2 ^ D + (decide (2 ^ D < 2 * (n % 2 ^ D)) || (2 ^ D == 2 * (n % 2 ^ D) && n / 2 ^ D % 2 == 1)).toNat
theorem cut_rnd (s : Bool) (n D : Nat) : Ieee.Toward.even.cut s n D = rnd n D := by
  unfold Ieee.Toward.cut rnd
  by_cases c : D ≤ n.log2 + 2
  · rw [Nat.min_eq_left c, Nat.shiftLeft_eq, Nat.one_mul]
  · rw [Nat.min_eq_right (by omega), Nat.shiftLeft_eq, Nat.one_mul]
    have h1 : n < 2 ^ (n.log2 + 1) := Nat.lt_log2_self
    have h2 : 2 ^ (n.log2 + 2) = 2 * 2 ^ (n.log2 + 1) := by rw [Nat.pow_succ, Nat.mul_comm]
    have h3 : 2 ^ (n.log2 + 2) ≤ 2 ^ D := Nat.pow_le_pow_right (by decide) (by omega)
    generalize 2 ^ (n.log2 + 2) = g at *
    generalize 2 ^ D = h at *
    show n / g + (decide (g < 2 * (n % g)) || (g == 2 * (n % g) && n / g % 2 == 1)).toNat = _
    rw [Nat.div_eq_of_lt (show n < g by omega), Nat.div_eq_of_lt (show n < h by omega), Nat.mod_eq_of_lt (show n < g by omega), Nat.mod_eq_of_lt (show n < h by omega)]
    simp only [Nat.zero_add, Nat.zero_mod, Nat.reduceBEq, Bool.and_false, Bool.or_false]
    rw [decide_eq_false (show ¬ g < 2 * n by omega), decide_eq_false (show ¬ h < 2 * n by omega)]
/-- what is rounded is at most half a unit away -/
theorem rnd_near (n D : Nat) : 2 ^ D * (2 * rnd n D) ≤ 2 * n + 2 ^ D ∧ 2 * n ≤ 2 ^ D * (2 * rnd n D) + 2 ^ D := by
  have h := Nat.div_add_mod n (2 ^ D)
  have hl := Nat.mod_lt n (Nat.two_pow_pos D)
  unfold rnd
  generalize n / 2 ^ D = q at *
  generalize n % 2 ^ D = r at *
  generalize 2 ^ D = g at *
  cases hb : (decide (g < 2 * r) || (g == 2 * r && q % 2 == 1)) with
  | true =>
    have : g ≤ 2 * r := by
      simp at hb
      omega
    simp only [Bool.toNat_true]
    rw [show 2 * (q + 1) = 2 * q + 2 by omega, Nat.mul_add, Nat.mul_left_comm]
    omega
  | false =>
    have : 2 * r ≤ g := by
      simp at hb
      omega
    simp only [Bool.toNat_false, Nat.add_zero]
    rw [Nat.mul_left_comm]
    omega
theorem rnd_mono {n n' : Nat} (D : Nat) (h : n ≤ n') : rnd n D ≤ rnd n' D := by
  rcases Nat.lt_or_ge n n' with c | c
  · rcases Nat.lt_or_ge (rnd n' D) (rnd n D) with d | d
    · exfalso
      have h1 := (rnd_near n D).1
      have h2 := (rnd_near n' D).2
      have h3 : 2 ^ D * (2 * rnd n' D + 2) ≤ 2 ^ D * (2 * rnd n D) := Nat.mul_le_mul_left _ (by omega)
      rw [Nat.mul_add] at h3
      omega
    · exact d
  · have : n = n' := by omega
    subst this
    exact Nat.le_refl _
theorem rnd_ge {n D k : Nat} (h : 2 ^ D * k ≤ n) : k ≤ rnd n D := by
  have h1 : k ≤ n / 2 ^ D := by
    rw [Nat.le_div_iff_mul_le (Nat.two_pow_pos D), Nat.mul_comm]
    exact h
  unfold rnd
  omega
theorem rnd_le {n D k : Nat} (h : n ≤ 2 ^ D * k) : rnd n D ≤ k := by
  have h2 := (rnd_near n D).1
  rcases Nat.lt_or_ge k (rnd n D) with d | d
  · exfalso
    have h3 : 2 ^ D * (2 * k + 2) ≤ 2 ^ D * (2 * rnd n D) := Nat.mul_le_mul_left _ (by omega)
    rw [Nat.mul_add, Nat.mul_left_comm] at h3
    have := Nat.two_pow_pos D
    omega
  · exact d
theorem rnd_exact (k D : Nat) : rnd (k * 2 ^ D) D = k := Nat.le_antisymm (rnd_le (by rw [Nat.mul_comm]; exact Nat.le_refl _)) (rnd_ge (by rw [Nat.mul_comm]; exact Nat.le_refl _))
/-! the rung of N * 2 ^ (-1074 - b) -/
def cutAt (N b : Nat) : Nat := max (N.log2 - 52) b
def rung (N b : Nat) : Nat := (cutAt N b - b) * 4503599627370496 + rnd N (cutAt N b)
theorem nearest_rung (N b : Nat) : FloatKind.f64.format.nearest false N (-1074 - (b : Int)) = min (rung N b) 9218868437227405312 := by
  unfold Ieee.Format.nearest
  have hl : FloatKind.f64.format.leastPlace = -1074 := rfl
  have hf : FloatKind.f64.format.fractionBits = 52 := rfl
  have hb : FloatKind.f64.format.binade = 4503599627370496 := rfl
  have hi : FloatKind.f64.format.infRung = 9218868437227405312 := rfl
  by_cases h0 : N = 0
  · subst h0
    rw [if_pos rfl]
    unfold rung cutAt
    rw [show (Nat.log2 0 - 52) = 0 from rfl, Nat.zero_max, Nat.sub_self, Nat.zero_mul, Nat.zero_add]
    have h1 : rnd 0 b = 0 := Nat.le_antisymm (rnd_le (by omega)) (Nat.zero_le _)
    rw [h1, Nat.zero_min]
    simp only [Ieee.Format.word, Bool.false_eq_true, ↓reduceIte]
  · rw [if_neg h0, hl, hf, hb, hi]
    have e1 : max (-1074 - (b : Int) + (N.log2 : Int) - (52 : Nat)) (-1074) = -1074 - (b : Int) + (cutAt N b : Int) := by
      unfold cutAt
      omega
    rw [e1]
    simp only [cut_rnd]
    have e2 : (-1074 - (b : Int) - (-1074 - (b : Int) + (cutAt N b : Int))).toNat = 0 := by omega
    have e3 : (-1074 - (b : Int) + (cutAt N b : Int) - (-1074 - (b : Int))).toNat = cutAt N b := by omega
    have e4 : (-1074 - (b : Int) + (cutAt N b : Int) - -1074).toNat = cutAt N b - b := by omega
    rw [e2, e3, e4, Nat.shiftLeft_zero]
    unfold rung
    simp only [Ieee.Format.word, Bool.false_eq_true, ↓reduceIte]
theorem rung_mono {N N' : Nat} (b : Nat) (h : N ≤ N') : rung N b ≤ rung N' b := by
  by_cases h0 : N = 0
  · subst h0
    have h1 : rnd 0 b = 0 := Nat.le_antisymm (rnd_le (by omega)) (Nat.zero_le _)
    have e : rung 0 b = 0 := by
      unfold rung cutAt
      rw [show (Nat.log2 0 - 52) = 0 from rfl, Nat.zero_max, Nat.sub_self, Nat.zero_mul, Nat.zero_add, h1]
    omega
  · have h1 : N.log2 ≤ N'.log2 := by
      rw [Nat.le_log2 (by omega)]
      exact Nat.le_trans (Nat.log2_self_le h0) h
    have hN : N < 2 ^ (N.log2 + 1) := Nat.lt_log2_self
    have hN' : 2 ^ N'.log2 ≤ N' := Nat.log2_self_le (by omega)
    unfold rung
    have hc : cutAt N b ≤ cutAt N' b := by unfold cutAt; omega
    have hb : b ≤ cutAt N b := by unfold cutAt; omega
    rcases Nat.lt_or_ge (cutAt N b) (cutAt N' b) with c | c
    · have hD' : cutAt N' b = N'.log2 - 52 := by unfold cutAt at c ⊢; omega
      have hL' : 52 ≤ N'.log2 := by unfold cutAt at c hD'; omega
      have hL : N.log2 + 1 ≤ cutAt N b + 53 := by unfold cutAt; omega
      have k1 : rnd N (cutAt N b) ≤ 9007199254740992 := by
        apply rnd_le
        refine Nat.le_of_lt (Nat.lt_of_lt_of_le hN ?_)
        rw [show (9007199254740992 : Nat) = 2 ^ 53 from rfl, ← Nat.pow_add]
        exact Nat.pow_le_pow_right (by decide) hL
      have k2 : 4503599627370496 ≤ rnd N' (cutAt N' b) := by
        apply rnd_ge
        rw [hD', show (4503599627370496 : Nat) = 2 ^ 52 from rfl, ← Nat.pow_add, show N'.log2 - 52 + 52 = N'.log2 by omega]
        exact hN'
      have k3 : (cutAt N b - b + 1) * 4503599627370496 ≤ (cutAt N' b - b) * 4503599627370496 := Nat.mul_le_mul_right _ (by omega)
      rw [Nat.add_mul] at k3
      omega
    · have e : cutAt N' b = cutAt N b := by omega
      rw [e]
      have := rnd_mono (cutAt N b) h
      omega
theorem rnd_shift (n D k : Nat) : rnd (n * 2 ^ k) (D + k) = rnd n D := by
  unfold rnd
  have hk := Nat.two_pow_pos k
  have e1 : n * 2 ^ k / 2 ^ (D + k) = n / 2 ^ D := by rw [Nat.pow_add, Nat.mul_div_mul_right _ _ hk]
  have e2 : n * 2 ^ k % 2 ^ (D + k) = n % 2 ^ D * 2 ^ k := by rw [Nat.pow_add, Nat.mul_mod_mul_right]
  rw [e1, e2, Nat.pow_add, ← Nat.mul_assoc]
  congr 2
  · congr 1
    · rw [decide_eq_decide]
      exact Nat.mul_lt_mul_right hk
    · congr 1
      rw [Bool.eq_iff_iff, beq_iff_eq, beq_iff_eq]
      exact Nat.mul_left_inj (by omega)
theorem log2_shift {n : Nat} (h : n ≠ 0) (k : Nat) : (n * 2 ^ k).log2 = n.log2 + k := by
  have hk := Nat.two_pow_pos k
  have h1 : n * 2 ^ k ≠ 0 := Nat.mul_ne_zero h (by omega)
  refine Nat.le_antisymm ?_ ?_
  · have : n * 2 ^ k < 2 ^ (n.log2 + 1 + k) := by
      rw [Nat.pow_add]
      exact Nat.mul_lt_mul_of_pos_right Nat.lt_log2_self hk
    have := (Nat.log2_lt h1).mpr this
    omega
  · rw [Nat.le_log2 h1, Nat.pow_add]
    exact Nat.mul_le_mul_right _ (Nat.log2_self_le h)
theorem rung_shift (N b k : Nat) : rung (N * 2 ^ k) (b + k) = rung N b := by
  by_cases h0 : N = 0
  · subst h0
    have h1 (D : Nat) : rnd 0 D = 0 := Nat.le_antisymm (rnd_le (by omega)) (Nat.zero_le _)
    unfold rung cutAt
    rw [Nat.zero_mul, show (Nat.log2 0 - 52) = 0 from rfl, Nat.zero_max, Nat.zero_max, Nat.sub_self, Nat.sub_self, h1, h1]
  · have e : cutAt (N * 2 ^ k) (b + k) = cutAt N b + k := by
      unfold cutAt
      rw [log2_shift h0]
      omega
    unfold rung
    rw [e, rnd_shift, show cutAt N b + k - (b + k) = cutAt N b - b by omega]
end Go.Proofs.Ytkmdbidjdppdnaa.Gv
