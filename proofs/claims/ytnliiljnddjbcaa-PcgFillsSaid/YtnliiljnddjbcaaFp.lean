/- floats, plain: a whole number below 2 ^ 32, over 2 ^ 32. -/
import Derived.Test.YtnliiljnddjbcaaFo
namespace Go.Proofs.Ytnliiljnddjbcaa.Gv
theorem read_norm (q m : Nat) (h1 : 4503599627370496 ≤ m) (h2 : m < 9007199254740992) (hq : q ≤ 2000) : FloatKind.f64.format.read (q * 4503599627370496 + m) = .number false m (-1074 + (q : Int)) := by
  unfold Ieee.Format.read
  have hb : FloatKind.f64.format.binade = 4503599627370496 := rfl
  have hi : FloatKind.f64.format.infRung = 9218868437227405312 := rfl
  have hs : FloatKind.f64.format.signWeight = 9223372036854775808 := rfl
  have hl : FloatKind.f64.format.leastPlace = -1074 := rfl
  simp only [hb, hi, hs, hl]
  have e0 : (q * 4503599627370496 + m) % 9223372036854775808 = q * 4503599627370496 + m := Nat.mod_eq_of_lt (by omega)
  have e1 : (q * 4503599627370496 + m) / 9223372036854775808 % 2 = 0 := by omega
  have e2 : (q * 4503599627370496 + m) / 4503599627370496 - 1 = q := by omega
  have e3 : 4503599627370496 + (q * 4503599627370496 + m) % 4503599627370496 = m := by omega
  rw [e0, e1, if_neg (by omega), if_pos (by omega), e2, e3]
  rfl
theorem read_32 : FloatKind.f64.format.read 4751297606875873280 = .number false 4503599627370496 (-20) := by decide +kernel
theorem bnd (L m : Nat) (hL : L ≤ 31) (hm : m < 9007199254740992) : (L + 1022) * 4503599627370496 + m ≤ 9218868437227405312 ∧ (L + 990) * 4503599627370496 + m ≤ 9218868437227405312 ∧ (L + 990) * 4503599627370496 + m < 4607182418800017408 := by omega
set_option maxRecDepth 100000 in
theorem draw_pos (x : Nat) (h0 : x ≠ 0) (hx : x < 4294967296) : ∃ v, FloatKind.f64.format.div (FloatKind.f64.nearest (x : Int)) 4751297606875873280 = some v ∧ v < 4607182418800017408 := by
  obtain ⟨L, hL⟩ : ∃ L, x.log2 = L := ⟨_, rfl⟩
  have a1 : 2 ^ L ≤ x := by rw [← hL]; exact Nat.log2_self_le h0
  have a2 : x < 2 ^ (L + 1) := by rw [← hL]; exact Nat.lt_log2_self
  have hL31 : L ≤ 31 := by
    have := (Nat.log2_lt h0).mpr (show x < 2 ^ 32 from hx)
    omega
  obtain ⟨m, hm⟩ : ∃ m, x * 2 ^ (52 - L) = m := ⟨_, rfl⟩
  have b1 : 4503599627370496 ≤ m := by
    rw [← hm, show (4503599627370496 : Nat) = 2 ^ L * 2 ^ (52 - L) by rw [← Nat.pow_add, show L + (52 - L) = 52 by omega]]
    exact Nat.mul_le_mul_right _ a1
  have b2 : m < 9007199254740992 := by
    rw [← hm, show (9007199254740992 : Nat) = 2 ^ (L + 1) * 2 ^ (52 - L) by rw [← Nat.pow_add, show L + 1 + (52 - L) = 53 by omega]]
    exact Nat.mul_lt_mul_of_pos_right a2 (Nat.two_pow_pos _)
  have c1 : (L + 1022) * 4503599627370496 + m ≤ 9218868437227405312 := (bnd L m hL31 b2).1
  have c2 : (L + 990) * 4503599627370496 + m ≤ 9218868437227405312 := (bnd L m hL31 b2).2.1
  have c3 : (L + 990) * 4503599627370496 + m < 4607182418800017408 := (bnd L m hL31 b2).2.2
  have hF : FloatKind.f64.nearest (x : Int) = (L + 1022) * 4503599627370496 + m := by
    show FloatKind.f64.format.nearest (decide ((x : Int) < 0)) (x : Int).natAbs 0 = _
    rw [decide_eq_false (by omega), Int.natAbs_natCast, show (0 : Int) = -1074 + ((1074 : Nat) : Int) by omega, nearest_up]
    have e : x * 2 ^ 1074 = m * 2 ^ (L + 1022) := by rw [← hm, Nat.mul_assoc, ← Nat.pow_add, show 52 - L + (L + 1022) = 1074 by omega]
    rw [e, rung_of m (L + 1022) b2 (.inr b1)]
    exact Nat.min_eq_left c1
  have hlog : m.log2 = 52 := log2_of b1 b2
  refine ⟨(L + 990) * 4503599627370496 + m, ?_, c3⟩
  unfold Ieee.Format.div
  rw [hF, read_norm (L + 1022) m b1 b2 (by omega), read_32]
  have hf : FloatKind.f64.format.fractionBits = 52 := rfl
  have hl52 : (4503599627370496 : Nat).log2 = 52 := by decide
  simp only [Ieee.Datum.quotient, hf, hl52, hlog]
  rw [if_neg (by decide)]
  simp only [Option.map_some, Ieee.Format.write]
  have e1 : m <<< (52 + 2 + 52 - 52) / 4503599627370496 = m * 4 := by
    rw [Nat.shiftLeft_eq, show 2 ^ (52 + 2 + 52 - 52) = 4 * 4503599627370496 from rfl, ← Nat.mul_assoc, Nat.mul_div_cancel _ (by decide)]
  have e2 : m <<< (52 + 2 + 52 - 52) % 4503599627370496 = 0 := by
    rw [Nat.shiftLeft_eq, show 2 ^ (52 + 2 + 52 - 52) = 4 * 4503599627370496 from rfl, ← Nat.mul_assoc, Nat.mul_mod_left]
  rw [e1, e2]
  have e3 : (-1074 + ((L + 1022 : Nat) : Int) - -20 - ((52 + 2 + 52 - 52 : Nat) : Int) - 1) = -1074 + ((L + 987 : Nat) : Int) := by omega
  rw [e3]
  refine congrArg some ?_
  show FloatKind.f64.format.nearest false (2 * (m * 4) + 0) (-1074 + ((L + 987 : Nat) : Int)) = _
  rw [nearest_up, Nat.add_zero]
  have e4 : 2 * (m * 4) * 2 ^ (L + 987) = m * 2 ^ (L + 990) := by
    rw [show L + 990 = 3 + (L + 987) by omega, Nat.pow_add 2 3, ← Nat.mul_assoc m, show 2 * (m * 4) = m * 2 ^ 3 by omega]
  rw [e4, rung_of m (L + 990) b2 (.inr b1)]
  exact Nat.min_eq_left c2
theorem draw_ok (x : Nat) (hx : x < 4294967296) : ∃ v, FloatKind.f64.format.div (FloatKind.f64.nearest (x : Int)) 4751297606875873280 = some v ∧ v < 4607182418800017408 := by
  by_cases h0 : x = 0
  · subst h0
    exact ⟨0, by decide +kernel, by decide⟩
  · exact draw_pos x h0 hx
theorem draw_facts {v : Nat} (h : v < 4607182418800017408) : (FloatKind.f64.format.order v v == some .eq) = true ∧ (FloatKind.f64.format.order v 0 == some .lt) = false ∧ (FloatKind.f64.format.order v 4607182418800017408 == some .gt || FloatKind.f64.format.order v 4607182418800017408 == some .eq) = false := by
  rw [order_val v v (by omega) (by omega), order_val v 0 (by omega) (by decide), order_val v 4607182418800017408 (by omega) (by decide)]
  rw [if_neg (by omega), if_pos rfl, if_neg (by omega), if_pos h]
  refine ⟨rfl, ?_, rfl⟩
  split <;> rfl
end Go.Proofs.Ytnliiljnddjbcaa.Gv
