/- floats, plain: what sums, products and quotients of words are. -/
import Derived.Test.YtkmdbidjdppdnaaFq
namespace Go.Proofs.Ytkmdbidjdppdnaa.Gv
theorem nearest_gen (S B s : Nat) (P : Int) (h : P = -1074 + (s : Int) - (B : Int)) : FloatKind.f64.format.nearest false S P = min (rung (S * 2 ^ s) B) 9218868437227405312 := by
  by_cases c : B ≤ s
  · have e : P = -1074 + ((s - B : Nat) : Int) := by omega
    rw [e, nearest_up, ← rung_shift (S * 2 ^ (s - B)) 0 B, Nat.zero_add, Nat.mul_assoc, ← Nat.pow_add, show s - B + B = s by omega]
  · have e : P = -1074 - ((B - s : Nat) : Int) := by omega
    rw [e, nearest_rung, ← rung_shift S (B - s) s, show B - s + s = B by omega]
theorem log2_quot (p q k : Nat) (h0 : 0 < q) (h : 1 ≤ p / q) : (p * 2 ^ k / q).log2 = (p / q).log2 + k := by
  have hz : p / q ≠ 0 := by omega
  have a1 := Nat.log2_self_le hz
  have a2 : p / q < 2 ^ ((p / q).log2 + 1) := Nat.lt_log2_self
  have hk := Nat.two_pow_pos k
  generalize (p / q).log2 = L at *
  rw [Nat.le_div_iff_mul_le h0] at a1
  rw [Nat.div_lt_iff_lt_mul h0] at a2
  apply log2_of
  · rw [Nat.le_div_iff_mul_le h0, Nat.pow_add, Nat.mul_right_comm]
    exact Nat.mul_le_mul_right _ a1
  · rw [Nat.div_lt_iff_lt_mul h0, show L + k + 1 = L + 1 + k by omega, Nat.pow_add 2 (L + 1), Nat.mul_right_comm]
    exact Nat.mul_lt_mul_of_pos_right a2 hk
theorem sticky_rung (p q s B : Nat) (h0 : 0 < q) (h : 9007199254740992 ≤ p / q) : rung ((2 * (p / q) + (p % q != 0).toNat) * 2 ^ s) B = qrung (p * 2 ^ (s + 1)) q B := by
  have hst : (p % q != 0).toNat ≤ 1 := by cases (p % q != 0) <;> simp
  have hz : p / q ≠ 0 := by omega
  have hlog : (2 * (p / q) + (p % q != 0).toNat).log2 = (p / q).log2 + 1 := by
    have a1 := Nat.log2_self_le hz
    have a2 : p / q < 2 ^ ((p / q).log2 + 1) := Nat.lt_log2_self
    apply log2_of
    · rw [Nat.pow_succ]; omega
    · rw [Nat.pow_succ _ ((p / q).log2 + 1)]; omega
  have hL : 53 ≤ (p / q).log2 := (Nat.le_log2 hz).mpr h
  have hc : cutAt ((2 * (p / q) + (p % q != 0).toNat) * 2 ^ s) B = max ((p / q).log2 + 1 + s - 52) B := by
    unfold cutAt
    rw [log2_shift (by omega), hlog]
  have hq : qcut (p * 2 ^ (s + 1)) q B = max ((p / q).log2 + 1 + s - 52) B := by
    unfold qcut
    rw [log2_quot p q (s + 1) h0 (by omega)]
    omega
  unfold rung qrung
  rw [hc, hq]
  obtain ⟨D, hD⟩ : ∃ D, max ((p / q).log2 + 1 + s - 52) B = D + 2 + s := ⟨max ((p / q).log2 + 1 + s - 52) B - 2 - s, by omega⟩
  rw [hD, rnd_shift, sticky p q D h0, ← qrn_scale p (q * 2 ^ (D + 1)) (2 ^ (s + 1)) (Nat.two_pow_pos _), Nat.mul_assoc q, ← Nat.pow_add, show D + 1 + (s + 1) = D + 2 + s by omega]
theorem qrung_zero (q B : Nat) (h : 0 < q) : qrung 0 q B = 0 := by
  unfold qrung qcut
  rw [Nat.zero_div, show Nat.log2 0 - 52 = 0 from rfl, Nat.zero_max, Nat.sub_self, Nat.zero_mul, Nat.zero_add]
  exact Nat.le_antisymm (qrn_le (Nat.mul_pos h (Nat.two_pow_pos _)) (by omega)) (Nat.zero_le _)
theorem quot_word (m n k l : Nat) (hm0 : m ≠ 0) (hn0 : n ≠ 0) (hm : m < 9007199254740992) (hn : n < 9007199254740992) (hk : k ≤ 2045) (hl : l ≤ 2045) (e : Nat) (he : (e : Int) = (k : Int) - (l : Int) + 3074) :
    ((Ieee.Datum.number false m (-1074 + (k : Int))).quotient 54 (Ieee.Datum.number false n (-1074 + (l : Int)))).map FloatKind.f64.format.write = some (min (qrung (m * 2 ^ e) n 2000) 9218868437227405312) := by
  have lm : m.log2 ≤ 52 := by have := (Nat.log2_lt hm0).mpr (show m < 2 ^ 53 from hm); omega
  have ln : n.log2 ≤ 52 := by have := (Nat.log2_lt hn0).mpr (show n < 2 ^ 53 from hn); omega
  simp only [Ieee.Datum.quotient]
  rw [if_neg hn0]
  obtain ⟨more, hmore⟩ : ∃ more, 54 + n.log2 - m.log2 = more := ⟨_, rfl⟩
  rw [hmore]
  simp only [Option.map_some]
  refine congrArg some ?_
  rw [Nat.shiftLeft_eq]
  have hn' : 0 < n := by omega
  have hF : 9007199254740992 ≤ m * 2 ^ more / n := by
    rw [Nat.le_div_iff_mul_le hn']
    have a1 : 2 ^ m.log2 * 2 ^ more ≤ m * 2 ^ more := Nat.mul_le_mul_right _ (Nat.log2_self_le hm0)
    rw [← Nat.pow_add, show m.log2 + more = 53 + (n.log2 + 1) by omega, Nat.pow_add 2 53] at a1
    have a2 : n < 2 ^ (n.log2 + 1) := Nat.lt_log2_self
    have a3 : 2 ^ 53 * n ≤ 2 ^ 53 * 2 ^ (n.log2 + 1) := Nat.mul_le_mul_left _ (Nat.le_of_lt a2)
    exact Nat.le_trans a3 a1
  show FloatKind.f64.format.nearest false (2 * (m * 2 ^ more / n) + (m * 2 ^ more % n != 0).toNat) (-1074 + (k : Int) - (-1074 + (l : Int)) - (more : Int) - 1) = _
  obtain ⟨s, hs⟩ : ∃ s : Nat, e = more + (s + 1) := ⟨e - more - 1, by omega⟩
  rw [nearest_gen _ 2000 s _ (by omega), sticky_rung _ _ _ _ hn' hF, Nat.mul_assoc, ← Nat.pow_add, ← hs]
theorem read_val2 (r : Nat) (h : r < 9218868437227405312) : ∃ (m : Nat) (k : Nat), FloatKind.f64.format.read r = .number false m (-1074 + (k : Int)) ∧ m * 2 ^ k = val r ∧ m < 9007199254740992 ∧ k ≤ 2045 := by
  obtain ⟨m, k, h1, h2⟩ := read_val r h
  obtain ⟨a, b, c⟩ := read_num h1
  exact ⟨m, k, h1, h2, a, by omega⟩
theorem val_pos {r : Nat} (h : 0 < r) : 0 < val r := by
  have := val_lt h
  omega
/-- 2 to the power of 3074 -/
def Pex : Nat := 3074
def Psc : Nat := 2 ^ Pex
theorem psc (k n : Nat) (h : n = k + Pex) : 2 ^ n = 2 ^ k * Psc := by rw [h, Nat.pow_add]; rfl
theorem div_word (x y r q : Nat) (hx : FloatKind.f64.format.read x = FloatKind.f64.format.read r) (hy : FloatKind.f64.format.read y = FloatKind.f64.format.read q) (h : r < 9218868437227405312) (hq0 : 0 < q) (hq : q < 9218868437227405312) :
    FloatKind.f64.format.div x y = some (min (qrung (val r * Psc) (val q) 2000) 9218868437227405312) := by
  obtain ⟨m, k, e1, v1, m1, k1⟩ := read_val2 r h
  obtain ⟨n, l, e2, v2, n1, l1⟩ := read_val2 q hq
  have hvq := val_pos hq0
  have hn0 : n ≠ 0 := by
    rintro rfl
    rw [Nat.zero_mul] at v2
    omega
  unfold Ieee.Format.div
  rw [hx, hy, e1, e2]
  have hf : FloatKind.f64.format.fractionBits + 2 = 54 := rfl
  rw [hf]
  by_cases hm0 : m = 0
  · subst hm0
    rw [Nat.zero_mul] at v1
    rw [← v1, Nat.zero_mul, qrung_zero _ _ hvq, Nat.zero_min]
    simp only [Ieee.Datum.quotient]
    rw [if_neg hn0]
    simp [Ieee.Format.write, Ieee.Format.nearest, Ieee.Format.word]
  · obtain ⟨e, he⟩ : ∃ e : Nat, (e : Int) = (k : Int) - (l : Int) + 3074 := ⟨((k : Int) - (l : Int) + 3074).toNat, by omega⟩
    rw [quot_word m n k l hm0 hn0 m1 n1 k1 l1 e he, ← qrung_scale (m * 2 ^ e) n 2000 (2 ^ l) (Nat.two_pow_pos _), v2, Nat.mul_assoc, ← Nat.pow_add, psc k (e + l) (by show e + l = k + 3074; omega), ← Nat.mul_assoc, v1]
theorem mul_word (r q : Nat) (h : r < 9218868437227405312) (hq : q < 9218868437227405312) : FloatKind.f64.format.mul r q = some (min (rung (val r * val q) 1074) 9218868437227405312) := by
  obtain ⟨m, k, e1, v1, m1, k1⟩ := read_val2 r h
  obtain ⟨n, l, e2, v2, n1, l1⟩ := read_val2 q hq
  unfold Ieee.Format.mul
  rw [e1, e2]
  simp only [Ieee.Datum.product, Option.map_some]
  refine congrArg some ?_
  show FloatKind.f64.format.nearest false (m * n) (-1074 + (k : Int) + (-1074 + (l : Int))) = _
  rw [nearest_gen _ 1074 (k + l) _ (by omega), ← v1, ← v2, Nat.pow_add]
  congr 2
  rw [Nat.mul_assoc, Nat.mul_assoc, Nat.mul_left_comm n]
theorem add_word (r q : Nat) (h : r < 9218868437227405312) (hq : q < 9218868437227405312) : FloatKind.f64.format.add r q = some (min (rung (val r + val q) 0) 9218868437227405312) := by
  obtain ⟨m, k, e1, v1, m1, k1⟩ := read_val2 r h
  obtain ⟨n, l, e2, v2, n1, l1⟩ := read_val2 q hq
  unfold Ieee.Format.add
  rw [e1, e2]
  have hmin : min (-1074 + (k : Int)) (-1074 + (l : Int)) = -1074 + ((min k l : Nat) : Int) := by omega
  have a1 : (-1074 + (k : Int) - (-1074 + ((min k l : Nat) : Int))).toNat = k - min k l := by omega
  have a2 : (-1074 + (l : Int) - (-1074 + ((min k l : Nat) : Int))).toNat = l - min k l := by omega
  simp only [Ieee.Datum.sum, hmin, a1, a2, Option.map_some, Ieee.signed, Bool.false_eq_true, ↓reduceIte, Nat.shiftLeft_eq, Bool.and_self]
  refine congrArg some ?_
  have b1 : m * 2 ^ (k - min k l) * 2 ^ (min k l) = val r := by rw [Nat.mul_assoc, ← Nat.pow_add, show k - min k l + min k l = k by omega]; exact v1
  have b2 : n * 2 ^ (l - min k l) * 2 ^ (min k l) = val q := by rw [Nat.mul_assoc, ← Nat.pow_add, show l - min k l + min k l = l by omega]; exact v2
  rw [← b1, ← b2, ← Nat.add_mul]
  generalize m * 2 ^ (k - min k l) = x
  generalize n * 2 ^ (l - min k l) = y
  have hneg : (if ((x : Nat) : Int) + ((y : Nat) : Int) = 0 then false else decide (((x : Nat) : Int) + ((y : Nat) : Int) < 0)) = false := by
    split
    · rfl
    · exact decide_eq_false (by omega)
  have habs : (((x : Nat) : Int) + ((y : Nat) : Int)).natAbs = x + y := by omega
  rw [hneg, habs]
  exact nearest_up (x + y) (min k l)
end Go.Proofs.Ytkmdbidjdppdnaa.Gv
