/- floats, plain: differences of numbers. -/
import Derived.Test.YtncbomdngldhbaaIn
import Derived.Test.YtncbomdngldhbaaFo
namespace Go.Proofs.Ytncbomdngldhbaa.Gv
theorem nearest_neg (N : Nat) (P : Int) : FloatKind.f64.format.nearest true N P = 9223372036854775808 + FloatKind.f64.format.nearest false N P := by
  unfold Ieee.Format.nearest
  have hs : FloatKind.f64.format.signWeight = 9223372036854775808 := rfl
  by_cases h : N = 0
  · rw [if_pos h, if_pos h]
    simp only [Ieee.Format.word, hs, ↓reduceIte, Bool.false_eq_true]
  · rw [if_neg h, if_neg h]
    simp only [cut_rnd, Ieee.Format.word, hs, ↓reduceIte, Bool.false_eq_true]
theorem nearest_pos (N : Nat) (P : Int) (hN : N ≠ 0) (hP : -1074 ≤ P) : 1 ≤ FloatKind.f64.format.nearest false N P ∧ FloatKind.f64.format.nearest false N P ≤ 9218868437227405312 := by
  obtain ⟨s, hs⟩ := Int.eq_ofNat_of_zero_le (show 0 ≤ P + 1074 by omega)
  have e : P = -1074 + (s : Int) := by omega
  rw [e, nearest_up]
  have h1 : 1 ≤ rung (N * 2 ^ s) 0 := by
    have hm := rung_mono 0 (show 1 ≤ N * 2 ^ s from Nat.mul_pos (by omega) (Nat.two_pow_pos s))
    have h2 := rung_of 1 0 (by decide) (.inl rfl)
    rw [Nat.pow_zero, Nat.mul_one] at h2
    omega
  omega
theorem read_negw (r : Nat) (h : r < 9223372036854775808) : FloatKind.f64.format.read (9223372036854775808 + r) = (FloatKind.f64.format.read r).opposite := by
  unfold Ieee.Format.read
  have hs : FloatKind.f64.format.signWeight = 9223372036854775808 := rfl
  simp only [hs]
  have e1 : (9223372036854775808 + r) % 9223372036854775808 = r := by omega
  have e2 : (9223372036854775808 + r) / 9223372036854775808 % 2 = 1 := by omega
  have e3 : r % 9223372036854775808 = r := by omega
  have e4 : r / 9223372036854775808 % 2 = 0 := by omega
  rw [e1, e2, e3, e4]
  split
  · rfl
  · split
    · rfl
    · split <;> rfl
/-- x - y and y - x: both a zero, or a word above 0 and the same one below 0 -/
theorem sb_cases {x y : Nat} (hx : isNum x = true) (hy : isNum y = true) : (((sb x y = 0 ∨ sb x y = 9223372036854775808) ∧ (sb y x = 0 ∨ sb y x = 9223372036854775808)) ∧ FloatKind.f64.format.order x y = some .eq) ∨ (∃ r, 1 ≤ r ∧ r ≤ 9218868437227405312 ∧ sb x y = r ∧ sb y x = 9223372036854775808 + r ∧ FloatKind.f64.format.order x y = some .gt) ∨ (∃ r, 1 ≤ r ∧ r ≤ 9218868437227405312 ∧ sb x y = 9223372036854775808 + r ∧ sb y x = r ∧ FloatKind.f64.format.order x y = some .lt) := by
  unfold isNum at hx hy
  unfold sb Ieee.Format.sub Ieee.Format.order
  cases e : FloatKind.f64.format.read x with
  | nan => rw [e] at hx; cases hx
  | infinity s => rw [e] at hx; cases hx
  | number s m i =>
    cases e2 : FloatKind.f64.format.read y with
    | nan => rw [e2] at hy; cases hy
    | infinity s => rw [e2] at hy; cases hy
    | number t n j =>
      obtain ⟨-, hi, -⟩ := read_num e
      obtain ⟨-, hj, -⟩ := read_num e2
      simp only [Ieee.Datum.opposite, Ieee.Datum.sum, Ieee.Datum.order, Option.map_some, Option.getD_some, Ieee.Format.write, cmp_int]
      rw [Int.min_comm j i]
      have opp (b : Bool) (q u : Nat) : Ieee.signed (!b) q u = -Ieee.signed b q u := by cases b <;> simp [Ieee.signed]
      rw [opp, opp]
      generalize Ieee.signed s m (i - min i j).toNat = X
      generalize Ieee.signed t n (j - min i j).toNat = Y
      have hP : -1074 ≤ min i j := by omega
      generalize min i j = P at *
      by_cases c : X = Y
      · left
        subst c
        rw [if_pos (show X + -X = 0 by omega), if_neg (show ¬ X < X by omega), if_pos rfl]
        have z (b : Bool) : FloatKind.f64.format.nearest b (X + -X).natAbs P = 0 ∨ FloatKind.f64.format.nearest b (X + -X).natAbs P = 9223372036854775808 := by
          have hs : FloatKind.f64.format.signWeight = 9223372036854775808 := rfl
          unfold Ieee.Format.nearest
          rw [if_pos (by omega)]
          cases b
          · left; simp [Ieee.Format.word]
          · right; simp [Ieee.Format.word, hs]
        exact ⟨⟨z _, z _⟩, rfl⟩
      · right
        rw [if_neg (show ¬ X + -Y = 0 by omega), if_neg (show ¬ Y + -X = 0 by omega)]
        have eabs : (Y + -X).natAbs = (X + -Y).natAbs := by omega
        rw [eabs]
        obtain ⟨r0, r1⟩ := nearest_pos (X + -Y).natAbs P (by omega) hP
        by_cases d : X < Y
        · right
          rw [decide_eq_true (show X + -Y < 0 by omega), decide_eq_false (show ¬ (Y + -X < 0) by omega), nearest_neg, if_pos d]
          exact ⟨_, r0, r1, rfl, rfl, rfl⟩
        · left
          rw [decide_eq_false (show ¬ (X + -Y < 0) by omega), decide_eq_true (show Y + -X < 0 by omega), nearest_neg, if_neg d, if_neg c]
          exact ⟨_, r0, r1, rfl, rfl, rfl⟩
end Go.Proofs.Ytncbomdngldhbaa.Gv
