/- chapter 36, plain: one throw. -/
import Derived.Test.YtgkncmnkbhgjmaaPm
import Derived.Test.YtgkncmnkbhgjmaaGct
namespace Go.Proofs.Ytgkncmnkbhgjmaa.Pure
open Go.RowKit Go.Proofs.Ytgkncmnkbhgjmaa.X Go.Proofs.YtgkncmnkbhgjmaaW.PrintWords Go.Proofs.YtgkncmnkbhgjmaaW.PrintLast
theorem pw_pow {b : Int} (h0 : 0 ≤ b) (h1 : b ≤ 1024) : ∀ (k : Nat) (n : Int), k ≤ 4 → 0 ≤ n → n * 1024 ^ k ≤ 9223372036854775807 → Gv.pw b k n = n * b ^ k
  | 0, n, _, _, _ => by rw [Gv.pw, Int.pow_zero, Int.mul_one]
  | k + 1, n, hk, hn, hb => by
    have a1 : 0 ≤ n * b := Int.mul_nonneg hn h0
    have a2 : n * b ≤ n * 1024 := Int.mul_le_mul_of_nonneg_left h1 hn
    have p1 : (1 : Int) ≤ 1024 ^ k := by
      have : (0 : Int) < 1024 ^ k := Int.pow_pos (by decide)
      omega
    have e : n * 1024 ^ (k + 1) = n * 1024 * 1024 ^ k := by rw [Int.pow_succ, Int.mul_comm (1024 ^ k), Int.mul_assoc]
    rw [e] at hb
    have a3 : n * 1024 * 1 ≤ n * 1024 * 1024 ^ k := Int.mul_le_mul_of_nonneg_left p1 (by omega)
    have a4 : n * b * 1024 ^ k ≤ n * 1024 * 1024 ^ k := Int.mul_le_mul_of_nonneg_right a2 (by omega)
    have w : wrap64 (n * b) = n * b := wfit _ a1 (by omega)
    rw [Gv.pw, w, pw_pow h0 h1 k (n * b) (by omega) a1 (by omega), Int.pow_succ, Int.mul_assoc, Int.mul_comm b]
end Go.Proofs.Ytgkncmnkbhgjmaa.Pure
