/- Numbers modulo the prime 2147483647, over Int: plain, no program. -/
import Derived.RowKit
namespace Go.Proofs.Ytpjfelbamcgnhaa.Pl
open Go.RowKit

/-- a number's rest -/
def of (n : Int) : Int := n % 2147483647
theorem of_nonneg (n : Int) : 0 ≤ of n := by unfold of; omega
theorem of_lt (n : Int) : of n < 2147483647 := by unfold of; omega
theorem of_of (n : Int) : of (of n) = of n := by unfold of; omega
theorem of_id {n : Int} (h0 : 0 ≤ n) (h1 : n < 2147483647) : of n = n := by unfold of; omega
theorem of_eq (n : Int) : ∃ k, of n = n - 2147483647 * k := ⟨n / 2147483647, by unfold of; omega⟩
theorem of_congr {a b : Int} (k : Int) (h : a = b + 2147483647 * k) : of a = of b := by
  unfold of; rw [h]; exact Int.add_mul_emod_self_left b 2147483647 k
theorem of_add (a b : Int) : of (of a + of b) = of (a + b) := by unfold of; exact (Int.add_emod a b _).symm
theorem of_add_left (a b : Int) : of (of a + b) = of (a + b) := by unfold of; omega
theorem of_add_right (a b : Int) : of (a + of b) = of (a + b) := by unfold of; omega
theorem of_sub (a b : Int) : of (of a - of b) = of (a - b) := by unfold of; exact (Int.sub_emod a b _).symm
theorem of_sub_left (a b : Int) : of (of a - b) = of (a - b) := by unfold of; omega
theorem of_sub_right (a b : Int) : of (a - of b) = of (a - b) := by unfold of; omega
theorem of_mul (a b : Int) : of (of a * of b) = of (a * b) := by unfold of; exact (Int.mul_emod a b _).symm
theorem of_mul_left (a b : Int) : of (of a * b) = of (a * b) := by rw [← of_mul (of a) b, of_of, of_mul]
theorem of_mul_right (a b : Int) : of (a * of b) = of (a * b) := by rw [← of_mul a (of b), of_of, of_mul]
theorem of_neg (a : Int) : of (- of a) = of (-a) := by unfold of; omega
theorem of_zero : of 0 = 0 := by decide
theorem of_one : of 1 = 1 := by decide
theorem of_wf (n : Int) : -9223372036854775808 ≤ of n ∧ of n ≤ 9223372036854775807 := by unfold of; omega
theorem mul_bound (a b : Int) : 0 ≤ of a * of b ∧ of a * of b ≤ 4611686009837453316 := by
  have ha0 := of_nonneg a; have ha1 := of_lt a; have hb0 := of_nonneg b; have hb1 := of_lt b
  refine ⟨Int.mul_nonneg ha0 hb0, ?_⟩
  have : of a * of b ≤ 2147483646 * 2147483646 := Int.mul_le_mul (by omega) (by omega) hb0 (by omega)
  omega
theorem wrap_of (n : Int) : wrap64 (of n) = of n := by have := of_wf n; unfold wrap64; omega

/-- the sum of a list, taken as it goes -/
def suml (l : List Int) : Int := of (l.foldl (· + ·) 0)
def prodl' (l : List Int) : Int := of (l.foldl (· * ·) 1)
/-- the same, round by round -/
def sumTo (l : List Int) (k : Nat) : Int := (l.take k).foldl (fun s x => of (s + of x)) 0
def prodTo (l : List Int) (k : Nat) : Int := (l.take k).foldl (fun s x => of (s * of x)) 1

theorem sumTo_zero (l : List Int) : sumTo l 0 = 0 := by simp [sumTo]
theorem prodTo_zero (l : List Int) : prodTo l 0 = 1 := by simp [prodTo]
theorem take_snoc (l : List Int) (k : Nat) (h : k < l.length) : l.take (k + 1) = l.take k ++ [l.getD k 0] := by
  rw [List.take_succ_eq_append_getElem h, List.getD_eq_getElem?_getD, List.getElem?_eq_getElem h]; rfl
theorem sumTo_succ (l : List Int) (k : Nat) (h : k < l.length) : sumTo l (k + 1) = of (sumTo l k + of (l.getD k 0)) := by
  unfold sumTo; rw [take_snoc l k h, List.foldl_append]; rfl
theorem prodTo_succ (l : List Int) (k : Nat) (h : k < l.length) : prodTo l (k + 1) = of (prodTo l k * of (l.getD k 0)) := by
  unfold prodTo; rw [take_snoc l k h, List.foldl_append]; rfl
theorem foldl_sum_of (l : List Int) : ∀ s t : Int, of s = of t → of (l.foldl (fun s x => of (s + of x)) s) = of (l.foldl (· + ·) t) := by
  induction l with
  | nil => intro s t h; exact h
  | cons x l ih =>
    intro s t h
    refine ih _ _ ?_
    rw [of_of, of_add_right, ← of_add_left, h, of_add_left]
theorem foldl_prod_of (l : List Int) : ∀ s t : Int, of s = of t → of (l.foldl (fun s x => of (s * of x)) s) = of (l.foldl (· * ·) t) := by
  induction l with
  | nil => intro s t h; exact h
  | cons x l ih =>
    intro s t h
    refine ih _ _ ?_
    rw [of_of, of_mul_right, ← of_mul_left, h, of_mul_left]
theorem sumTo_range (l : List Int) (k : Nat) : 0 ≤ sumTo l k ∧ sumTo l k < 2147483647 := by
  have key : ∀ (m : List Int) (s : Int), 0 ≤ s ∧ s < 2147483647 → 0 ≤ m.foldl (fun s x => of (s + of x)) s ∧ m.foldl (fun s x => of (s + of x)) s < 2147483647 := by
    intro m
    induction m with
    | nil => intro s h; exact h
    | cons x m ih => intro s _; exact ih _ ⟨of_nonneg _, of_lt _⟩
  exact key _ 0 (by decide)
theorem prodTo_range (l : List Int) (k : Nat) : 0 ≤ prodTo l k ∧ prodTo l k < 2147483647 := by
  have key : ∀ (m : List Int) (s : Int), 0 ≤ s ∧ s < 2147483647 → 0 ≤ m.foldl (fun s x => of (s * of x)) s ∧ m.foldl (fun s x => of (s * of x)) s < 2147483647 := by
    intro m
    induction m with
    | nil => intro s h; exact h
    | cons x m ih => intro s _; exact ih _ ⟨of_nonneg _, of_lt _⟩
  exact key _ 1 (by decide)
theorem sumTo_all (l : List Int) : sumTo l l.length = suml l := by
  have h := sumTo_range l l.length
  rw [← of_id h.1 h.2]
  unfold sumTo suml
  rw [List.take_length]
  exact foldl_sum_of l 0 0 rfl
theorem prodTo_all (l : List Int) : prodTo l l.length = prodl' l := by
  have h := prodTo_range l l.length
  rw [← of_id h.1 h.2]
  unfold prodTo prodl'
  rw [List.take_length]
  exact foldl_prod_of l 1 1 rfl

/-- Go's remainder, and what is put right -/
theorem of_go (n : Int) : (if Int.tmod n 2147483647 < 0 then Int.tmod n 2147483647 + 2147483647 else Int.tmod n 2147483647) = of n := by
  unfold of
  rw [Int.tmod_eq_emod]
  split <;> split at * <;> omega
theorem tmod_range (n : Int) : -2147483647 < Int.tmod n 2147483647 ∧ Int.tmod n 2147483647 < 2147483647 := by
  rw [Int.tmod_eq_emod]
  split <;> omega
end Go.Proofs.Ytpjfelbamcgnhaa.Pl
