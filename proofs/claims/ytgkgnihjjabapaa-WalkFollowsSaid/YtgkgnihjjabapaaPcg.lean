/- The same rest modulo the prime. Plain. -/
import Derived.Test.YtgkgnihjjabapaaZb
import Derived.Test.YtgkgnihjjabapaaKa
namespace Go.Proofs.Ytgkgnihjjabapaa.Pq
open Go.RowKit Pl Gv Pa
/-- the same rest -/
def Cg (a b : Int) : Prop := of a = of b
theorem Cg.refl (a : Int) : Cg a a := Eq.refl _
theorem Cg.symm {a b : Int} (h : Cg a b) : Cg b a := Eq.symm h
theorem Cg.trans {a b c : Int} (h : Cg a b) (k : Cg b c) : Cg a c := Eq.trans h k
theorem Cg.add {a b c d : Int} (h : Cg a b) (k : Cg c d) : Cg (a + c) (b + d) := by
  unfold Cg at *
  rw [← of_add, h, k, of_add]
theorem Cg.sub {a b c d : Int} (h : Cg a b) (k : Cg c d) : Cg (a - c) (b - d) := by
  unfold Cg at *
  rw [← of_sub, h, k, of_sub]
theorem Cg.mul {a b c d : Int} (h : Cg a b) (k : Cg c d) : Cg (a * c) (b * d) := by
  unfold Cg at *
  rw [← of_mul, h, k, of_mul]
theorem Cg.of' (a : Int) : Cg (of a) a := of_of a
theorem Cg.eq {a b : Int} (h : a = b) : Cg a b := by rw [h]; exact Cg.refl _
theorem Cg.sm {n : Nat} {f g : Nat → Int} (h : ∀ k, k < n → Cg (f k) (g k)) : Cg (sm n f) (sm n g) := of_sm_congr h
/-- a quotient, times what it was divided by -/
theorem ovr_mul {x a : Int} (h : of a ≠ 0) : Cg (a * ovr x a) x := by
  unfold ovr
  rw [if_neg h]
  have h1 : Cg (invP a * a) 1 := by unfold Cg; rw [invP_mul a h]; rfl
  refine ((Cg.refl a).mul (Cg.of' _)).trans ?_
  refine (Cg.eq (show a * (x * invP a) = x * (invP a * a) by grind)).trans ?_
  refine ((Cg.refl x).mul h1).trans (Cg.eq (by grind))
theorem zero_of {a : Int} (h : of a = 0) : Cg a 0 := by unfold Cg; rw [h]; rfl
end Go.Proofs.Ytgkgnihjjabapaa.Pq
