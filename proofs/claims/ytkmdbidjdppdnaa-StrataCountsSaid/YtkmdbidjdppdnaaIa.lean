/- floats: what is a number; the words of quotients, products and sums that are never negative. -/
import Derived.Test.YtkmdbidjdppdnaaFa
import Derived.Laws.FloatArith
import Derived.Laws.NewFold
namespace Go.Proofs.Ytkmdbidjdppdnaa.Gv
open Go.RowKit
theorem fmt_eq : FloatKind.f64.format = Ieee.double := rfl
def isNum (x : Nat) : Bool := match FloatKind.f64.format.read x with
  | .number .. => true
  | _ => false
theorem read_num {x m : Nat} {s : Bool} {e : Int} (h : FloatKind.f64.format.read x = .number s m e) : m < 9007199254740992 ∧ -1074 ≤ e ∧ e ≤ 971 := by
  unfold Ieee.Format.read at h
  have hb : FloatKind.f64.format.binade = 4503599627370496 := rfl
  have hi : FloatKind.f64.format.infRung = 2047 * 4503599627370496 := rfl
  have hl : FloatKind.f64.format.leastPlace = -1074 := rfl
  simp only [hb, hi, hl] at h
  generalize x % FloatKind.f64.format.signWeight = r at h
  generalize (x / FloatKind.f64.format.signWeight % 2 == 1) = z at h
  split at h
  · injection h with h1 h2 h3
    omega
  · split at h
    · injection h with h1 h2 h3
      rename_i c1 c2
      have hd : r / 4503599627370496 ≤ 2046 := by omega
      have hm := Nat.mod_lt r (show 0 < 4503599627370496 by decide)
      omega
    · split at h <;> cases h
theorem cmp_int (a b : Int) : compare a b = if a < b then .lt else if a = b then .eq else .gt := rfl
def MAXF : Nat := 9218868437227405311
def MINF : Nat := 18442240474082181119
theorem read_max : FloatKind.f64.format.read 9218868437227405311 = .number false 9007199254740991 971 := by decide +kernel
theorem read_min : FloatKind.f64.format.read 18442240474082181119 = .number true 9007199254740991 971 := by decide +kernel
theorem shl_ge (n k : Nat) : n ≤ n <<< k := by
  rw [Nat.shiftLeft_eq]
  exact Nat.le_mul_of_pos_right _ (Nat.two_pow_pos k)
theorem num_max {x : Nat} : ((FloatKind.f64.format.order x 18442240474082181119 == some .gt || FloatKind.f64.format.order x 18442240474082181119 == some .eq) && (FloatKind.f64.format.order x 9218868437227405311 == some .lt || FloatKind.f64.format.order x 9218868437227405311 == some .eq)) = isNum x := by
  unfold Ieee.Format.order isNum
  rw [read_max, read_min]
  cases h : FloatKind.f64.format.read x with
  | nan => simp [Ieee.Datum.order]
  | infinity s => cases s <;> simp [Ieee.Datum.order]
  | number s m e =>
    obtain ⟨h1, h2, h3⟩ := read_num h
    have hmin : min e 971 = e := by omega
    have hs := shl_ge 9007199254740991 (971 - e).toNat
    have hm0 : Ieee.signed s m 0 ≤ (m : Int) ∧ -(m : Int) ≤ Ieee.signed s m 0 := by
      cases s <;> simp [Ieee.signed] <;> omega
    simp only [Ieee.Datum.order, hmin, Int.sub_self, Int.toNat_zero, cmp_int, Ieee.signed, ↓reduceIte, Bool.false_eq_true] at hm0 ⊢
    generalize 9007199254740991 <<< (971 - e).toNat = u at hs ⊢
    generalize (if s = true then -((m <<< 0 : Nat) : Int) else ((m <<< 0 : Nat) : Int)) = z at hm0 ⊢
    by_cases c1 : z = (u : Int)
    · rw [if_neg (show ¬ z < -(u : Int) by omega), if_neg (show ¬ z < (u : Int) by omega), if_pos c1, if_neg (show ¬ z = -(u : Int) by omega)]
      rfl
    · rw [if_neg (show ¬ z < -(u : Int) by omega), if_pos (show z < (u : Int) by omega)]
      by_cases c2 : z = -(u : Int)
      · rw [if_pos c2]; rfl
      · rw [if_neg c2]; rfl
theorem sub_num {x : Nat} (h : isNum x = true) : FloatKind.f64.format.sub x x = some 0 := by
  unfold Ieee.Format.sub
  unfold isNum at h
  cases e : FloatKind.f64.format.read x with
  | nan => rw [e] at h; cases h
  | infinity s => rw [e] at h; cases h
  | number s m i => cases s <;> simp [Ieee.Datum.opposite, Ieee.Datum.sum, Ieee.signed, Ieee.Format.write, Ieee.Format.nearest, Ieee.Format.word, Int.add_right_neg, Int.add_left_neg]
theorem sub_not {x : Nat} (h : isNum x = false) : FloatKind.f64.format.sub x x = none := by
  unfold Ieee.Format.sub
  unfold isNum at h
  cases e : FloatKind.f64.format.read x with
  | nan => rfl
  | infinity s => cases s <;> rfl
  | number s m i => rw [e] at h; cases h
theorem nan_order (t : Nat) (b : Nat) : FloatKind.f64.format.order ((t % 2) * 2 ^ 63 + 0x7ff0000000000000 + 1 + (t / 2) % (2 ^ 52 - 1)) b = none := by
  have e : ∃ s f, FloatKind.f64.format.read ((t % 2) * 2 ^ 63 + 0x7ff0000000000000 + 1 + (t / 2) % (2 ^ 52 - 1)) = .nan s f := by
    unfold Ieee.Format.read
    have hb : FloatKind.f64.format.binade = 4503599627370496 := rfl
    have hi : FloatKind.f64.format.infRung = 2047 * 4503599627370496 := rfl
    have hs : FloatKind.f64.format.signWeight = 9223372036854775808 := rfl
    simp only [hb, hi, hs]
    have h1 := Nat.mod_lt (t / 2) (show 0 < 2 ^ 52 - 1 by decide)
    have h2 : t % 2 < 2 := Nat.mod_lt _ (by decide)
    generalize t % 2 = a at *
    generalize t / 2 % (2 ^ 52 - 1) = c at *
    have h3 : (a * 2 ^ 63 + 0x7ff0000000000000 + 1 + c) % 9223372036854775808 = 0x7ff0000000000000 + 1 + c := by omega
    rw [h3, if_neg (by omega), if_neg (by omega), if_neg (by omega)]
    exact ⟨_, _, rfl⟩
  obtain ⟨s, f, e⟩ := e
  unfold Ieee.Format.order
  rw [e]
  rfl
end Go.Proofs.Ytkmdbidjdppdnaa.Gv
