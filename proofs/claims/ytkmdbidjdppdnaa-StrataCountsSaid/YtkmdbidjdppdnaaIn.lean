/- floats, plain: words that are no NaN; the greater of two. -/
import Derived.Test.YtkmdbidjdppdnaaIa
namespace Go.Proofs.Ytkmdbidjdppdnaa.Gv
open Go.RowKit
def notNan (x : Nat) : Prop := (FloatKind.f64.format.read x).isNaN = false
theorem word_read (s : Bool) (r : Nat) (h : r ≤ 9218868437227405312) : notNan (FloatKind.f64.format.word s r) := by
  unfold notNan Ieee.Format.read Ieee.Format.word
  have hb : FloatKind.f64.format.binade = 4503599627370496 := rfl
  have hi : FloatKind.f64.format.infRung = 9218868437227405312 := rfl
  have hs : FloatKind.f64.format.signWeight = 9223372036854775808 := rfl
  simp only [hb, hi, hs]
  have h1 : (if s = true then 9223372036854775808 + r else r) % 9223372036854775808 = r := by split <;> omega
  rw [h1]
  split
  · rfl
  · split
    · rfl
    · rw [if_pos (by omega)]; rfl
theorem write_num (s : Bool) (m : Nat) (e : Int) : notNan (FloatKind.f64.format.write (.number s m e)) := by
  show notNan (FloatKind.f64.format.nearest s m e)
  unfold Ieee.Format.nearest
  split
  · exact word_read s 0 (by omega)
  · exact word_read s _ (Nat.min_le_right _ _)
theorem write_inf (s : Bool) : notNan (FloatKind.f64.format.write (.infinity s)) := word_read s _ (Nat.le_refl _)
theorem write_ok (d : Ieee.Datum) (h : d.isNaN = false) : notNan (FloatKind.f64.format.write d) := by
  cases d with
  | number s m e => exact write_num s m e
  | infinity s => exact write_inf s
  | nan => cases h
theorem read_one : FloatKind.f64.format.read 4607182418800017408 = .number false 4503599627370496 (-52) := by decide +kernel
theorem read_zero : FloatKind.f64.format.read 0 = .number false 0 (-1074) := by decide +kernel
theorem order_refl {v : Nat} (h : notNan v) : FloatKind.f64.format.order v v = some .eq := by
  unfold notNan at h
  unfold Ieee.Format.order
  cases e : FloatKind.f64.format.read v with
  | nan => rw [e] at h; cases h
  | infinity s => cases s <;> rfl
  | number s m i => simp [Ieee.Datum.order]
theorem order_not {a b : Nat} (ha : notNan a) (hb : notNan b) : FloatKind.f64.format.order a b ≠ none := by
  unfold notNan at ha hb
  unfold Ieee.Format.order
  cases e : FloatKind.f64.format.read a with
  | nan => rw [e] at ha; cases ha
  | infinity s =>
    cases e2 : FloatKind.f64.format.read b with
    | nan => rw [e2] at hb; cases hb
    | infinity t => simp [Ieee.Datum.order]
    | number t n j => simp [Ieee.Datum.order]
  | number s m i =>
    cases e2 : FloatKind.f64.format.read b with
    | nan => rw [e2] at hb; cases hb
    | infinity t => simp [Ieee.Datum.order]
    | number t n j => simp [Ieee.Datum.order]
/-- the greater of two -/
def fmax (a b : Nat) : Nat := match FloatKind.f64.format.order a b with
  | some .lt => b
  | some .gt => a
  | _ => if (FloatKind.f64.decode a).neg then b else a
theorem fmax_run {a b : Nat} (h : FloatKind.f64.format.order a b ≠ none) : Builtin.max2 (.float .f64 a) (.float .f64 b) = pure (.float .f64 (fmax a b)) := by
  cases e : FloatKind.f64.format.order a b with
  | none => exact absurd e h
  | some o => cases o <;> simp [Builtin.max2, fmax, e]
theorem fmax_not {a b : Nat} (ha : notNan a) (hb : notNan b) : notNan (fmax a b) := by
  unfold fmax
  split
  · exact hb
  · exact ha
  · split
    · exact hb
    · exact ha
theorem num_not {x : Nat} (h : isNum x = true) : notNan x := by
  unfold isNum at h
  unfold notNan
  cases e : FloatKind.f64.format.read x with
  | nan => rw [e] at h; cases h
  | infinity s => rfl
  | number s m i => rfl
theorem zero_not : notNan 0 := by
  unfold notNan
  rw [read_zero]
  rfl
def sb (x y : Nat) : Nat := (FloatKind.f64.format.sub x y).getD 0
theorem sub_ok {x y : Nat} (hx : isNum x = true) (hy : isNum y = true) : FloatKind.f64.format.sub x y = some (sb x y) ∧ notNan (sb x y) := by
  unfold isNum at hx hy
  unfold sb Ieee.Format.sub
  cases e : FloatKind.f64.format.read x with
  | nan => rw [e] at hx; cases hx
  | infinity s => rw [e] at hx; cases hx
  | number s m i =>
    cases e2 : FloatKind.f64.format.read y with
    | nan => rw [e2] at hy; cases hy
    | infinity s => rw [e2] at hy; cases hy
    | number t n j =>
      simp only [Ieee.Datum.opposite, Ieee.Datum.sum, Option.map_some, Option.getD_some]
      exact ⟨trivial, write_ok _ rfl⟩
end Go.Proofs.Ytkmdbidjdppdnaa.Gv
