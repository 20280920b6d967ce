/- floats, plain: the greatest difference, reckoned in two ways. -/
import Derived.Test.YtncbomdngldhbaaFt
namespace Go.Proofs.Ytncbomdngldhbaa.Gv
theorem val_pos' {r : Nat} (h : 0 < r) : 0 < val r := by
  have := val_lt h
  omega
theorem read_inf : FloatKind.f64.format.read 9218868437227405312 = .infinity false := by decide +kernel
theorem order_le (r q : Nat) (h : r ≤ 9218868437227405312) (h' : q ≤ 9218868437227405312) : FloatKind.f64.format.order r q = some (if r < q then .lt else if r = q then .eq else .gt) := by
  rcases Nat.lt_or_ge r 9218868437227405312 with c | c
  · rcases Nat.lt_or_ge q 9218868437227405312 with d | d
    · exact order_val r q c d
    · have e : q = 9218868437227405312 := by omega
      obtain ⟨m, k, e1, -⟩ := read_val r c
      unfold Ieee.Format.order
      rw [e1, e, read_inf, if_pos c]
      rfl
  · have e : r = 9218868437227405312 := by omega
    rcases Nat.lt_or_ge q 9218868437227405312 with d | d
    · obtain ⟨m, k, e1, -⟩ := read_val q d
      unfold Ieee.Format.order
      rw [e1, e, read_inf, if_neg (by omega), if_neg (by omega)]
      rfl
    · have e2 : q = 9218868437227405312 := by omega
      rw [e, e2, if_neg (by omega), if_pos rfl]
      decide +kernel
/-- a word that is not below 0, and one that is not above it -/
theorem order_negw (r q : Nat) (h : r ≤ 9218868437227405312) (h' : q ≤ 9218868437227405312) : FloatKind.f64.format.order r (9223372036854775808 + q) = some (if r = 0 ∧ q = 0 then .eq else .gt) ∧ FloatKind.f64.format.order (9223372036854775808 + q) r = some (if r = 0 ∧ q = 0 then .eq else .lt) := by
  unfold Ieee.Format.order
  rw [read_negw q (by omega)]
  rcases Nat.lt_or_ge r 9218868437227405312 with c | c
  · obtain ⟨m, k, e1, v1⟩ := read_val r c
    have m0 : m = 0 ↔ r = 0 := by
      constructor
      · rintro rfl
        rcases Nat.eq_zero_or_pos r with z | z
        · exact z
        · have := val_pos' z
          rw [← v1, Nat.zero_mul] at this
          omega
      · rintro rfl
        have v0 : val 0 = 0 := rfl
        rw [v0] at v1
        rcases Nat.mul_eq_zero.mp v1 with z | z
        · exact z
        · have := Nat.two_pow_pos k
          omega
    rw [e1]
    rcases Nat.lt_or_ge q 9218868437227405312 with d | d
    · obtain ⟨n, j, e2, v2⟩ := read_val q d
      have n0 : n = 0 ↔ q = 0 := by
        constructor
        · rintro rfl
          rcases Nat.eq_zero_or_pos q with z | z
          · exact z
          · have := val_pos' z
            rw [← v2, Nat.zero_mul] at this
            omega
        · rintro rfl
          have v0 : val 0 = 0 := rfl
          rw [v0] at v2
          rcases Nat.mul_eq_zero.mp v2 with z | z
          · exact z
          · have := Nat.two_pow_pos j
            omega
      rw [e2]
      have g1 (x u : Nat) : x = 0 ↔ x <<< u = 0 := by
        rw [Nat.shiftLeft_eq]
        constructor
        · rintro rfl; rw [Nat.zero_mul]
        · intro z
          rcases Nat.mul_eq_zero.mp z with z | z
          · exact z
          · have := Nat.two_pow_pos u
            omega
      simp only [Ieee.Datum.opposite, Ieee.Datum.order, Ieee.signed, cmp_int, Bool.not_false, ↓reduceIte, Bool.false_eq_true]
      rw [Int.min_comm (-1074 + (j : Int)) (-1074 + (k : Int))]
      have a1 := g1 m (-1074 + (k : Int) - min (-1074 + (k : Int)) (-1074 + (j : Int))).toNat
      have a2 := g1 n (-1074 + (j : Int) - min (-1074 + (k : Int)) (-1074 + (j : Int))).toNat
      generalize m <<< (-1074 + (k : Int) - min (-1074 + (k : Int)) (-1074 + (j : Int))).toNat = u at *
      generalize n <<< (-1074 + (j : Int) - min (-1074 + (k : Int)) (-1074 + (j : Int))).toNat = v at *
      by_cases z : r = 0 ∧ q = 0
      · have z1 : u = 0 := by omega
        have z2 : v = 0 := by omega
        rw [if_pos z, if_pos z, z1, z2]
        exact ⟨rfl, rfl⟩
      · have z1 : ¬ (u = 0 ∧ v = 0) := by omega
        rw [if_neg z, if_neg z, if_neg (by omega), if_neg (by omega), if_pos (by omega)]
        exact ⟨rfl, rfl⟩
    · have e : q = 9218868437227405312 := by omega
      rw [e, read_inf, if_neg (by omega), if_neg (by omega)]
      exact ⟨rfl, rfl⟩
  · have e : r = 9218868437227405312 := by omega
    rw [e, read_inf, if_neg (by omega), if_neg (by omega)]
    rcases Nat.lt_or_ge q 9218868437227405312 with d | d
    · obtain ⟨n, j, e2, -⟩ := read_val q d
      rw [e2]
      exact ⟨rfl, rfl⟩
    · rw [show q = 9218868437227405312 by omega, read_inf]
      exact ⟨rfl, rfl⟩
theorem dec_neg (m : Nat) (h : m ≤ 9218868437227405312) : (FloatKind.f64.decode m).neg = false := by
  show (FloatKind.f64.format.read m).neg = false
  rcases Nat.lt_or_ge m 9218868437227405312 with c | c
  · obtain ⟨n, k, e, -⟩ := read_val m c
    rw [e]
    rfl
  · rw [show m = 9218868437227405312 by omega, read_inf]
    rfl
theorem fmax_le {m r : Nat} (hm : m ≤ 9218868437227405312) (hr : r ≤ 9218868437227405312) : fmax m r = if m < r then r else m := by
  unfold fmax
  rw [order_le m r hm hr]
  by_cases c : m < r
  · rw [if_pos c, if_pos c]
  · rw [if_neg c, if_neg c]
    by_cases d : m = r
    · rw [if_pos d]
      simp only [dec_neg m hm, Bool.false_eq_true, ↓reduceIte]
    · rw [if_neg d]
theorem fmax_negw {m q : Nat} (hm : m ≤ 9218868437227405312) (hq : q ≤ 9218868437227405312) : fmax m (9223372036854775808 + q) = m := by
  unfold fmax
  rw [(order_negw m q hm hq).1]
  by_cases d : m = 0 ∧ q = 0
  · rw [if_pos d]
    simp only [dec_neg m hm, Bool.false_eq_true, ↓reduceIte]
  · rw [if_neg d]
def flt (a b : Nat) : Bool := FloatKind.f64.format.order a b == some .lt
def fgt (a b : Nat) : Bool := FloatKind.f64.format.order a b == some .gt
/-- 0 less a word below 0 -/
theorem sub_zero_neg (r : Nat) (h : r ≤ 9218868437227405312) : FloatKind.f64.format.sub 0 (9223372036854775808 + r) = some r := by
  unfold Ieee.Format.sub
  rw [read_negw r (by omega), read_zero]
  rcases Nat.lt_or_ge r 9218868437227405312 with c | c
  · obtain ⟨m, k, e, v⟩ := read_val r c
    rw [e]
    simp only [Ieee.Datum.opposite, Bool.not_false, Bool.not_true, Ieee.Datum.sum, Option.map_some, Ieee.Format.write, Ieee.signed, Bool.false_eq_true, ↓reduceIte, Nat.zero_shiftLeft]
    refine congrArg some ?_
    have hmin : min (-1074 : Int) (-1074 + (k : Int)) = -1074 := by omega
    rw [hmin, show (-1074 + (k : Int) - -1074).toNat = k by omega, Nat.shiftLeft_eq, v]
    have hneg : (if ((0 : Nat) : Int) + ((val r : Nat) : Int) = 0 then (false && false) else decide (((0 : Nat) : Int) + ((val r : Nat) : Int) < 0)) = false := by
      split
      · rfl
      · exact decide_eq_false (by omega)
    rw [hneg, show (((0 : Nat) : Int) + ((val r : Nat) : Int)).natAbs = val r by omega]
    have h2 := nearest_rung (val r) 0
    rw [rung_val, show (-1074 : Int) - ((0 : Nat) : Int) = -1074 by omega] at h2
    rw [h2]
    omega
  · rw [show r = 9218868437227405312 by omega, read_inf]
    decide +kernel
theorem gt_if (r m : Nat) (hr : r ≤ 9218868437227405312) (hm : m ≤ 9218868437227405312) : (if (FloatKind.f64.format.order r m == some .gt) = true then r else m) = if m < r then r else m := by
  rw [order_le r m hr hm]
  by_cases d : r < m
  · rw [if_pos d, if_neg (show ¬ (some Ordering.lt == some Ordering.gt) = true by decide), if_neg (by omega)]
  · rw [if_neg d]
    by_cases e : r = m
    · rw [if_pos e, if_neg (show ¬ (some Ordering.eq == some Ordering.gt) = true by decide), if_neg (by omega)]
    · rw [if_neg e, if_pos (show (some Ordering.gt == some Ordering.gt) = true by decide), if_pos (by omega)]
theorem gt_nz (m : Nat) (hm : m ≤ 9218868437227405312) : (if (FloatKind.f64.format.order 9223372036854775808 m == some .gt) = true then 9223372036854775808 else m) = m := by
  have o4 := (order_negw m 0 hm (by omega)).2
  change FloatKind.f64.format.order 9223372036854775808 m = _ at o4
  rw [o4]
  by_cases c : m = 0 ∧ (0 : Nat) = 0
  · rw [if_pos c, if_neg (show ¬ (some Ordering.eq == some Ordering.gt) = true by decide)]
  · rw [if_neg c, if_neg (show ¬ (some Ordering.lt == some Ordering.gt) = true by decide)]
/-- how far, as the document reckons it -/
def dist (x y : Nat) : Nat := if flt (sb x y) 0 = true then (FloatKind.f64.format.sub 0 (sb x y)).getD 0 else sb x y
theorem dist_max {x y m : Nat} (hx : isNum x = true) (hy : isNum y = true) (hm : m ≤ 9218868437227405312) :
    fmax (fmax m (sb x y)) (sb y x) = (if fgt (dist x y) m = true then dist x y else m) ∧ fmax (fmax m (sb x y)) (sb y x) ≤ 9218868437227405312 ∧ (FloatKind.f64.format.order x y = some .eq → fmax (fmax m (sb x y)) (sb y x) = m) ∧ (FloatKind.f64.format.order x y ≠ some .eq → 1 ≤ fmax (fmax m (sb x y)) (sb y x)) ∧ m ≤ fmax (fmax m (sb x y)) (sb y x) := by
  have z0 : fmax m 0 = m := by
    rw [fmax_le hm (by omega), if_neg (by omega)]
  have z1 : fmax m 9223372036854775808 = m := fmax_negw (q := 0) hm (by omega)
  unfold dist flt fgt
  rcases sb_cases hx hy with ⟨⟨h1, h2⟩, ho⟩ | ⟨r, r0, r1, h1, h2, ho⟩ | ⟨r, r0, r1, h1, h2, ho⟩
  · have e1 : fmax m (sb x y) = m := by rcases h1 with h | h <;> rw [h] <;> assumption
    have e2 : fmax m (sb y x) = m := by rcases h2 with h | h <;> rw [h] <;> assumption
    rw [e1, e2]
    have o1 := order_le 0 0 (by omega) (by omega)
    have o2 := (order_negw 0 0 (by omega) (by omega)).2
    rw [if_neg (by omega), if_pos rfl] at o1
    rw [if_pos ⟨rfl, rfl⟩] at o2
    change FloatKind.f64.format.order 9223372036854775808 0 = some .eq at o2
    refine ⟨?_, hm, fun _ => rfl, fun h => absurd ho h, Nat.le_refl _⟩
    rcases h1 with h | h
    · rw [h, o1, if_neg (show ¬ (some Ordering.eq == some Ordering.lt) = true by decide), gt_if 0 m (by omega) hm, if_neg (by omega)]
    · rw [h, o2, if_neg (show ¬ (some Ordering.eq == some Ordering.lt) = true by decide), gt_nz m hm]
  · rw [h1, h2]
    have o1 := order_le r 0 r1 (by omega)
    rw [if_neg (by omega), if_neg (by omega)] at o1
    have f1 := fmax_le hm r1
    have hle : fmax m r ≤ 9218868437227405312 := by rw [f1]; split <;> omega
    rw [fmax_negw hle r1, o1, if_neg (show ¬ (some Ordering.gt == some Ordering.lt) = true by decide), gt_if r m r1 hm]
    exact ⟨f1, hle, fun h => (by rw [ho] at h; cases h), fun _ => (by rw [f1]; split <;> omega), (by rw [f1]; split <;> omega)⟩
  · rw [h1, h2, fmax_negw hm r1]
    have o1 := (order_negw 0 r (by omega) r1).2
    rw [if_neg (by omega)] at o1
    have f1 := fmax_le hm r1
    rw [o1, if_pos (show (some Ordering.lt == some Ordering.lt) = true by decide), sub_zero_neg r r1, Option.getD_some, gt_if r m r1 hm]
    exact ⟨f1, (by rw [f1]; split <;> omega), fun h => (by rw [ho] at h; cases h), fun _ => (by rw [f1]; split <;> omega), (by rw [f1]; split <;> omega)⟩
end Go.Proofs.Ytncbomdngldhbaa.Gv
