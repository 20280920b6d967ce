/- Draws laid in parts, and the part a number lies in: words of floats, plain. -/
import Derived.Test.YtkmdbidjdppdnaaFr
import Derived.Test.YtkmdbidjdppdnaaIn
import Derived.Laws.Cover2
namespace Go.Proofs.Ytkmdbidjdppdnaa.Gv
set_option linter.unusedVariables false
set_option linter.unusedSimpArgs false
def fge (a b : Nat) : Bool := FloatKind.f64.format.order a b == some .gt || FloatKind.f64.format.order a b == some .eq
def flt (a b : Nat) : Bool := FloatKind.f64.format.order a b == some .lt
def feq (a b : Nat) : Bool := FloatKind.f64.format.order a b == some .eq
/-- what a draw counts as -/
def cleanF (b : Nat) : Nat := if fge b 0 = true ∧ flt b 4607182418800017408 = true then b else 0
def cleanR (b : Nat) : Nat := if flt b 0 = true ∨ fge b 4607182418800017408 = true ∨ feq b b = false then 0 else b
def atF (xs : List Nat) (i : Int) : Nat := if 0 ≤ i ∧ i < xs.length then cleanF (xs.getD i.toNat 0) else 0
/-- 2 to the power of 1074 -/
def Uex : Nat := 1074
def U : Nat := 2 ^ Uex
theorem U_pos : 0 < U := Nat.two_pow_pos _
def fI (i : Nat) : Nat := floatOfInt .f64 (i : Int)
def ad (x y : Nat) : Nat := (FloatKind.f64.format.add x y).getD 0
def dv (x y : Nat) : Nat := (FloatKind.f64.format.div x y).getD 0
def ml (x y : Nat) : Nat := (FloatKind.f64.format.mul x y).getD 0
theorem fI_tab : ∀ i, i < 66 → fI i < 9218868437227405312 ∧ val (fI i) = i * U := by decide +kernel
theorem fI_pos : ∀ i, i < 66 → 1 ≤ i → 0 < fI i := by decide +kernel
theorem fI_neg : ∀ i, i < 66 → FloatKind.f64.format.add (fI i) 9223372036854775808 = some (fI i) := by decide +kernel
theorem fI_mneg : ∀ i, i < 66 → FloatKind.f64.format.mul (fI i) 9223372036854775808 = some 9223372036854775808 := by decide +kernel
theorem fI_rung {i : Nat} (h : i < 66) : fI i = rung (i * U) 0 := by rw [← (fI_tab i h).2, rung_val]
theorem notNan_le {x : Nat} (h : x ≤ 9218868437227405312) : notNan x := by
  by_cases c : x < 9218868437227405312
  · obtain ⟨m, k, h1, _⟩ := read_val x c
    unfold notNan
    rw [h1]
    rfl
  · obtain rfl : x = 9218868437227405312 := by omega
    unfold notNan
    decide +kernel
/-- a clean draw -/
def Cln (u r : Nat) : Prop := r < 4607182418800017408 ∧ (FloatKind.f64.format.read u = FloatKind.f64.format.read r ∨ r = 0 ∧ FloatKind.f64.format.read u = FloatKind.f64.format.read 9223372036854775808)
theorem val_one : val 4607182418800017408 = U := by decide +kernel
theorem cln_zero : Cln 0 0 := ⟨by decide, Or.inl rfl⟩
theorem read_mod (b : Nat) (h : b / 9223372036854775808 % 2 = 0) : FloatKind.f64.format.read b = FloatKind.f64.format.read (b % 9223372036854775808) := by
  unfold Ieee.Format.read
  have hs : FloatKind.f64.format.signWeight = 9223372036854775808 := rfl
  simp only [hs]
  rw [h, Nat.mod_mod, Nat.div_eq_of_lt (Nat.mod_lt _ (by decide))]
theorem cln_of (b : Nat) : ∃ r, Cln (cleanF b) r := by
  unfold cleanF
  split
  · rename_i h
    obtain ⟨h0, h1⟩ := h
    by_cases s : b / 9223372036854775808 % 2 = 0
    · have hm := read_mod b s
      have hlt : b % 9223372036854775808 < 9223372036854775808 := Nat.mod_lt _ (by decide)
      generalize b % 9223372036854775808 = r at hm hlt
      refine ⟨r, ?_, Or.inl hm⟩
      unfold flt at h1
      unfold Ieee.Format.order at h1
      rw [hm] at h1
      by_cases c : r < 9218868437227405312
      · have h2 := order_val r 4607182418800017408 c (by decide)
        unfold Ieee.Format.order at h2
        rw [h2] at h1
        by_cases d : r < 4607182418800017408
        · exact d
        · rw [if_neg d] at h1
          split at h1 <;> exact absurd h1 (by decide)
      · exfalso
        have hr : ∃ d : Ieee.Datum, FloatKind.f64.format.read r = d ∧ (d = .infinity false ∨ d.isNaN = true) := by
          refine ⟨_, rfl, ?_⟩
          unfold Ieee.Format.read
          have hb : FloatKind.f64.format.binade = 4503599627370496 := rfl
          have hi : FloatKind.f64.format.infRung = 9218868437227405312 := rfl
          have hs : FloatKind.f64.format.signWeight = 9223372036854775808 := rfl
          simp only [hb, hi, hs]
          rw [Nat.mod_eq_of_lt hlt, Nat.div_eq_of_lt hlt, if_neg (by omega), if_neg c]
          split
          · exact Or.inl rfl
          · exact Or.inr rfl
        obtain ⟨d, hd, hd2⟩ := hr
        rw [hd] at h1
        obtain ⟨m, k, e1, _⟩ := read_val 4607182418800017408 (by decide)
        rw [e1] at h1
        rcases hd2 with rfl | hn
        · exact absurd h1 (by simp [Ieee.Datum.order])
        · cases d with
          | nan => exact absurd h1 (by simp [Ieee.Datum.order])
          | infinity => cases hn
          | number => cases hn
    · -- a sign: only 0 is no less than 0
      refine ⟨0, by decide, Or.inr ⟨rfl, ?_⟩⟩
      have s1 : b / 9223372036854775808 % 2 = 1 := by omega
      unfold fge Ieee.Format.order at h0
      have r0 : FloatKind.f64.format.read 0 = .number false 0 (-1074) := read_zero
      rw [r0] at h0
      have rn : FloatKind.f64.format.read 9223372036854775808 = .number true 0 (-1074) := by decide +kernel
      rw [rn]
      revert h0
      unfold Ieee.Format.read
      have hb : FloatKind.f64.format.binade = 4503599627370496 := rfl
      have hi : FloatKind.f64.format.infRung = 9218868437227405312 := rfl
      have hs : FloatKind.f64.format.signWeight = 9223372036854775808 := rfl
      have hl : FloatKind.f64.format.leastPlace = -1074 := rfl
      simp only [hb, hi, hs, hl]
      rw [s1]
      generalize b % 9223372036854775808 = r
      intro h0
      by_cases c : r < 4503599627370496
      · rw [if_pos c] at h0 ⊢
        by_cases z : r = 0
        · rw [z]; rfl
        · exfalso
          revert h0
          simp only [Ieee.Datum.order, Ieee.signed, cmp_int]
          have e : (min (-1074 : Int) (-1074)) = -1074 := by omega
          rw [e]
          simp only [Int.sub_self, Int.toNat_zero, Nat.shiftLeft_zero]
          have : 0 < r := by omega
          simp [this]
      · rw [if_neg c] at h0 ⊢
        exfalso
        by_cases d : r < 9218868437227405312
        · rw [if_pos d] at h0
          revert h0
          simp only [Ieee.Datum.order, Ieee.signed, cmp_int]
          generalize hq : (4503599627370496 + r % 4503599627370496) <<< _ = q
          have hq0 : 4503599627370496 + r % 4503599627370496 ≤ q := by rw [← hq]; exact shl_ge _ _
          have : 0 < q := by omega
          simp [this]
        · rw [if_neg d] at h0
          split at h0
          · exact absurd h0 (by simp [Ieee.Datum.order])
          · exact absurd h0 (by simp [Ieee.Datum.order])
  · exact ⟨0, cln_zero⟩

/-- a sum of a whole number and a clean draw -/
theorem sum_ok {i u r : Nat} (hi : i < 65) (h : Cln u r) : FloatKind.f64.format.add (fI i) u = some (rung (i * U + val r) 0) ∧ fI i ≤ rung (i * U + val r) 0 ∧ rung (i * U + val r) 0 ≤ fI (i + 1) := by
  obtain ⟨h1, h2⟩ := h
  have hv : val r < U := by rw [← val_one]; exact val_lt h1
  have hlo : fI i ≤ rung (i * U + val r) 0 := by rw [fI_rung (show i < 66 by omega)]; exact rung_mono 0 (Nat.le_add_right _ _)
  have hhi : rung (i * U + val r) 0 ≤ fI (i + 1) := by rw [fI_rung (show i + 1 < 66 by omega), Nat.add_mul, Nat.one_mul]; exact rung_mono 0 (by omega)
  refine ⟨?_, hlo, hhi⟩
  have hb := (fI_tab (i + 1) (by omega)).1
  rcases h2 with h2 | ⟨rfl, h2⟩
  · have e : FloatKind.f64.format.add (fI i) u = FloatKind.f64.format.add (fI i) r := by unfold Ieee.Format.add; rw [h2]
    rw [e, add_word _ _ (fI_tab i (by omega)).1 (by omega), (fI_tab i (by omega)).2, Nat.min_eq_left (by omega)]
  · have e : FloatKind.f64.format.add (fI i) u = FloatKind.f64.format.add (fI i) 9223372036854775808 := by unfold Ieee.Format.add; rw [h2]
    have v0 : val 0 = 0 := by decide
    rw [e, fI_neg i (by omega), v0, Nat.add_zero, ← fI_rung (show i < 66 by omega)]
theorem div_ok {s n : Nat} (hs : s < 9218868437227405312) (h1 : 1 ≤ n) (h2 : n < 66) : FloatKind.f64.format.div s (fI n) = some (min (qrung (val s * Psc) (n * U) 2000) 9218868437227405312) := by
  rw [div_word s (fI n) s (fI n) rfl rfl hs (fI_pos n h2 h1) (fI_tab n h2).1, (fI_tab n h2).2]
/-- a draw in its part -/
def xw (n i u : Nat) : Nat := dv (ad (fI i) u) (fI n)
def yw (n i : Nat) : Nat := dv (fI i) (fI n)
def layW (n i u : Nat) : Nat := if flt (xw n i u) (yw n (i + 1)) = true then xw n i u else yw n i
theorem ad_ok {i u r : Nat} (hi : i < 65) (h : Cln u r) : FloatKind.f64.format.add (fI i) u = some (ad (fI i) u) ∧ ad (fI i) u < 9218868437227405312 ∧ fI i ≤ ad (fI i) u ∧ ad (fI i) u ≤ fI (i + 1) := by
  obtain ⟨h1, h2, h3⟩ := sum_ok hi h
  have e : ad (fI i) u = rung (i * U + val r) 0 := by unfold ad; rw [h1, Option.getD_some]
  rw [e]
  exact ⟨h1, by have := (fI_tab (i + 1) (by omega)).1; omega, h2, h3⟩
theorem dv_ok {s n : Nat} (hs : s < 9218868437227405312) (h1 : 1 ≤ n) (h2 : n < 66) : FloatKind.f64.format.div s (fI n) = some (dv s (fI n)) ∧ dv s (fI n) = min (qrung (val s * Psc) (n * U) 2000) 9218868437227405312 := by
  have h := div_ok hs h1 h2
  have e : dv s (fI n) = min (qrung (val s * Psc) (n * U) 2000) 9218868437227405312 := by unfold dv; rw [h, Option.getD_some]
  exact ⟨by rw [e]; exact h, e⟩
theorem dv_le {s n : Nat} (hs : s < 9218868437227405312) (h1 : 1 ≤ n) (h2 : n < 66) : dv s (fI n) ≤ 9218868437227405312 := by rw [(dv_ok hs h1 h2).2]; exact Nat.min_le_right _ _
theorem val_mono {a b : Nat} (h : a ≤ b) : val a ≤ val b := by
  rcases Nat.lt_or_eq_of_le h with c | c
  · exact Nat.le_of_lt (val_lt c)
  · rw [c]; exact Nat.le_refl _
theorem dv_mono {s s' n : Nat} (hs : s ≤ s') (hs' : s' < 9218868437227405312) (h1 : 1 ≤ n) (h2 : n < 66) : dv s (fI n) ≤ dv s' (fI n) := by
  rw [(dv_ok (Nat.lt_of_le_of_lt hs hs') h1 h2).2, (dv_ok hs' h1 h2).2]
  have h := qrung_same 2000 (Nat.mul_pos h1 U_pos) (Nat.mul_le_mul_right Psc (val_mono hs))
  generalize qrung (val s * Psc) (n * U) 2000 = a at *
  generalize qrung (val s' * Psc) (n * U) 2000 = b at *
  omega
theorem lay_not {n i u r : Nat} (h1 : 1 ≤ n) (h2 : n < 66) (hi : i < 65) (h : Cln u r) : notNan (xw n i u) ∧ notNan (yw n (i + 1)) ∧ notNan (yw n i) := by
  obtain ⟨a1, a2, a3, a4⟩ := ad_ok hi h
  exact ⟨notNan_le (dv_le a2 h1 h2), notNan_le (dv_le (fI_tab _ (by omega)).1 h1 h2), notNan_le (dv_le (fI_tab _ (by omega)).1 h1 h2)⟩
theorem layW_not {n i u r : Nat} (h1 : 1 ≤ n) (h2 : n < 66) (hi : i < 65) (h : Cln u r) : notNan (layW n i u) := by
  obtain ⟨a, b, c⟩ := lay_not h1 h2 hi h
  unfold layW
  split
  · exact a
  · exact c
/-- not less: no less -/
theorem ge_of {a b : Nat} (ha : notNan a) (hb : notNan b) (h : flt a b = false) : fge a b = true := by
  have ho := order_not ha hb
  unfold flt at h
  unfold fge
  cases ho' : FloatKind.f64.format.order a b with
  | none => exact absurd ho' ho
  | some o =>
    rw [ho'] at h
    cases o with
    | lt => exact absurd h (by decide)
    | eq => decide
    | gt => decide
theorem ge_not {a b : Nat} (h : flt a b = true) : fge a b = false := by
  unfold flt at h
  unfold fge
  rw [beq_iff_eq] at h
  rw [h]
  decide
/-- the word cut to a whole number -/
theorem cut_val {p : Nat} (h : p < 9218868437227405312) (hb : val p / U ≤ 1000000) : floatToIntVal .f64 p .i64 = some ((val p / U : Nat) : Int) := by
  obtain ⟨m, k, h1, h2⟩ := read_val p h
  have e : (FloatKind.f64.decode p).toInt .zero = some ((val p / U : Nat) : Int) := by
    show Ieee.Datum.toInt .zero (FloatKind.f64.format.read p) = _
    rw [h1]
    unfold Ieee.Datum.toInt Ieee.Datum.integral
    simp only [Ieee.signed, Nat.shiftLeft_zero, Bool.false_eq_true, ↓reduceIte, Int.toNat_zero]
    refine congrArg some (congrArg Int.ofNat ?_)
    rw [← h2]
    unfold U
    by_cases c : 1074 ≤ k
    · have e1 : (-1074 + (k : Int)).toNat = k - 1074 := by omega
      have e2 : (-(-1074 + (k : Int))).toNat = 0 := by omega
      rw [e1, e2]
      have e3 : m * 2 ^ k = m * 2 ^ (k - 1074) * 2 ^ Uex := by rw [Nat.mul_assoc, ← Nat.pow_add, show k - 1074 + Uex = k by show k - 1074 + 1074 = k; omega]
      rw [e3, Nat.mul_div_cancel _ (Nat.two_pow_pos _), Nat.shiftLeft_eq]
      simp [Ieee.Toward.cut]
    · have e1 : (-1074 + (k : Int)).toNat = 0 := by omega
      have e2 : (-(-1074 + (k : Int))).toNat = 1074 - k := by omega
      rw [e1, e2, Nat.shiftLeft_zero]
      have e3 : (2 : Nat) ^ Uex = 2 ^ (1074 - k) * 2 ^ k := by rw [← Nat.pow_add, show 1074 - k + k = Uex by show 1074 - k + k = 1074; omega]
      rw [e3, Nat.mul_div_mul_right _ _ (Nat.two_pow_pos _)]
      have e4 : Ieee.Toward.zero.cut false m (1074 - k) = m / 1 <<< min (1074 - k) (m.log2 + 2) := by simp [Ieee.Toward.cut]
      rw [e4, Nat.one_shiftLeft]
      by_cases d : 1074 - k ≤ m.log2 + 2
      · rw [Nat.min_eq_left d]
      · have hm : m < 2 ^ (m.log2 + 1) := Nat.lt_log2_self
        rw [Nat.min_eq_right (by omega), Nat.div_eq_of_lt (Nat.lt_of_lt_of_le hm (Nat.pow_le_pow_right (by decide) (by omega))), Nat.div_eq_of_lt (Nat.lt_of_lt_of_le hm (Nat.pow_le_pow_right (by decide) (by omega)))]
  unfold floatToIntVal
  rw [e]
  have hmin : IntKind.i64.min = -9223372036854775808 := by decide
  have hmax : IntKind.i64.max = 9223372036854775807 := by decide
  simp only [hmin, hmax]
  generalize val p / U = q at *
  rw [if_pos (by omega)]
/-- in which of n parts a number lies, before the last one is laid -/
def cellV (n x : Nat) : Int := (floatToIntVal .f64 (ml (fI n) (cleanF x)) .i64).getD 0
theorem ml_word {n r : Nat} (hn : n < 66) (hr : r < 9218868437227405312) : FloatKind.f64.format.mul (fI n) r = some (min (rung (n * val r) 0) 9218868437227405312) := by
  rw [mul_word _ _ (fI_tab n hn).1 hr, (fI_tab n hn).2]
  have e : n * U * val r = n * val r * 2 ^ Uex := by unfold U; rw [Nat.mul_assoc, Nat.mul_assoc, Nat.mul_comm (2 ^ Uex)]
  have h := rung_shift (n * val r) 0 Uex
  rw [Nat.zero_add] at h
  rw [e]
  have h2 : rung (n * val r * 2 ^ Uex) 1074 = rung (n * val r) 0 := h
  rw [h2]
theorem cell_gen {n x : Nat} (hn : n < 66) : FloatKind.f64.format.mul (fI n) (cleanF x) = some (ml (fI n) (cleanF x)) ∧ floatToIntVal .f64 (ml (fI n) (cleanF x)) .i64 = some (cellV n x) ∧ 0 ≤ cellV n x ∧ cellV n x ≤ n := by
  obtain ⟨r, h1, h2⟩ := cln_of x
  rcases h2 with h2 | ⟨rfl, h2⟩
  · have e : FloatKind.f64.format.mul (fI n) (cleanF x) = some (min (rung (n * val r) 0) 9218868437227405312) := by
      rw [← ml_word hn (by omega)]
      unfold Ieee.Format.mul
      rw [h2]
    have hb := (fI_tab n hn).1
    have hle : rung (n * val r) 0 ≤ fI n := by
      rw [fI_rung hn]
      refine rung_mono 0 (Nat.mul_le_mul_left n ?_)
      rw [← val_one]
      exact val_mono (Nat.le_of_lt h1)
    have em : ml (fI n) (cleanF x) = rung (n * val r) 0 := by
      unfold ml
      rw [e, Option.getD_some, Nat.min_eq_left (by omega)]
    have hv : val (rung (n * val r) 0) / U ≤ n := by
      have h3 := val_mono hle
      rw [(fI_tab n hn).2] at h3
      have h4 := Nat.div_le_div_right (c := U) h3
      rw [Nat.mul_div_cancel n U_pos] at h4
      exact h4
    have hf := cut_val (p := rung (n * val r) 0) (Nat.lt_of_le_of_lt hle hb) (Nat.le_trans hv (Nat.le_trans (Nat.le_of_lt hn) (by decide)))
    have ec : cellV n x = ((val (rung (n * val r) 0) / U : Nat) : Int) := by unfold cellV; rw [em, hf, Option.getD_some]
    refine ⟨?_, ?_, ?_, ?_⟩
    · rw [em, e, Nat.min_eq_left (by omega)]
    · rw [em, hf, ec]
    · rw [ec]; exact Int.natCast_nonneg _
    · rw [ec]; exact Int.ofNat_le.mpr hv
  · have e : FloatKind.f64.format.mul (fI n) (cleanF x) = some 9223372036854775808 := by
      rw [← fI_mneg n hn]
      unfold Ieee.Format.mul
      rw [h2]
    have em : ml (fI n) (cleanF x) = 9223372036854775808 := by unfold ml; rw [e]; rfl
    have hf : floatToIntVal .f64 9223372036854775808 .i64 = some 0 := by decide +kernel
    have ec : cellV n x = 0 := by unfold cellV; rw [em, hf]; rfl
    refine ⟨by rw [em]; exact e, by rw [em, hf, ec], by rw [ec]; omega, by rw [ec]; omega⟩
end Go.Proofs.Ytkmdbidjdppdnaa.Gv
