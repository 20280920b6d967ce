/- who is more probable counts no less, plain. -/
import Derived.Test.YtncbomdngldhbaaFr
import Derived.Test.YtncbomdngldhbaaId
namespace Go.Proofs.Ytncbomdngldhbaa.Gv
theorem min_mono {a b c : Nat} (h : a ≤ b) : min a c ≤ min b c := by omega
theorem dv_word {x y r q : Nat} (hx : FloatKind.f64.format.read x = FloatKind.f64.format.read r) (hy : FloatKind.f64.format.read y = FloatKind.f64.format.read q) (h : r < 9218868437227405312) (hq0 : 0 < q) (hq : q < 9218868437227405312) : dv x y = min (qrung (val r * Psc) (val q) 2000) 9218868437227405312 := by
  unfold dv
  rw [div_word x y r q hx hy h hq0 hq, Option.getD_some]
theorem dv_mono {x x' y r r' q : Nat} (hx : FloatKind.f64.format.read x = FloatKind.f64.format.read r) (hx' : FloatKind.f64.format.read x' = FloatKind.f64.format.read r') (hy : FloatKind.f64.format.read y = FloatKind.f64.format.read q) (h : r ≤ r') (h' : r' < 9218868437227405312) (hq0 : 0 < q) (hq : q < 9218868437227405312) : dv x y ≤ dv x' y := by
  rw [dv_word hx hy (by omega) hq0 hq, dv_word hx' hy h' hq0 hq]
  have hv : val r ≤ val r' := by
    rcases Nat.lt_or_ge r r' with c | c
    · exact Nat.le_of_lt (val_lt c)
    · rw [show r = r' by omega]; exact Nat.le_refl _
  have := qrung_same 2000 (val_pos hq0) (Nat.mul_le_mul_right (Psc) hv)
  omega
theorem dv_le {x y r q : Nat} (hx : FloatKind.f64.format.read x = FloatKind.f64.format.read r) (hy : FloatKind.f64.format.read y = FloatKind.f64.format.read q) (h : r < 9218868437227405312) (hq0 : 0 < q) (hq : q < 9218868437227405312) : dv x y ≤ 9218868437227405312 := by
  rw [dv_word hx hy h hq0 hq]
  exact Nat.min_le_right _ _
theorem val_mono {r r' : Nat} (h : r ≤ r') : val r ≤ val r' := by
  rcases Nat.lt_or_ge r r' with c | c
  · exact Nat.le_of_lt (val_lt c)
  · rw [show r = r' by omega]; exact Nat.le_refl _
theorem ml_inf : ml 9218868437227405312 9218868437227405312 = 9218868437227405312 := by decide +kernel
theorem ad_inf : ad 4607182418800017408 9218868437227405312 = 9218868437227405312 := by decide +kernel
theorem ad_zero : ad 4607182418800017408 0 = 4607182418800017408 := by decide +kernel
theorem dv_inf : dv 4607182418800017408 9218868437227405312 = 0 := by decide +kernel
theorem dv_one : dv 4607182418800017408 4607182418800017408 = 4607182418800017408 := by decide +kernel
theorem ml_mono {r r' : Nat} (h : r ≤ r') (h' : r' ≤ 9218868437227405312) : ml r r ≤ ml r' r' ∧ ml r' r' ≤ 9218868437227405312 := by
  have lim (q : Nat) (hq : q ≤ 9218868437227405312) : ml q q ≤ 9218868437227405312 := by
    rcases Nat.lt_or_ge q 9218868437227405312 with c | c
    · unfold ml
      rw [mul_word q q c c, Option.getD_some]
      exact Nat.min_le_right _ _
    · rw [show q = 9218868437227405312 by omega, ml_inf]
      exact Nat.le_refl _
  refine ⟨?_, lim r' h'⟩
  rcases Nat.lt_or_ge r' 9218868437227405312 with c | c
  · unfold ml
    rw [mul_word r r (by omega) (by omega), mul_word r' r' c c]
    have := rung_mono 1074 (Nat.mul_le_mul (val_mono h) (val_mono h))
    rw [Option.getD_some, Option.getD_some]
    exact min_mono this
  · rw [show r' = 9218868437227405312 by omega, ml_inf]
    exact lim r (by omega)
theorem ad_mono {r r' : Nat} (h : r ≤ r') (h' : r' ≤ 9218868437227405312) : ad 4607182418800017408 r ≤ ad 4607182418800017408 r' ∧ ad 4607182418800017408 r' ≤ 9218868437227405312 := by
  have lim (q : Nat) (hq : q ≤ 9218868437227405312) : ad 4607182418800017408 q ≤ 9218868437227405312 := by
    rcases Nat.lt_or_ge q 9218868437227405312 with c | c
    · unfold ad
      rw [add_word _ q (by decide) c, Option.getD_some]
      exact Nat.min_le_right _ _
    · rw [show q = 9218868437227405312 by omega, ad_inf]
      exact Nat.le_refl _
  refine ⟨?_, lim r' h'⟩
  rcases Nat.lt_or_ge r' 9218868437227405312 with c | c
  · unfold ad
    rw [add_word _ r (by decide) (by omega), add_word _ r' (by decide) c]
    have := rung_mono 0 (Nat.add_le_add_left (val_mono h) (val 4607182418800017408))
    rw [Option.getD_some, Option.getD_some]
    exact min_mono this
  · rw [show r' = 9218868437227405312 by omega, ad_inf]
    exact lim r (by omega)
theorem inv_mono {t t' : Nat} (h0 : 4607182418800017408 ≤ t) (h : t ≤ t') (h' : t' ≤ 9218868437227405312) : dv 4607182418800017408 t' ≤ dv 4607182418800017408 t := by
  rcases Nat.lt_or_ge t' 9218868437227405312 with c | c
  · rw [dv_word (r := 4607182418800017408) rfl (q := t') rfl (by decide) (by omega) c, dv_word (r := 4607182418800017408) rfl (q := t) rfl (by decide) (by omega) (by omega)]
    exact min_mono (qrung_mono (p := val 4607182418800017408 * Psc) (p' := val 4607182418800017408 * Psc) 2000 (val_pos (show 0 < t' by omega)) (val_pos (show 0 < t by omega)) (Nat.mul_le_mul_left _ (val_mono h)))
  · rw [show t' = 9218868437227405312 by omega, dv_inf]
    exact Nat.zero_le _
theorem wq_mono (k : Int) {r r' : Nat} (h : r ≤ r') (h' : r' ≤ 9218868437227405312) : wq k r' ≤ wq k r ∧ wq k r' ≤ 4607182418800017408 := by
  unfold wq
  have key {s s' : Nat} (hs : s ≤ s') (hs' : s' ≤ 9218868437227405312) : dv 4607182418800017408 (ad 4607182418800017408 s') ≤ dv 4607182418800017408 (ad 4607182418800017408 s) ∧ dv 4607182418800017408 (ad 4607182418800017408 s') ≤ 4607182418800017408 := by
    obtain ⟨a1, a2⟩ := ad_mono hs hs'
    have b := (ad_mono (Nat.zero_le s) (by omega)).1
    have b' := (ad_mono (Nat.zero_le s') hs').1
    rw [ad_zero] at b b'
    have c := inv_mono (Nat.le_refl _) b' a2
    rw [dv_one] at c
    exact ⟨inv_mono b a1 a2, c⟩
  by_cases c : k = 2
  · rw [if_pos c, if_pos c]
    obtain ⟨a, b⟩ := ml_mono h h'
    exact key a b
  · rw [if_neg c, if_neg c]
    exact key h h'
theorem wq_zero (k : Int) : wq k 0 = 4607182418800017408 := by
  unfold wq
  have e : ml 0 0 = 0 := by decide +kernel
  rw [e, ite_self, ad_zero, dv_one]
theorem wq_negz (k : Int) : wq k 9223372036854775808 = 4607182418800017408 := by
  unfold wq
  have e : ml 9223372036854775808 9223372036854775808 = 0 := by decide +kernel
  have e2 : ad 4607182418800017408 9223372036854775808 = 4607182418800017408 := by decide +kernel
  split
  · rw [e, ad_zero, dv_one]
  · rw [e2, dv_one]
/-! a number that is not below 0 is a word without sign, or a zero with one -/
theorem read_mod (w : Nat) (h : (w / 9223372036854775808 % 2 == 1) = false) : FloatKind.f64.format.read w = FloatKind.f64.format.read (w % 9223372036854775808) := by
  unfold Ieee.Format.read
  have hs : FloatKind.f64.format.signWeight = 9223372036854775808 := rfl
  simp only [hs]
  have e1 : w % 9223372036854775808 / 9223372036854775808 % 2 = 0 := by omega
  rw [h, e1, Nat.mod_mod]
  rfl
theorem num_rung {x : Nat} (hn : isNum x = true) : x % 9223372036854775808 < 9218868437227405312 := by
  unfold isNum Ieee.Format.read at hn
  have hb : FloatKind.f64.format.binade = 4503599627370496 := rfl
  have hi : FloatKind.f64.format.infRung = 9218868437227405312 := rfl
  have hs : FloatKind.f64.format.signWeight = 9223372036854775808 := rfl
  simp only [hb, hi, hs] at hn
  generalize x % 9223372036854775808 = r at *
  rcases Nat.lt_or_ge r 9218868437227405312 with c | c
  · exact c
  · exfalso
    rw [if_neg (by omega), if_neg (by omega)] at hn
    by_cases z : r = 9218868437227405312
    · rw [if_pos z] at hn
      cases hn
    · rw [if_neg z] at hn
      cases hn
theorem not_neg {x : Nat} (hn : isNum x = true) (hx : (FloatKind.f64.format.order x 0 == some .lt) = false) : (∃ r, r < 9218868437227405312 ∧ FloatKind.f64.format.read x = FloatKind.f64.format.read r) ∨ FloatKind.f64.format.read x = .number true 0 (-1074) := by
  have hr := num_rung hn
  cases hsgn : (x / 9223372036854775808 % 2 == 1) with
  | false => exact .inl ⟨_, hr, read_mod x hsgn⟩
  | true =>
    right
    have hb : FloatKind.f64.format.binade = 4503599627370496 := rfl
    have hi : FloatKind.f64.format.infRung = 9218868437227405312 := rfl
    have hs : FloatKind.f64.format.signWeight = 9223372036854775808 := rfl
    have hl : FloatKind.f64.format.leastPlace = -1074 := rfl
    unfold Ieee.Format.order at hx
    rw [read_zero] at hx
    unfold Ieee.Format.read at hx ⊢
    simp only [hb, hi, hs, hl, hsgn] at hx ⊢
    generalize x % 9223372036854775808 = r at *
    by_cases c : r < 4503599627370496
    · rw [if_pos c] at hx ⊢
      by_cases z : r = 0
      · rw [z]
      · exfalso
        simp [Ieee.Datum.order, Ieee.signed, cmp_int] at hx
        omega
    · exfalso
      rw [if_neg c, if_pos hr] at hx
      simp only [Ieee.Datum.order, Ieee.signed, cmp_int, ↓reduceIte, Bool.false_eq_true, Nat.zero_shiftLeft] at hx
      have hm : (4503599627370496 + r % 4503599627370496) ≤ (4503599627370496 + r % 4503599627370496) <<< (-1074 + ((r / 4503599627370496 - 1 : Nat) : Int) - min (-1074 + ((r / 4503599627370496 - 1 : Nat) : Int)) (-1074)).toNat := shl_ge _ _
      generalize (4503599627370496 + r % 4503599627370496) <<< (-1074 + ((r / 4503599627370496 - 1 : Nat) : Int) - min (-1074 + ((r / 4503599627370496 - 1 : Nat) : Int)) (-1074)).toNat = u at *
      rw [if_pos (by omega)] at hx
      cases hx
theorem pos_word {a : Nat} (hn : isNum a = true) (ha : FloatKind.f64.format.order a 0 = some .gt) : ∃ q, 0 < q ∧ q < 9218868437227405312 ∧ FloatKind.f64.format.read a = FloatKind.f64.format.read q := by
  rcases not_neg hn (by rw [ha]; rfl) with ⟨r, h, e⟩ | e
  · refine ⟨r, Nat.pos_of_ne_zero (fun z => ?_), h, e⟩
    subst z
    unfold Ieee.Format.order at ha
    rw [e, read_zero] at ha
    cases ha
  · exfalso
    unfold Ieee.Format.order at ha
    rw [e, read_zero] at ha
    cases ha
theorem dv_negz {b a q : Nat} (hb : FloatKind.f64.format.read b = .number true 0 (-1074)) (ha : FloatKind.f64.format.read a = FloatKind.f64.format.read q) (h0 : 0 < q) (hq : q < 9218868437227405312) : dv b a = 9223372036854775808 := by
  obtain ⟨m, k, e1, v1⟩ := read_val q hq
  have hm : m ≠ 0 := by
    rintro rfl
    have := val_pos h0
    omega
  unfold dv Ieee.Format.div
  rw [hb, ha, e1]
  simp only [Ieee.Datum.quotient]
  rw [if_neg hm]
  have hs : FloatKind.f64.format.signWeight = 9223372036854775808 := rfl
  simp [Ieee.Format.write, Ieee.Format.nearest, Ieee.Format.word, hs]
/-- of two ways, the one that the other one is less probable than counts no less -/
theorem more {k : Int} {a b c : Nat} (hk : k = 1 ∨ k = 2) (ha : isNum a = true) (hb : isNum b = true) (hc : isNum c = true) (h0 : (FloatKind.f64.format.order a 0 == some .gt) = true) (h1 : (FloatKind.f64.format.order b 0 == some .lt) = false) (h2 : (FloatKind.f64.format.order c b == some .lt) = false) :
    wgt k a c ≤ wgt k a b ∧ wgt k a b ≤ 4607182418800017408 := by
  have ga : FloatKind.f64.format.order a 0 = some .gt := by simpa using h0
  obtain ⟨q, q0, q1, qa⟩ := pos_word ha ga
  have gb : goodW k a b := by
    refine ⟨hk, ga, ?_, ha, hb⟩
    have h := lt_ge hb
    rw [h1] at h
    have h' : (FloatKind.f64.format.order b 0 == some .gt || FloatKind.f64.format.order b 0 == some .eq) = true := by
      cases z : (FloatKind.f64.format.order b 0 == some .gt || FloatKind.f64.format.order b 0 == some .eq) with
      | true => rfl
      | false => rw [z] at h; cases h
    simpa using h'
  have hwb : wgt k a b = wq k (dv b a) := if_pos gb
  -- every weight of a against what is not below 0
  have lim {x : Nat} (hx : (∃ r, r < 9218868437227405312 ∧ FloatKind.f64.format.read x = FloatKind.f64.format.read r) ∨ FloatKind.f64.format.read x = .number true 0 (-1074)) : wq k (dv x a) ≤ 4607182418800017408 := by
    rcases hx with ⟨r, hr, e⟩ | e
    · exact (wq_mono k (Nat.le_refl _) (dv_le e qa hr q0 q1)).2
    · rw [dv_negz e qa q0 q1, wq_negz]
      exact Nat.le_refl _
  have hbw := not_neg hb h1
  have hcz : wgt k a c ≤ 4607182418800017408 := by
    unfold wgt
    by_cases g : goodW k a c
    · rw [if_pos g]
      refine lim (not_neg hc ?_)
      rw [lt_ge hc]
      rcases g.2.2.1 with z | z <;> rw [z] <;> rfl
    · rw [if_neg g]
      exact Nat.zero_le _
  refine ⟨?_, by rw [hwb]; exact lim hbw⟩
  rcases hbw with ⟨r, hr, e⟩ | e
  · by_cases hr0 : r = 0
    · subst hr0
      have : dv b a = 0 := by
        rw [dv_word e qa (by decide) q0 q1]
        have v0 : val 0 = 0 := rfl
        rw [v0, Nat.zero_mul, qrung_zero _ _ (val_pos q0), Nat.zero_min]
      rw [hwb, this, wq_zero]
      exact hcz
    · have hc0 : ∃ r', r' < 9218868437227405312 ∧ FloatKind.f64.format.read c = FloatKind.f64.format.read r' := by
        obtain ⟨m, j, em, vm⟩ := read_val r hr
        have hm0 : m ≠ 0 := by
          rintro rfl
          have := val_pos (Nat.pos_of_ne_zero hr0)
          omega
        have hcn : (FloatKind.f64.format.order c 0 == some .lt) = false := by
          unfold isNum at hc
          unfold Ieee.Format.order at h2 ⊢
          rw [e, em] at h2
          rw [read_zero]
          cases ec : FloatKind.f64.format.read c with
          | nan => rw [ec] at hc; cases hc
          | infinity s => rw [ec] at hc; cases hc
          | number s n i =>
            rw [ec] at h2
            cases s with
            | false =>
              simp only [Ieee.Datum.order, Ieee.signed, cmp_int, ↓reduceIte, Bool.false_eq_true, Nat.zero_shiftLeft]
              generalize n <<< (i - min i (-1074)).toNat = v
              rw [if_neg (by omega)]
              split <;> rfl
            | true =>
              have hs := shl_ge m (-1074 + (j : Int) - min i (-1074 + (j : Int))).toNat
              simp only [Ieee.Datum.order, Ieee.signed, cmp_int, ↓reduceIte, Bool.false_eq_true] at h2
              generalize m <<< (-1074 + (j : Int) - min i (-1074 + (j : Int))).toNat = u at *
              generalize n <<< (i - min i (-1074 + (j : Int))).toNat = v at *
              rw [if_pos (by omega)] at h2
              cases h2
        rcases not_neg hc hcn with z | z
        · exact z
        · exfalso
          unfold Ieee.Format.order at h2
          rw [z, e, em] at h2
          have := shl_ge m (-1074 + (j : Int) - min (-1074) (-1074 + (j : Int))).toNat
          simp only [Ieee.Datum.order, Ieee.signed, cmp_int, ↓reduceIte, Bool.false_eq_true, Nat.zero_shiftLeft] at h2
          generalize m <<< (-1074 + (j : Int) - min (-1074) (-1074 + (j : Int))).toNat = u at *
          rw [if_pos (by omega)] at h2
          cases h2
      obtain ⟨r', hr', e'⟩ := hc0
      have hle : r ≤ r' := by
        unfold Ieee.Format.order at h2
        rw [e', e] at h2
        have := order_val r' r hr' hr
        unfold Ieee.Format.order at this
        rw [this] at h2
        by_cases z : r' < r
        · rw [if_pos z] at h2
          cases h2
        · omega
      have hm := dv_mono e e' qa hle hr' q0 q1
      have hl := dv_le e' qa hr' q0 q1
      rw [hwb]
      unfold wgt
      by_cases g : goodW k a c
      · rw [if_pos g]
        exact (wq_mono k hm hl).1
      · rw [if_neg g]
        exact Nat.zero_le _
  · rw [hwb, dv_negz e qa q0 q1, wq_negz]
    exact hcz
end Go.Proofs.Ytncbomdngldhbaa.Gv
