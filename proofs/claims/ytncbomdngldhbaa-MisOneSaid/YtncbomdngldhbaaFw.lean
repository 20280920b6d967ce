/- both weights together are 1, plain. -/
import Derived.Test.YtncbomdngldhbaaFv
import Derived.Test.YtncbomdngldhbaaFu
namespace Go.Proofs.Ytncbomdngldhbaa.Gv
/-- what 1 stands for -/
def EE : Nat := val 4607182418800017408
def Pe : Nat := 1074
def Pd : Nat := 2000
theorem val_one : val 4607182418800017408 = EE := rfl
theorem ee_pow : 2 ^ Pe = EE := by decide +kernel
theorem psc_eq : Psc = 2 ^ Pd * EE := by decide +kernel
theorem ee_ge : 1267650600228229401496703205376 ≤ EE := by decide +kernel
theorem inf_ge : EE * 1152921504606846976 ≤ val 9218868437227405312 := by decide +kernel
/-- the word s is about R / P; very near -/
def nearS (s P R : Nat) : Prop := (s < 9218868437227405312 ∧ 9007199254740992 * (val s * P) ≤ 9007199254740993 * (EE * R) + 4503599627370496 * P ∧ 9007199254740991 * (EE * R) ≤ 9007199254740992 * (val s * P) + 4503599627370496 * P) ∨ (s = 9218868437227405312 ∧ 1125899906842624 * P ≤ R)
/-- the word s is about R / P -/
def near (s P R : Nat) : Prop := (s < 9218868437227405312 ∧ 1125899906842624 * (val s * P) ≤ 1125899906842624 * (EE * R) + EE * (P + R) ∧ 1125899906842624 * (EE * R) ≤ 1125899906842624 * (val s * P) + EE * (P + R)) ∨ (s = 9218868437227405312 ∧ 1125899906842624 * P ≤ R)
theorem ac_a (k v q g : Nat) : k * (v * q) * g = k * (v * (q * g)) := by ac_rfl
theorem ac_b (k e r j q g : Nat) : (k * (e * r) + j * q) * g = k * (r * (g * e)) + j * (q * g) := by rw [Nat.add_mul]; congr 1 <;> ac_rfl
theorem ac_c (k e r g : Nat) : k * (e * r) * g = k * (r * (g * e)) := by ac_rfl
theorem ac_d (k v q j g : Nat) : (k * (v * q) + j * q) * g = k * (v * (q * g)) + j * (q * g) := by rw [Nat.add_mul]; congr 1 <;> ac_rfl
theorem ac_e (e k q : Nat) : e * k * q = k * (e * q) := by ac_rfl
theorem ac_f (e k q : Nat) : e * (k * q) = k * (e * q) := by ac_rfl
theorem near_dv {b a r q : Nat} (hb : FloatKind.f64.format.read b = FloatKind.f64.format.read r) (ha : FloatKind.f64.format.read a = FloatKind.f64.format.read q) (h : r < 9218868437227405312) (hq0 : 0 < q) (hq : q < 9218868437227405312) : nearS (dv b a) (val q) (val r) := by
  rw [dv_word hb ha h hq0 hq]
  obtain ⟨n1, n2⟩ := quo_near (val r * Psc) (val q) Pd (val_pos hq0)
  change 9007199254740992 * (val (qrung (val r * Psc) (val q) 2000) * (val q * 2 ^ Pd)) ≤ _ at n1
  change _ ≤ 9007199254740992 * (val (qrung (val r * Psc) (val q) 2000) * (val q * 2 ^ Pd)) + _ at n2
  have hg : 0 < 2 ^ Pd := Nat.two_pow_pos Pd
  have hI := inf_ge
  have hE := ee_ge
  rw [psc_eq] at n1 n2 ⊢
  generalize 2 ^ Pd = g at *
  obtain ⟨z, hz⟩ : ∃ z, qrung (val r * (g * EE)) (val q) 2000 = z := ⟨_, rfl⟩
  rw [hz] at n1 n2 ⊢
  clear hz
  have m1 : 9007199254740992 * (val z * val q) ≤ 9007199254740993 * (EE * val r) + 4503599627370496 * val q := by
    refine Nat.le_of_mul_le_mul_right (c := g) ?_ hg
    rw [ac_a, ac_b]
    exact n1
  have m2 : 9007199254740991 * (EE * val r) ≤ 9007199254740992 * (val z * val q) + 4503599627370496 * val q := by
    refine Nat.le_of_mul_le_mul_right (c := g) ?_ hg
    rw [ac_c, ac_d]
    exact n2
  rcases Nat.lt_or_ge z 9218868437227405312 with c | c
  · rw [Nat.min_eq_left (by omega)]
    exact .inl ⟨c, m1, m2⟩
  · rw [Nat.min_eq_right c]
    refine .inr ⟨rfl, ?_⟩
    have hv := Nat.mul_le_mul_right (val q) (Nat.le_trans hI (val_mono c))
    have hE0 : 0 < EE := by omega
    refine Nat.le_of_mul_le_mul_left (c := EE) ?_ hE0
    have e3 : val q ≤ EE * val q := Nat.le_mul_of_pos_left _ hE0
    rw [ac_e] at hv
    rw [ac_f]
    generalize EE * val q = x at *
    generalize EE * val r = y at *
    generalize val z * val q = u at *
    generalize val q = v at *
    omega
theorem near_of {s P R : Nat} (h : nearS s P R) : near s P R := by
  rcases h with ⟨c, m1, m2⟩ | h
  · left
    refine ⟨c, ?_⟩
    have hE := ee_ge
    have e3 : 1267650600228229401496703205376 * P ≤ EE * P := Nat.mul_le_mul_right P hE
    rw [Nat.mul_add]
    generalize EE * P = x at *
    generalize EE * R = y at *
    generalize val s * P = u at *
    omega
  · exact .inr h
theorem sq_exp (a b x y : Nat) : (a * x + b * y) * (a * x + b * y) = a * a * (x * x) + 2 * a * b * (x * y) + b * b * (y * y) := by
  have e1 : a * x * (a * x) = a * a * (x * x) := by ac_rfl
  have e2 : a * x * (b * y) = a * b * (x * y) := by ac_rfl
  have e3 : b * y * (a * x) = a * b * (x * y) := by ac_rfl
  have e4 : b * y * (b * y) = b * b * (y * y) := by ac_rfl
  rw [Nat.add_mul, Nat.mul_add, Nat.mul_add, e1, e2, e3, e4, Nat.mul_assoc 2 a b, Nat.mul_assoc 2]
  omega
theorem sq_one (a x : Nat) : a * x * (a * x) = a * a * (x * x) := by ac_rfl
theorem ab_le (a b : Nat) : a * b ≤ a * a + b * b := by
  rcases Nat.le_total a b with h | h
  · exact Nat.le_trans (Nat.mul_le_mul_right b h) (Nat.le_add_left _ _)
  · exact Nat.le_trans (Nat.mul_le_mul_left a h) (Nat.le_add_right _ _)
theorem ac_g (v a : Nat) : v * v * (a * a) = v * a * (v * a) := by ac_rfl
theorem ac_h (e b : Nat) : e * b * (e * b) = e * (e * (b * b)) := by ac_rfl
theorem ac_i (e b a : Nat) : e * b * a = e * (a * b) := by ac_rfl
theorem ac_j (k s e a : Nat) : k * (s * e) * a = k * (e * (s * a)) := by ac_rfl
theorem ac_k (k u a : Nat) : k * u * a = k * (u * a) := by ac_rfl
theorem mulr {k k' l x y z : Nat} (a : Nat) (h : k * x ≤ k' * y + l * z) : k * (x * a) ≤ k' * (y * a) + l * (z * a) := by
  have h := Nat.mul_le_mul_right a h
  rw [Nat.add_mul, ac_k, ac_k, ac_k] at h
  exact h
theorem sqr {k k' l x y z : Nat} (h : k * x ≤ k' * y + l * z) : k * k * (x * x) ≤ k' * k' * (y * y) + 2 * k' * l * (y * z) + l * l * (z * z) := by
  have h := Nat.mul_le_mul h h
  rw [sq_one, sq_exp] at h
  exact h
/-- what is known of squares -/
theorem sq_num (E A B V SE : Nat) (hE : 1267650600228229401496703205376 ≤ E) (h1 : 9007199254740992 * (V * A) ≤ 9007199254740993 * (E * B) + 4503599627370496 * A) (h2 : 9007199254740991 * (E * B) ≤ 9007199254740992 * (V * A) + 4503599627370496 * A)
    (s1 : 9007199254740992 * SE ≤ 9007199254740993 * (V * V) + 4503599627370496 * E) (s2 : 9007199254740991 * (V * V) ≤ 9007199254740992 * SE + 4503599627370496 * E) :
    1125899906842624 * (SE * (A * A)) ≤ 1125899906842624 * (E * (E * (B * B))) + (E * (E * (A * A)) + E * (E * (B * B))) ∧ 1125899906842624 * (E * (E * (B * B))) ≤ 1125899906842624 * (SE * (A * A)) + (E * (E * (A * A)) + E * (E * (B * B))) := by
  have q1 := sqr h1
  have q2 := sqr h2
  have q3 := mulr A h1
  have t1 := mulr (A * A) s1
  have t2 := mulr (A * A) s2
  have hab := Nat.mul_le_mul_left E (ab_le A B)
  have hp : 1267650600228229401496703205376 * (E * (A * A)) ≤ E * (E * (A * A)) := Nat.mul_le_mul_right _ hE
  have hq : 1267650600228229401496703205376 * (E * (B * B)) ≤ E * (E * (B * B)) := Nat.mul_le_mul_right _ hE
  have hA : 1267650600228229401496703205376 * (A * A) ≤ E * (A * A) := Nat.mul_le_mul_right _ hE
  rw [ac_g] at t1
  rw [ac_g] at t2
  rw [Nat.mul_add] at hab
  have f1 := ac_h E B
  have f2 := ac_i E B A
  rw [f1, f2] at q1
  rw [f1] at q2
  rw [f2] at q3
  clear f1 f2 h1 h2 s1 s2
  generalize V * A * A = ua at *
  generalize V * A * (V * A) = uu at *
  generalize SE * (A * A) = w at *
  generalize E * (E * (A * A)) = ep at *
  generalize E * (E * (B * B)) = eq at *
  generalize E * (A * A) = p at *
  generalize E * (B * B) = q at *
  generalize E * (A * B) = r at *
  generalize A * A = aa at *
  clear hE
  omega
theorem ml_word {r : Nat} (h : r < 9218868437227405312) : ml r r = min (rung (val r * val r) 1074) 9218868437227405312 := by
  unfold ml
  rw [mul_word r r h h, Option.getD_some]
theorem cut1 {E k a b c d : Nat} (h0 : 0 < E) (h : k * (E * a) ≤ k * (E * b) + (E * c + E * d)) : k * a ≤ k * b + (c + d) := by
  refine Nat.le_of_mul_le_mul_left (c := E) ?_ h0
  rw [Nat.mul_add, Nat.mul_add E c d, ac_f E k a, ac_f E k b]
  exact h
theorem near_ml {r A B : Nat} (h : nearS r A B) : near (ml r r) (A * A) (B * B) := by
  have hE := ee_ge
  have hE0 : 0 < EE := by omega
  rcases h with ⟨c, h1, h2⟩ | ⟨c, h1⟩
  · rw [ml_word c]
    obtain ⟨s1, s2⟩ := rung_near (val r * val r) Pe
    change 9007199254740992 * (val (rung (val r * val r) 1074) * 2 ^ Pe) ≤ _ at s1
    change _ ≤ 9007199254740992 * (val (rung (val r * val r) 1074) * 2 ^ Pe) + _ at s2
    rw [ee_pow] at s1 s2
    generalize rung (val r * val r) 1074 = z at *
    obtain ⟨n1, n2⟩ := sq_num EE A B (val r) (val z * EE) hE h1 h2 s1 s2
    rcases Nat.lt_or_ge z 9218868437227405312 with d | d
    · rw [Nat.min_eq_left (by omega)]
      left
      refine ⟨d, ?_⟩
      rw [Nat.mul_comm (val z) EE, Nat.mul_assoc] at n1 n2
      rw [Nat.mul_add]
      exact ⟨cut1 hE0 n1, cut1 hE0 n2⟩
    · rw [Nat.min_eq_right d]
      refine .inr ⟨rfl, ?_⟩
      have hv := Nat.mul_le_mul_right (A * A) (Nat.mul_le_mul_right EE (Nat.le_trans inf_ge (val_mono d)))
      refine Nat.le_of_mul_le_mul_left (c := EE) (Nat.le_of_mul_le_mul_left (c := EE) ?_ hE0) hE0
      have f1 (e k a : Nat) : e * k * e * a = k * (e * (e * a)) := by ac_rfl
      have f2 (e k a : Nat) : e * (e * (k * a)) = k * (e * (e * a)) := by ac_rfl
      rw [f1] at hv
      rw [f2]
      generalize val z * EE * (A * A) = w at *
      generalize EE * (EE * (A * A)) = ep at *
      generalize EE * (EE * (B * B)) = eq at *
      omega
  · subst c
    rw [ml_inf]
    refine .inr ⟨rfl, ?_⟩
    have h := Nat.mul_le_mul h1 h1
    rw [sq_one] at h
    generalize A * A = x at *
    generalize B * B = y at *
    omega
theorem ac_l (e s p : Nat) : (e + s) * p = e * p + s * p := Nat.add_mul _ _ _
/-- what is known of inverses -/
theorem inv_num (E P R S T X : Nat) (hE : 1267650600228229401496703205376 ≤ E) (n1 : 1125899906842624 * (S * P) ≤ 1125899906842624 * (E * R) + E * (P + R)) (n2 : 1125899906842624 * (E * R) ≤ 1125899906842624 * (S * P) + E * (P + R))
    (t1 : 9007199254740992 * T ≤ 9007199254740993 * (E + S) + 4503599627370496 * 1) (t2 : 9007199254740991 * (E + S) ≤ 9007199254740992 * T + 4503599627370496 * 1)
    (x1 : 9007199254740992 * (X * T) ≤ 9007199254740993 * (E * E) + 4503599627370496 * T) (x2 : 9007199254740991 * (E * E) ≤ 9007199254740992 * (X * T) + 4503599627370496 * T) (hX : X ≤ E) :
    140737488355328 * (X * (P + R)) ≤ 140737488355328 * (E * P) + E * (P + R) ∧ 140737488355328 * (E * P) ≤ 140737488355328 * (X * (P + R)) + E * (P + R) := by
  have hE0 : 0 < E := by omega
  have a1 := mulr P t1
  have a2 := mulr P t2
  rw [Nat.add_mul, Nat.one_mul] at a1 a2
  have hP : 1267650600228229401496703205376 * P ≤ E * P := Nat.mul_le_mul_right _ hE
  have b : 562949953421312 * (T * P) ≤ 562949953421313 * (E * (P + R)) ∧ 562949953421311 * (E * (P + R)) ≤ 562949953421312 * (T * P) := by
    rw [Nat.mul_add] at n1 n2 ⊢
    generalize E * P = ep at *
    generalize E * R = er at *
    generalize S * P = sp at *
    generalize T * P = tp at *
    clear x1 x2 hX hE t1 t2
    omega
  have c1 := Nat.mul_le_mul_left X b.1
  have c2 := Nat.mul_le_mul_left X b.2
  rw [ac_f X 562949953421312, ac_f X 562949953421313] at c1
  rw [ac_f X 562949953421311, ac_f X 562949953421312] at c2
  have d1 := mulr P x1
  have d2 := mulr P x2
  have e0 : X * (E * (P + R)) ≤ E * (E * (P + R)) := Nat.mul_le_mul_right _ hX
  have e1 : 1267650600228229401496703205376 * (E * (P + R)) ≤ E * (E * (P + R)) := Nat.mul_le_mul_right _ hE
  have e2 : E * (E * P) ≤ E * (E * (P + R)) := Nat.mul_le_mul_left E (Nat.mul_le_mul_left E (Nat.le_add_right P R))
  rw [Nat.mul_assoc X T P, Nat.mul_assoc E E P] at d1 d2
  obtain ⟨b1, b2⟩ := b
  have key : 140737488355328 * (E * (X * (P + R))) ≤ 140737488355328 * (E * (E * P)) + E * (E * (P + R)) ∧ 140737488355328 * (E * (E * P)) ≤ 140737488355328 * (E * (X * (P + R))) + E * (E * (P + R)) := by
    have f : E * (X * (P + R)) = X * (E * (P + R)) := Nat.mul_left_comm _ _ _
    rw [f]
    clear a1 a2 hP n1 n2 t1 t2 x1 x2 hE hX
    generalize X * (E * (P + R)) = xem at *
    generalize E * (E * (P + R)) = eem at *
    generalize E * (E * P) = eep at *
    generalize X * (T * P) = xtp at *
    generalize E * (P + R) = em at *
    generalize T * P = tp at *
    omega
  constructor
  · refine Nat.le_of_mul_le_mul_left (c := E) ?_ hE0
    rw [Nat.mul_add E, ac_f E 140737488355328, ac_f E 140737488355328]
    exact key.1
  · refine Nat.le_of_mul_le_mul_left (c := E) ?_ hE0
    rw [Nat.mul_add E, ac_f E 140737488355328, ac_f E 140737488355328]
    exact key.2
theorem min_id {a b : Nat} (h : b = min a 9218868437227405312) (h2 : b ≤ 4607182418800017408) : a = b := by omega
theorem near_inv {s P R : Nat} (h : near s P R) : dv 4607182418800017408 (ad 4607182418800017408 s) ≤ 4607182418800017408 ∧ 140737488355328 * (val (dv 4607182418800017408 (ad 4607182418800017408 s)) * (P + R)) ≤ 140737488355328 * (EE * P) + EE * (P + R) ∧ 140737488355328 * (EE * P) ≤ 140737488355328 * (val (dv 4607182418800017408 (ad 4607182418800017408 s)) * (P + R)) + EE * (P + R) := by
  have hE := ee_ge
  have v0 : val 0 = 0 := rfl
  have hs : s ≤ 9218868437227405312 := by rcases h with ⟨c, -⟩ | ⟨c, -⟩ <;> omega
  have hone := (wq_mono 1 (Nat.le_refl s) hs).2
  have hw : wq 1 s = dv 4607182418800017408 (ad 4607182418800017408 s) := by unfold wq; rw [if_neg (by decide)]
  rw [hw] at hone
  refine ⟨hone, ?_⟩
  rcases h with ⟨c, n1, n2⟩ | ⟨c, n1⟩
  · have had : ad 4607182418800017408 s = min (rung (EE + val s) 0) 9218868437227405312 := by
      unfold ad
      rw [add_word _ s (by decide) c, Option.getD_some, val_one]
    have hlow := (ad_mono (Nat.zero_le s) hs).1
    rw [ad_zero] at hlow
    rw [had] at hone hlow ⊢
    obtain ⟨t1, t2⟩ := rung_near (EE + val s) 0
    rw [Nat.pow_zero, Nat.mul_one] at t1 t2
    generalize rung (EE + val s) 0 = z at *
    rcases Nat.lt_or_ge z 9218868437227405312 with d | d
    · rw [Nat.min_eq_left (by omega)] at hone hlow ⊢
      have hz0 : 0 < z := by omega
      have hdv : dv 4607182418800017408 z = min (qrung (EE * Psc) (val z) 2000) 9218868437227405312 := by
        have := dv_word (x := 4607182418800017408) (y := z) (r := 4607182418800017408) (q := z) rfl rfl (by decide) hz0 d
        rw [val_one] at this
        exact this
      obtain ⟨x1, x2⟩ := quo_near (EE * Psc) (val z) Pd (val_pos hz0)
      change 9007199254740992 * (val (qrung (EE * Psc) (val z) 2000) * (val z * 2 ^ Pd)) ≤ _ at x1
      change _ ≤ 9007199254740992 * (val (qrung (EE * Psc) (val z) 2000) * (val z * 2 ^ Pd)) + _ at x2
      have hg : 0 < 2 ^ Pd := Nat.two_pow_pos Pd
      have hx := min_id hdv hone
      rw [hx] at x1 x2
      rw [psc_eq] at x1 x2
      clear hdv hx
      have hX := val_mono hone
      rw [val_one] at hX
      generalize val (dv 4607182418800017408 z) = X at *
      generalize 2 ^ Pd = g at *
      refine inv_num EE P R (val s) (val z) X hE n1 n2 (by omega) (by omega) ?_ ?_ hX
      · refine Nat.le_of_mul_le_mul_right (c := g) ?_ hg
        rw [ac_a, ac_b]
        exact x1
      · refine Nat.le_of_mul_le_mul_right (c := g) ?_ hg
        rw [ac_c, ac_d]
        exact x2
    · rw [Nat.min_eq_right d, dv_inf, v0, Nat.zero_mul]
      refine ⟨by omega, ?_⟩
      have hv := Nat.le_trans inf_ge (val_mono d)
      rw [Nat.mul_comm] at hv
      have a1 : 9007199254740992 * (1152921504606846976 * EE) ≤ 9007199254740993 * (EE + val s) + 4503599627370496 * 1 := by
        clear n1 n2 had hw hlow hone v0 hs
        generalize EE = u at *
        generalize val s = v at *
        generalize val z = y at *
        omega
      have a2 := mulr P a1
      rw [Nat.add_mul, Nat.one_mul, ac_k] at a2
      have hP : 1267650600228229401496703205376 * P ≤ EE * P := Nat.mul_le_mul_right _ hE
      rw [Nat.mul_add] at n1 ⊢
      generalize EE * P = ep at *
      generalize EE * R = er at *
      generalize val s * P = sp at *
      clear a1 n2 hv t1 t2
      omega
  · subst c
    rw [ad_inf, dv_inf, v0, Nat.zero_mul]
    refine ⟨by omega, ?_⟩
    have hm := Nat.mul_le_mul_left EE n1
    rw [ac_f] at hm
    rw [Nat.mul_add]
    generalize EE * P = ep at *
    generalize EE * R = er at *
    omega
theorem k_one (u v : Nat) (h : v = 0) : 140737488355328 * (u + v) ≤ 140737488355330 * u := by omega
theorem k_two (u v : Nat) (h : v = 0) : 140737488355328 * u ≤ 140737488355328 * (u + v) + 2 * u := by omega
theorem k_three (u v : Nat) (h : v = 0) : 140737488355328 * (v + u) ≤ 140737488355330 * u := by omega
theorem k_four (u v : Nat) (h : v = 0) : 140737488355328 * u ≤ 140737488355328 * (v + u) + 2 * u := by omega
/-- both sums -/
theorem one_num (E P R X Y : Nat) (h0 : 0 < P + R) (x1 : 140737488355328 * (X * (P + R)) ≤ 140737488355328 * (E * P) + E * (P + R)) (x2 : 140737488355328 * (E * P) ≤ 140737488355328 * (X * (P + R)) + E * (P + R)) (y1 : 140737488355328 * (Y * (R + P)) ≤ 140737488355328 * (E * R) + E * (R + P)) (y2 : 140737488355328 * (E * R) ≤ 140737488355328 * (Y * (R + P)) + E * (R + P)) :
    140737488355328 * (X + Y) ≤ 140737488355330 * E ∧ 140737488355328 * E ≤ 140737488355328 * (X + Y) + 2 * E := by
  rw [Nat.add_comm R P] at y1 y2
  have e : E * (P + R) = E * P + E * R := Nat.mul_add _ _ _
  have f1 : (X + Y) * (P + R) = X * (P + R) + Y * (P + R) := Nat.add_mul _ _ _
  constructor
  · refine Nat.le_of_mul_le_mul_right (c := P + R) ?_ h0
    rw [Nat.mul_assoc, Nat.mul_assoc, f1]
    rw [e] at x1 x2 y1 y2 ⊢
    generalize E * P = a at *
    generalize E * R = b at *
    generalize X * (P + R) = u at *
    generalize Y * (P + R) = v at *
    clear f1 e
    omega
  · refine Nat.le_of_mul_le_mul_right (c := P + R) ?_ h0
    rw [Nat.add_mul, Nat.mul_assoc, Nat.mul_assoc, Nat.mul_assoc, f1]
    rw [e] at x1 x2 y1 y2 ⊢
    generalize E * P = a at *
    generalize E * R = b at *
    generalize X * (P + R) = u at *
    generalize Y * (P + R) = v at *
    clear f1 e
    omega
theorem order_neg2 (q c : Nat) (hq : q < 9218868437227405312) (hc : c < 9218868437227405312) : FloatKind.f64.format.order (9223372036854775808 + q) (9223372036854775808 + c) = some (if c < q then .lt else if c = q then .eq else .gt) := by
  have h := order_val c q hc hq
  unfold Ieee.Format.order at h ⊢
  rw [read_negw q (by omega), read_negw c (by omega)]
  obtain ⟨m, k, e1, -⟩ := read_val q hq
  obtain ⟨n, j, e2, -⟩ := read_val c hc
  rw [e1, e2] at h ⊢
  simp only [Ieee.Datum.opposite, Ieee.Datum.order, cmp_int, Ieee.signed, Bool.not_false, Bool.false_eq_true, ↓reduceIte] at h ⊢
  rw [Int.min_comm (-1074 + (j : Int))] at h
  generalize (m <<< (-1074 + (k : Int) - min (-1074 + (k : Int)) (-1074 + (j : Int))).toNat) = u at *
  generalize (n <<< (-1074 + (j : Int) - min (-1074 + (k : Int)) (-1074 + (j : Int))).toNat) = v at *
  rw [← h]
  by_cases z : v < u
  · rw [if_pos (show -(u : Int) < -(v : Int) by omega), if_pos (show (v : Int) < (u : Int) by omega)]
  · rw [if_neg (show ¬ -(u : Int) < -(v : Int) by omega), if_neg (show ¬ (v : Int) < (u : Int) by omega)]
    by_cases y : v = u
    · rw [if_pos (show -(u : Int) = -(v : Int) by omega), if_pos (show (v : Int) = (u : Int) by omega)]
    · rw [if_neg (show ¬ -(u : Int) = -(v : Int) by omega), if_neg (show ¬ (v : Int) = (u : Int) by omega)]
theorem sub_val (r q : Nat) (h : r < 9218868437227405312) (hq : q < 9218868437227405312) : FloatKind.f64.format.sub r q = some (if val q ≤ val r then min (rung (val r - val q) 0) 9218868437227405312 else 9223372036854775808 + min (rung (val q - val r) 0) 9218868437227405312) := by
  obtain ⟨m, k, e1, v1, m1, k1⟩ := read_val2 r h
  obtain ⟨n, l, e2, v2, n1, l1⟩ := read_val2 q hq
  unfold Ieee.Format.sub
  rw [e1, e2]
  have hmin : min (-1074 + (k : Int)) (-1074 + (l : Int)) = -1074 + ((min k l : Nat) : Int) := by omega
  have a1 : (-1074 + (k : Int) - (-1074 + ((min k l : Nat) : Int))).toNat = k - min k l := by omega
  have a2 : (-1074 + (l : Int) - (-1074 + ((min k l : Nat) : Int))).toNat = l - min k l := by omega
  simp only [Ieee.Datum.opposite, Ieee.Datum.sum, hmin, a1, a2, Option.map_some, Ieee.signed, Bool.not_false, Bool.false_eq_true, ↓reduceIte, Nat.shiftLeft_eq, Bool.false_and, Ieee.Format.write]
  refine congrArg some ?_
  have b1 : m * 2 ^ (k - min k l) * 2 ^ (min k l) = val r := by rw [Nat.mul_assoc, ← Nat.pow_add, show k - min k l + min k l = k by omega]; exact v1
  have b2 : n * 2 ^ (l - min k l) * 2 ^ (min k l) = val q := by rw [Nat.mul_assoc, ← Nat.pow_add, show l - min k l + min k l = l by omega]; exact v2
  rw [← b1, ← b2, ← Nat.sub_mul, ← Nat.sub_mul]
  generalize m * 2 ^ (k - min k l) = x
  generalize n * 2 ^ (l - min k l) = y
  have hp := Nat.two_pow_pos (min k l)
  by_cases c : y ≤ x
  · rw [if_pos (Nat.mul_le_mul_right _ c)]
    have hneg : (if ((x : Nat) : Int) + -((y : Nat) : Int) = 0 then false else decide (((x : Nat) : Int) + -((y : Nat) : Int) < 0)) = false := by
      split
      · rfl
      · exact decide_eq_false (by omega)
    have habs : (((x : Nat) : Int) + -((y : Nat) : Int)).natAbs = x - y := by omega
    rw [hneg, habs]
    exact nearest_up (x - y) (min k l)
  · rw [if_neg (fun z => c (Nat.le_of_mul_le_mul_right z hp))]
    have hneg : (if ((x : Nat) : Int) + -((y : Nat) : Int) = 0 then false else decide (((x : Nat) : Int) + -((y : Nat) : Int) < 0)) = true := by
      rw [if_neg (by omega)]
      exact decide_eq_true (by omega)
    have habs : (((x : Nat) : Int) + -((y : Nat) : Int)).natAbs = y - x := by omega
    rw [hneg, habs, nearest_neg, nearest_up (y - x) (min k l)]
theorem eps_val : val 4427038433705197568 * 1099511627776 = EE := by decide +kernel
/-- what the law reads of two words whose sum is about 1 -/
theorem one_end {x y : Nat} (hx : x ≤ 4607182418800017408) (hy : y ≤ 4607182418800017408) (h1 : 140737488355328 * (val x + val y) ≤ 140737488355330 * EE) (h2 : 140737488355328 * EE ≤ 140737488355328 * (val x + val y) + 2 * EE) :
    ∃ s d, FloatKind.f64.format.add x y = some s ∧ FloatKind.f64.format.sub s 4607182418800017408 = some d ∧ (FloatKind.f64.format.order d 4427038433705197568 == some .lt || FloatKind.f64.format.order d 4427038433705197568 == some .eq) = true ∧ (FloatKind.f64.format.order d 13650410470559973376 == some .gt || FloatKind.f64.format.order d 13650410470559973376 == some .eq) = true := by
  have hE := ee_ge
  obtain ⟨t1, t2⟩ := rung_near (val x + val y) 0
  rw [Nat.pow_zero, Nat.mul_one] at t1 t2
  have ha := add_word x y (by omega) (by omega)
  generalize val x + val y = S at *
  have hlt : rung S 0 < 9218868437227405312 := by
    rcases Nat.lt_or_ge (rung S 0) 9218868437227405312 with c | c
    · exact c
    · exfalso
      have hv := Nat.le_trans inf_ge (val_mono c)
      generalize val (rung S 0) = z at *
      clear ha
      generalize EE = u at *
      omega
  rw [Nat.min_eq_left (by omega)] at ha
  generalize rung S 0 = s at *
  have b1 : 17592186044416 * val s ≤ 17592186044416 * EE + EE := by
    clear ha hlt hx hy
    generalize val s = z at *
    generalize EE = u at *
    omega
  have b2 : 17592186044416 * EE ≤ 17592186044416 * val s + EE := by
    clear ha hlt hx hy b1
    generalize val s = z at *
    generalize EE = u at *
    omega
  have hd := sub_val s 4607182418800017408 hlt (by decide)
  rw [val_one] at hd
  refine ⟨s, _, ha, hd, ?_⟩
  have he := eps_val
  have ev := rung_val 4427038433705197568
  by_cases c : EE ≤ val s
  · rw [if_pos c]
    have hm : rung (val s - EE) 0 ≤ 4427038433705197568 := by
      rw [← ev]
      refine rung_mono 0 ?_
      generalize val s = z at *
      generalize val 4427038433705197568 = e at *
      generalize EE = u at *
      clear ha hd ev
      omega
    rw [Nat.min_eq_left (by omega)]
    generalize rung (val s - EE) 0 = d at *
    rw [order_le d _ (by omega) (by decide)]
    have o2 := (order_negw d 4427038433705197568 (by omega) (by decide)).1
    change FloatKind.f64.format.order d 13650410470559973376 = _ at o2
    rw [o2, if_neg (show ¬ (d = 0 ∧ (4427038433705197568 : Nat) = 0) from fun z => absurd z.2 (by decide))]
    refine ⟨?_, rfl⟩
    by_cases z : d < 4427038433705197568
    · rw [if_pos z]; rfl
    · rw [if_neg z, if_pos (by omega)]; rfl
  · rw [if_neg c]
    have hm : rung (EE - val s) 0 ≤ 4427038433705197568 := by
      rw [← ev]
      refine rung_mono 0 ?_
      generalize val s = z at *
      generalize val 4427038433705197568 = e at *
      generalize EE = u at *
      clear ha hd ev
      omega
    rw [Nat.min_eq_left (by omega)]
    generalize rung (EE - val s) 0 = d at *
    rw [(order_negw 4427038433705197568 d (by decide) (by omega)).2, if_neg (show ¬ ((4427038433705197568 : Nat) = 0 ∧ d = 0) from fun z => absurd z.1 (by decide))]
    have o2 := order_neg2 d 4427038433705197568 (by omega) (by decide)
    change FloatKind.f64.format.order (9223372036854775808 + d) 13650410470559973376 = _ at o2
    rw [o2, if_neg (by omega)]
    refine ⟨rfl, ?_⟩
    by_cases z : 4427038433705197568 = d
    · rw [if_pos z]; rfl
    · rw [if_neg z]; rfl
theorem zero_word {b : Nat} (hb : isNum b = true) (h : FloatKind.f64.format.order b 0 = some .eq) : FloatKind.f64.format.read b = FloatKind.f64.format.read 0 ∨ FloatKind.f64.format.read b = .number true 0 (-1074) := by
  rcases not_neg hb (by rw [h]; rfl) with ⟨r, hr, e⟩ | e
  · left
    have h2 := order_val r 0 hr (by decide)
    unfold Ieee.Format.order at h h2
    rw [e, h2, if_neg (by omega)] at h
    by_cases z : r = 0
    · rw [e, z]
    · rw [if_neg z] at h
      cases h
  · exact .inr e
theorem wgt_far {k : Int} {a b : Nat} (hb : FloatKind.f64.format.order b 0 = some .eq) : wgt k b a = 0 := if_neg fun g => by
  have := g.2.1
  rw [hb] at this
  cases this
theorem wgt_one {k : Int} {a b : Nat} (hk : k = 1 ∨ k = 2) (ha : isNum a = true) (hb : isNum b = true) (ga : FloatKind.f64.format.order a 0 = some .gt) (gb : FloatKind.f64.format.order b 0 = some .eq) : wgt k a b = 4607182418800017408 := by
  have hw : wgt k a b = wq k (dv b a) := if_pos ⟨hk, ga, .inr gb, ha, hb⟩
  obtain ⟨q, q0, q1, qa⟩ := pos_word ha ga
  rw [hw]
  rcases zero_word hb gb with e | e
  · have : dv b a = 0 := by
      rw [dv_word e qa (by decide) q0 q1]
      have v0 : val 0 = 0 := rfl
      rw [v0, Nat.zero_mul, qrung_zero _ _ (val_pos q0), Nat.zero_min]
    rw [this, wq_zero]
  · rw [dv_negz e qa q0 q1, wq_negz]
theorem wq_near (k : Int) {r P R : Nat} (h : nearS r P R) : ∃ P' R', (P' = if k = 2 then P * P else P) ∧ (R' = if k = 2 then R * R else R) ∧ wq k r ≤ 4607182418800017408 ∧ 140737488355328 * (val (wq k r) * (P' + R')) ≤ 140737488355328 * (EE * P') + EE * (P' + R') ∧ 140737488355328 * (EE * P') ≤ 140737488355328 * (val (wq k r) * (P' + R')) + EE * (P' + R') := by
  refine ⟨_, _, rfl, rfl, ?_⟩
  unfold wq
  by_cases c : k = 2
  · rw [if_pos c, if_pos c, if_pos c]
    exact near_inv (near_ml h)
  · rw [if_neg c, if_neg c, if_neg c]
    exact near_inv (near_of h)
/-- both weights, and their sum -/
theorem one_law {k : Int} {a b : Nat} (hk : k = 1 ∨ k = 2) (ha : isNum a = true) (hb : isNum b = true) (la : (FloatKind.f64.format.order a 0 == some .lt) = false) (lb : (FloatKind.f64.format.order b 0 == some .lt) = false) (hz : ((FloatKind.f64.format.order a 0 == some .eq) && (FloatKind.f64.format.order b 0 == some .eq)) = false) :
    wgt k a b ≤ 4607182418800017408 ∧ wgt k b a ≤ 4607182418800017408 ∧ ∃ s d, FloatKind.f64.format.add (wgt k a b) (wgt k b a) = some s ∧ FloatKind.f64.format.sub s 4607182418800017408 = some d ∧ (FloatKind.f64.format.order d 4427038433705197568 == some .lt || FloatKind.f64.format.order d 4427038433705197568 == some .eq) = true ∧ (FloatKind.f64.format.order d 13650410470559973376 == some .gt || FloatKind.f64.format.order d 13650410470559973376 == some .eq) = true := by
  have cls {x : Nat} (hx : isNum x = true) (lx : (FloatKind.f64.format.order x 0 == some .lt) = false) : FloatKind.f64.format.order x 0 = some .gt ∨ FloatKind.f64.format.order x 0 = some .eq := by
    have h := lt_ge hx
    rw [lx] at h
    have h' : (FloatKind.f64.format.order x 0 == some .gt || FloatKind.f64.format.order x 0 == some .eq) = true := by
      cases z : (FloatKind.f64.format.order x 0 == some .gt || FloatKind.f64.format.order x 0 == some .eq) with
      | true => rfl
      | false => rw [z] at h; cases h
    simpa using h'
  have v0 : val 0 = 0 := rfl
  rcases cls ha la with ga | ga
  · rcases cls hb lb with gb | gb
    · obtain ⟨q, q0, q1, qa⟩ := pos_word ha ga
      obtain ⟨r, r0, r1, rb⟩ := pos_word hb gb
      have hab : wgt k a b = wq k (dv b a) := if_pos ⟨hk, ga, .inl gb, ha, hb⟩
      have hba : wgt k b a = wq k (dv a b) := if_pos ⟨hk, gb, .inl ga, hb, ha⟩
      obtain ⟨P, R, hP, hR, x0, x1, x2⟩ := wq_near k (near_dv rb qa r1 q0 q1)
      obtain ⟨R', P', hR', hP', y0, y1, y2⟩ := wq_near k (near_dv qa rb q1 r0 r1)
      rw [hab, hba]
      have p0 : 0 < P := by
        have := val_pos q0
        rw [hP]
        split
        · exact Nat.mul_pos this this
        · exact this
      rw [← hP] at hP'
      rw [← hR] at hR'
      rw [hP', hR'] at y1 y2
      obtain ⟨n1, n2⟩ := one_num EE P R _ _ (by omega) x1 x2 y1 y2
      exact ⟨x0, y0, one_end x0 y0 n1 n2⟩
    · rw [wgt_one hk ha hb ga gb, wgt_far gb]
      refine ⟨Nat.le_refl _, Nat.zero_le _, one_end (Nat.le_refl _) (Nat.zero_le _) ?_ ?_⟩
      · rw [val_one]
        exact k_one _ _ v0
      · rw [val_one]
        exact k_two _ _ v0
  · rcases cls hb lb with gb | gb
    · rw [wgt_one hk hb ha gb ga, wgt_far ga]
      refine ⟨Nat.zero_le _, Nat.le_refl _, one_end (Nat.zero_le _) (Nat.le_refl _) ?_ ?_⟩
      · rw [val_one]
        exact k_three _ _ v0
      · rw [val_one]
        exact k_four _ _ v0
    · rw [ga, gb] at hz
      cases hz
/-- a word without sign is not below 0 -/
theorem word_ge {x : Nat} (h : x ≤ 4607182418800017408) : (FloatKind.f64.format.order x 0 == some .gt || FloatKind.f64.format.order x 0 == some .eq) = true := by
  rw [order_le x 0 (by omega) (by decide), if_neg (by omega)]
  by_cases z : x = 0
  · rw [if_pos z]; rfl
  · rw [if_neg z]; rfl
end Go.Proofs.Ytncbomdngldhbaa.Gv
