/- The prime 2147483647, and Fermat's little theorem for it: plain numbers, no program. -/
namespace Go.Proofs.Ytkmdbidjdppdnaa.Pl

/-- no d in [lo, lo + 2^k) divides n -/
def noDiv (n : Nat) : Nat → Nat → Bool
  | 0, lo => n % lo != 0
  | k + 1, lo => noDiv n k lo && noDiv n k (lo + 2 ^ k)

theorem noDiv_spec (n : Nat) : ∀ (k lo : Nat), noDiv n k lo = true → ∀ d, lo ≤ d → d < lo + 2 ^ k → n % d ≠ 0 := by
  intro k
  induction k with
  | zero =>
    intro lo h d h1 h2
    have : d = lo := by simp at h2; omega
    subst this
    simpa [noDiv] using h
  | succ k ih =>
    intro lo h d h1 h2
    simp only [noDiv, Bool.and_eq_true] at h
    rw [Nat.pow_succ] at h2
    by_cases hd : d < lo + 2 ^ k
    · exact ih lo h.1 d h1 hd
    · exact ih (lo + 2 ^ k) h.2 d (by omega) (by omega)

theorem coprime_of_noDiv (p q : Nat) (hq : p < q * q) (h : ∀ d, 2 ≤ d → d < q → p % d ≠ 0) (a : Nat) (h0 : 0 < a) (hp : a < p) : Nat.Coprime a p := by
  have hg1 : Nat.gcd a p ∣ a := Nat.gcd_dvd_left a p
  have hg2 : Nat.gcd a p ∣ p := Nat.gcd_dvd_right a p
  have hgle : Nat.gcd a p ≤ a := Nat.le_of_dvd h0 hg1
  have hgpos : 0 < Nat.gcd a p := Nat.gcd_pos_of_pos_left p h0
  unfold Nat.Coprime
  generalize Nat.gcd a p = g at *
  by_cases h1 : g = 1
  · exact h1
  exfalso
  obtain ⟨c, hc⟩ := hg2
  by_cases hgq : g < q
  · exact h g (by omega) hgq (by rw [hc]; exact Nat.mul_mod_right g c)
  · have hcq : c < q := by
      apply Nat.lt_of_not_le
      intro hcq
      have : q * q ≤ g * c := Nat.mul_le_mul (by omega) hcq
      omega
    have hc2 : 2 ≤ c := by
      rcases Nat.lt_or_ge c 2 with h2 | h2
      · have : c = 0 ∨ c = 1 := by omega
        rcases this with rfl | rfl
        · simp at hc; omega
        · simp at hc; omega
      · exact h2
    exact h c hc2 hcq (by rw [hc]; exact Nat.mul_mod_left g c)

def prodl (l : List Nat) : Nat := l.foldr (· * ·) 1
theorem prodl_cons (x : Nat) (l : List Nat) : prodl (x :: l) = x * prodl l := rfl

theorem prodl_perm {l m : List Nat} (h : l.Perm m) : prodl l = prodl m := by
  induction h with
  | nil => rfl
  | cons x _ ih => simp [prodl_cons, ih]
  | swap x y l => simp [prodl_cons, Nat.mul_left_comm]
  | trans _ _ ih1 ih2 => exact ih1.trans ih2

theorem perm_of_nodup_sub : ∀ (m l : List Nat), m.Nodup → (∀ x ∈ m, x ∈ l) → l.length ≤ m.length → m.Perm l := by
  intro m
  induction m with
  | nil =>
    intro l _ _ h
    have : l = [] := List.eq_nil_of_length_eq_zero (by simpa using h)
    subst this
    exact List.Perm.nil
  | cons x m ih =>
    intro l hn hs hl
    rw [List.nodup_cons] at hn
    have hx : x ∈ l := hs x (by simp)
    have hp := List.perm_cons_erase hx
    refine List.Perm.trans (List.Perm.cons x ?_) hp.symm
    refine ih (l.erase x) hn.2 ?_ ?_
    · intro y hy
      exact (List.mem_erase_of_ne (by rintro rfl; exact hn.1 hy)).2 (hs y (by simp [hy]))
    · have := hp.length_eq
      simp at this hl
      omega

theorem prodl_map_mod (p a : Nat) : ∀ l : List Nat, prodl (l.map fun x => a * x % p) % p = (a ^ l.length * prodl l) % p := by
  intro l
  induction l with
  | nil => simp [prodl]
  | cons x l ih =>
    simp only [List.map_cons, prodl_cons, List.length_cons]
    rw [Nat.mul_mod, ih, ← Nat.mul_mod, Nat.mul_mod, Nat.mod_mod, ← Nat.mul_mod, Nat.pow_succ]
    congr 1
    simp only [Nat.mul_comm, Nat.mul_left_comm, Nat.mul_assoc]

theorem prodl_coprime (p : Nat) : ∀ l : List Nat, (∀ x ∈ l, Nat.Coprime x p) → Nat.Coprime (prodl l) p := by
  intro l
  induction l with
  | nil => intro _; simp [prodl]
  | cons x l ih =>
    intro h
    rw [prodl_cons]
    exact Nat.Coprime.mul_left (h x (by simp)) (ih fun y hy => h y (by simp [hy]))

theorem dvd_sub_of_mod {p u v : Nat} (huv : u ≤ v) (e : u % p = v % p) : p ∣ v - u := by
  have h1 := Nat.div_add_mod u p
  have h2 := Nat.div_add_mod v p
  have h3 : u / p ≤ v / p := Nat.div_le_div_right huv
  refine ⟨v / p - u / p, ?_⟩
  rw [Nat.mul_sub]
  have := Nat.mul_le_mul_left p h3
  omega

theorem nodup_map_mul (p a : Nat) (ha : Nat.Coprime a p) : ∀ l : List Nat, l.Nodup → (∀ x ∈ l, x < p) → (l.map fun x => a * x % p).Nodup := by
  intro l
  induction l with
  | nil => intro _ _; simp
  | cons x l ih =>
    intro hn hlt
    rw [List.nodup_cons] at hn
    rw [List.map_cons, List.nodup_cons]
    refine ⟨?_, ih hn.2 fun y hy => hlt y (by simp [hy])⟩
    intro hm
    obtain ⟨y, hy, e⟩ := List.mem_map.1 hm
    have hx := hlt x (by simp)
    have hyp := hlt y (by simp [hy])
    have key : ∀ u v : Nat, u ≤ v → v < p → a * u % p = a * v % p → u = v := by
      intro u v huv hv e
      have hd : p ∣ a * v - a * u := dvd_sub_of_mod (Nat.mul_le_mul_left a huv) e
      rw [← Nat.mul_sub] at hd
      have := (Nat.Coprime.symm ha).dvd_of_dvd_mul_left hd
      rcases Nat.eq_zero_or_pos (v - u) with h0 | h0
      · omega
      · have := Nat.le_of_dvd h0 this; omega
    have : y = x := by
      rcases Nat.le_total y x with h | h
      · exact key y x h hx e
      · exact (key x y h hyp e.symm).symm
    subst this
    exact hn.1 hy

theorem fermat (p : Nat) (hp2 : 2 ≤ p) (hc : ∀ x, 0 < x → x < p → Nat.Coprime x p) (a : Nat) (ha : a % p ≠ 0) : a ^ (p - 1) % p = 1 := by
  have hapos : 0 < a % p := Nat.pos_of_ne_zero ha
  have hac : Nat.Coprime a p := by
    have := hc (a % p) hapos (Nat.mod_lt _ (by omega))
    unfold Nat.Coprime at this ⊢
    rw [Nat.gcd_comm a p, Nat.gcd_rec p a]
    exact this
  let l := List.range' 1 (p - 1)
  have hl : ∀ x, x ∈ l ↔ 1 ≤ x ∧ x < p := by
    intro x
    simp only [l, List.mem_range'_1]
    omega
  have hnd : l.Nodup := List.nodup_range'
  have hlen : l.length = p - 1 := by simp [l]
  have hperm : (l.map fun x => a * x % p).Perm l := by
    refine perm_of_nodup_sub _ _ (nodup_map_mul p a hac l hnd fun x hx => ((hl x).1 hx).2) ?_ (by simp)
    intro y hy
    obtain ⟨x, hx, rfl⟩ := List.mem_map.1 hy
    have hx' := (hl x).1 hx
    rw [hl]
    refine ⟨?_, Nat.mod_lt _ (by omega)⟩
    apply Nat.pos_of_ne_zero
    intro h0
    have hd : p ∣ a * x := Nat.dvd_of_mod_eq_zero h0
    have := (Nat.Coprime.symm hac).dvd_of_dvd_mul_left hd
    have := Nat.le_of_dvd (by omega) this
    omega
  have h1 := prodl_map_mod p a l
  rw [prodl_perm hperm, hlen] at h1
  have hQ : Nat.Coprime (prodl l) p := prodl_coprime p l fun x hx => hc x ((hl x).1 hx).1 ((hl x).1 hx).2
  have hpos : 1 ≤ a ^ (p - 1) := by
    apply Nat.pow_pos
    rcases Nat.eq_zero_or_pos a with h | h
    · subst h; simp at ha
    · exact h
  generalize prodl l = Q at *
  generalize a ^ (p - 1) = A at *
  have hd : p ∣ A * Q - Q := by
    have := dvd_sub_of_mod (show Q ≤ A * Q from by
      have := Nat.mul_le_mul_right Q hpos
      omega) h1
    exact this
  have e : A * Q - Q = (A - 1) * Q := by rw [Nat.sub_mul, Nat.one_mul]
  rw [e] at hd
  have hd2 := (Nat.Coprime.symm hQ).dvd_of_dvd_mul_right hd
  obtain ⟨c, hc⟩ := hd2
  have : A = 1 + p * c := by omega
  rw [this, Nat.add_mul_mod_self_left]
  exact Nat.mod_eq_of_lt (by omega)

/-- the prime -/
def PN : Nat := 2147483647
theorem PN_eq : PN = 2147483647 := rfl
theorem noDivP : noDiv PN 16 2 = true := by decide +kernel

theorem coprimeP (x : Nat) (h0 : 0 < x) (h : x < PN) : Nat.Coprime x PN :=
  coprime_of_noDiv PN 46342 (by decide) (fun d h2 hd => noDiv_spec _ 16 2 noDivP d h2 (by omega)) x h0 h

theorem fermatP (a : Nat) (ha : a % PN ≠ 0) : a ^ (PN - 1) % PN = 1 :=
  fermat PN (by decide) coprimeP a ha

end Go.Proofs.Ytkmdbidjdppdnaa.Pl
