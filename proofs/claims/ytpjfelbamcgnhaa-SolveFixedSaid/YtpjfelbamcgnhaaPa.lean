/- What the printed functions of layer 30 tell, as plain sums, products and powers modulo the prime. -/
import Derived.Test.YtpjfelbamcgnhaaXxA30
import Derived.Test.YtpjfelbamcgnhaaFa
namespace Go.Proofs.Ytpjfelbamcgnhaa.Pa
open Go.RowKit Go.Proofs.Ytpjfelbamcgnhaa.X Go.Proofs.YtpjfelbamcgnhaaW.PrintWords Pl Gv

theorem ev_pos {α : Type} {c : Prop} [Decidable c] {f g : Nat → Option α} {r : α} (h : c) (e : Ev f r) : Ev (fun k => if c then f k else g k) r := Ev.congr (fun _ => if_pos h) e
theorem ev_neg {α : Type} {c : Prop} [Decidable c] {f g : Nat → Option α} {r : α} (h : ¬ c) (e : Ev g r) : Ev (fun k => if c then f k else g k) r := Ev.congr (fun _ => if_neg h) e
theorem ev_some {α β : Type} {a : α} {f : Nat → α → Option β} {r : β} (e : Ev (fun k => f k a) r) : Ev (fun k => (some a).bind (f k)) r := e
theorem wrap_id {n : Int} (h0 : -9223372036854775808 ≤ n) (h1 : n ≤ 9223372036854775807) : wrap64 n = n := by unfold wrap64; omega
theorem tmod_of {n : Int} (h : 0 ≤ n) : Int.tmod n 2147483647 = of n := by unfold of; exact Int.tmod_eq_emod_of_nonneg h

theorem Of_eq (a : Int) : field_Of.f a = some (of a) := by
  have h := of_go a
  have r := tmod_range a
  unfold field_Of.f
  by_cases c : Int.tmod a 2147483647 < 0
  · rw [if_pos c] at h ⊢; rw [wrap_id (by omega) (by omega), h]
  · rw [if_neg c] at h ⊢; rw [h]
theorem ROf_eq (a : Int) : penumbraref30_Of.f a = some (of a) := Of_eq a
theorem RMul_eq (a b : Int) : penumbraref30_Mul.f a b = some (of (a * b)) := by
  have h := mul_bound a b
  unfold penumbraref30_Mul.f
  rw [ROf_eq, ROf_eq]
  simp only [Option.bind_some]
  rw [wrap_id (by omega) (by omega), tmod_of h.1, of_mul]
theorem RAdd_eq (a b : Int) : penumbraref30_Add.f a b = some (of (a + b)) := by
  have h1 := of_nonneg a; have h2 := of_lt a; have h3 := of_nonneg b; have h4 := of_lt b
  unfold penumbraref30_Add.f
  rw [ROf_eq, ROf_eq]
  simp only [Option.bind_some]
  rw [wrap_id (by omega) (by omega), tmod_of (by omega), of_add]
theorem RSub_eq (a b : Int) : penumbraref30_Sub.f a b = some (of (a - b)) := by
  have h1 := of_nonneg a; have h2 := of_lt a; have h3 := of_nonneg b; have h4 := of_lt b
  unfold penumbraref30_Sub.f
  rw [ROf_eq, ROf_eq]
  simp only [Option.bind_some]
  rw [wrap_id (n := of a + 2147483647) (by omega) (by omega), wrap_id (by omega) (by omega), tmod_of (by omega)]
  congr 1
  rw [show of a + 2147483647 - of b = (of a - of b) + 2147483647 * 1 from by omega, of_congr 1 rfl, of_sub]
theorem Sub_eq (a b : Int) : field_Sub.f a b = some (of (a - b)) := by
  have h1 := of_nonneg a; have h2 := of_lt a; have h3 := of_nonneg b; have h4 := of_lt b
  unfold field_Sub.f
  rw [Of_eq, Of_eq]
  simp only [Option.bind_some]
  rw [wrap_id (by omega) (by omega), Of_eq, of_sub]
  rfl
theorem suml2 (a b : Int) : suml [a, b] = of (a + b) := by simp [suml]
theorem prodl2 (a b : Int) : prodl' [a, b] = of (a * b) := by simp [prodl']
theorem Mul2_eq (a b : Int) : field_Mul.f [a, b] = some (of (a * b)) := by unfold field_Mul.f; rw [prodl2]

/-! powers -/
def pw (a : Int) (n : Nat) : Int := of (a ^ n)
theorem pw_zero (a : Int) : pw a 0 = 1 := by unfold pw; rw [Int.pow_zero]; exact of_one
theorem pw_succ (a : Int) (n : Nat) : pw a (n + 1) = of (pw a n * a) := by unfold pw; rw [Int.pow_succ, of_mul_left]
theorem pw_add (a : Int) (m n : Nat) : pw a (m + n) = of (pw a m * pw a n) := by unfold pw; rw [Int.pow_add, of_mul]
theorem pw_range (a : Int) (n : Nat) : 0 ≤ pw a n ∧ pw a n < 2147483647 := ⟨of_nonneg _, of_lt _⟩

theorem half_pow (b : Int) (n : Nat) : b ^ n = (b * b) ^ (n / 2) * b ^ (n % 2) := by
  have e : n = 2 * (n / 2) + n % 2 := by omega
  have h2 : b * b = b ^ 2 := by rw [Int.pow_succ, Int.pow_succ, Int.pow_zero, Int.one_mul]
  calc b ^ n = b ^ (2 * (n / 2) + n % 2) := by rw [← e]
    _ = (b * b) ^ (n / 2) * b ^ (n % 2) := by rw [Int.pow_add, Int.pow_mul, ← h2]
theorem of_pow (a : Int) (n : Nat) : of ((of a) ^ n) = of (a ^ n) := by
  induction n with
  | zero => rw [Int.pow_zero, Int.pow_zero]
  | succ n ih => rw [Int.pow_succ, Int.pow_succ, ← of_mul, ih, of_of, of_mul]

theorem Pow_loop : ∀ (n : Nat) (o b : Int), n ≤ 9223372036854775807 → Ev (fun k => field_Pow.l0 k (n : Int) (of o) b) (of (o * b ^ n)) := by
  intro n
  induction n using Nat.strongRecOn with
  | _ n ih =>
    intro o b hn
    refine Ev.step (fun k => by rw [field_Pow.l0]) ?_
    by_cases h0 : n = 0
    · subst h0
      rw [Int.pow_zero, Int.mul_one]
      exact ev_neg (by omega) (Ev.now _)
    · have e1 : Int.tmod (n : Int) 2 = ((n % 2 : Nat) : Int) := by rw [Int.tmod_eq_emod_of_nonneg (by omega)]; rfl
      have e2 : wrap64 (Int.tdiv (n : Int) 2) = ((n / 2 : Nat) : Int) := by
        rw [Int.tdiv_eq_ediv_of_nonneg (by omega), show ((n : Int) / 2) = ((n / 2 : Nat) : Int) from rfl]
        exact wrap_id (by omega) (by omega)
      have key := half_pow b n
      refine ev_pos (by omega) ?_
      rw [e1, e2]
      by_cases h1 : n % 2 = 1
      · refine ev_pos (by omega) ?_
        rw [Mul2_eq, Mul2_eq]
        simp only [Option.bind_some]
        have := ih (n / 2) (by omega) (of o * b) (of (b * b)) (by omega)
        have e : of (of o * b * of (b * b) ^ (n / 2)) = of (o * b ^ n) := by
          rw [← of_mul (of o * b), of_pow, of_mul_left o b, of_mul, key, h1, Int.pow_succ, Int.pow_zero, Int.one_mul]
          congr 1
          rw [Int.mul_assoc, Int.mul_comm b]
        rw [← e]
        exact this
      · refine ev_neg (by omega) ?_
        rw [Mul2_eq]
        simp only [Option.bind_some]
        have := ih (n / 2) (by omega) o (of (b * b)) (by omega)
        have e : of (o * of (b * b) ^ (n / 2)) = of (o * b ^ n) := by
          rw [← of_mul, of_pow, of_mul, key, show n % 2 = 0 from by omega, Int.pow_zero, Int.mul_one]
        rw [← e]
        exact this
theorem Pow_ev (a : Int) (n : Nat) (hn : n ≤ 9223372036854775807) : Ev (fun k => field_Pow.f k a (n : Int)) (pw a n) := by
  unfold field_Pow.f
  refine ev_neg (by omega) ?_
  rw [Of_eq]
  simp only [Option.bind_some]
  have := Pow_loop n 1 (of a) hn
  rw [of_one, Int.one_mul, of_pow] at this
  exact this
theorem Pow_neg (a n : Int) (hn : n < 0) : Ev (fun k => field_Pow.f k a n) 0 := by
  unfold field_Pow.f
  exact ev_pos hn (Ev.now 0)
/-! inverses -/
theorem inv_unique {a r s : Int} (hr : 0 ≤ r ∧ r < 2147483647) (hs : 0 ≤ s ∧ s < 2147483647) (h1 : of (r * a) = 1) (h2 : of (s * a) = 1) : r = s := by
  have e1 : of (r * (s * a)) = r := by rw [← of_mul_right, h2, Int.mul_one, of_id hr.1 hr.2]
  have e2 : of (s * (r * a)) = s := by rw [← of_mul_right, h1, Int.mul_one, of_id hs.1 hs.2]
  exact e1.symm.trans ((congrArg of (Int.mul_left_comm r s a)).trans e2)
def invP (a : Int) : Int := pw a 2147483645
theorem invP_range (a : Int) : 0 ≤ invP a ∧ invP a < 2147483647 := pw_range _ _
theorem invP_mul (a : Int) (ha : of a ≠ 0) : of (invP a * a) = 1 := by
  unfold invP
  rw [← pw_succ]
  unfold pw
  rw [← of_pow]
  obtain ⟨m, hm⟩ := Int.eq_ofNat_of_zero_le (of_nonneg a)
  have hlt := of_lt a
  rw [hm]
  have h := fermatP m (by
    intro h0
    apply ha
    rw [PN_eq, Nat.mod_eq_of_lt (by omega)] at h0
    omega)
  have e : PN - 1 = 2147483645 + 1 := rfl
  rw [e] at h
  generalize 2147483645 + 1 = N at *
  unfold of
  rw [show ((m : Int) ^ N) = ((m ^ N : Nat) : Int) from by simp]
  rw [PN_eq] at h
  omega
theorem Inv_ev (a : Int) : Ev (fun k => field_Inv.f k a) (if of a = 0 then (0, 13) else (invP a, 0)) := by
  unfold field_Inv.f
  rw [Of_eq]
  simp only [Option.bind_some]
  by_cases h : of a = 0
  · rw [if_pos h]; exact ev_pos h (Ev.now _)
  · rw [if_neg h]
    refine ev_neg h ?_
    exact Ev.bind (Pow_ev a 2147483645 (by omega)) (Ev.now _)
theorem RInv_loop (a : Int) : ∀ (y x : Nat) (s t : Int), 0 < x → x ≤ 2147483647 → y ≤ 2147483647 → Nat.gcd x y = 1 → (0 ≤ s ∧ s < 2147483647) → (0 ≤ t ∧ t < 2147483647) → of (s * a) = of x → of (t * a) = of y →
    ∃ r, (0 ≤ r ∧ r < 2147483647) ∧ of (r * a) = 1 ∧ Ev (fun k => penumbraref30_Inv.l0 k (x : Int) (y : Int) s t) r := by
  intro y
  induction y using Nat.strongRecOn with
  | _ y ih =>
    intro x s t hx hx1 hy1 hg hs ht e1 e2
    by_cases h0 : y = 0
    · subst h0
      rw [Nat.gcd_zero_right] at hg
      subst hg
      refine ⟨s, hs, e1, ?_⟩
      refine Ev.step (fun k => by rw [penumbraref30_Inv.l0]) ?_
      refine ev_neg (by omega) ?_
      refine Ev.step (fun k => by rw [penumbraref30_Inv.j1]) ?_
      refine ev_neg (by decide) ?_
      exact ev_pos rfl (Ev.now _)
    · have d1 : Int.tdiv (x : Int) (y : Int) = ((x / y : Nat) : Int) := by rw [Int.tdiv_eq_ediv_of_nonneg (by omega)]; rfl
      have d2 : Int.tmod (x : Int) (y : Int) = ((x % y : Nat) : Int) := by rw [Int.tmod_eq_emod_of_nonneg (by omega)]; rfl
      have d3 : x / y ≤ x := Nat.div_le_self _ _
      have d6 : wrap64 ((x / y : Nat) : Int) = ((x / y : Nat) : Int) := by
        generalize x / y = q at d3
        exact wrap_id (by omega) (by omega)
      have d4 := Nat.div_add_mod x y
      have d5 : x % y < y := Nat.mod_lt _ (by omega)
      have hg' : Nat.gcd y (x % y) = 1 := by rw [Nat.gcd_comm, ← Nat.gcd_rec, Nat.gcd_comm]; exact hg
      have hu : of (of (s - of (((x / y : Nat) : Int) * t)) * a) = of ((x % y : Nat) : Int) := by
        rw [of_mul_left, Int.sub_mul, ← of_sub, e1, of_mul_left, Int.mul_assoc, ← of_mul_right, e2, of_mul_right, of_sub]
        congr 1
        have : (x : Int) = (y : Int) * ((x / y : Nat) : Int) + ((x % y : Nat) : Int) := by
          have := congrArg (fun z : Nat => (z : Int)) d4.symm
          simpa using this
        rw [this]
        have c := Int.mul_comm (y : Int) ((x / y : Nat) : Int)
        omega
      obtain ⟨r, hr, hra, hE⟩ := ih (x % y) d5 y t (of (s - of (((x / y : Nat) : Int) * t))) (by omega) (by omega) (by omega) hg' ht ⟨of_nonneg _, of_lt _⟩ e2 hu
      refine ⟨r, hr, hra, ?_⟩
      refine Ev.step (fun k => by rw [penumbraref30_Inv.l0]) ?_
      refine ev_pos (by omega) ?_
      refine Ev.step (fun k => by rw [penumbraref30_Inv.j1]) ?_
      refine ev_pos (by simp; omega) ?_
      refine ev_neg (by omega) ?_
      rw [d1, d2, d6, RMul_eq]
      simp only [Option.bind_some]
      rw [RSub_eq]
      exact hE
theorem RInv_ev (a : Int) (ha : of a ≠ 0) : Ev (fun k => penumbraref30_Inv.f k a) (invP a) := by
  have h1 := of_nonneg a
  have h2 := of_lt a
  obtain ⟨m, hm⟩ := Int.eq_ofNat_of_zero_le h1
  have hg : Nat.gcd 2147483647 m = 1 := by
    rw [Nat.gcd_comm]
    exact coprimeP m (by omega) (by rw [PN_eq]; omega)
  obtain ⟨r, hr, hra, hE⟩ := RInv_loop a m 2147483647 0 1 (by omega) (by omega) (by omega) hg (by omega) (by omega) (by rw [Int.zero_mul]; decide) (by rw [Int.one_mul, ← hm, of_of])
  have e : r = invP a := inv_unique hr (invP_range a) hra (invP_mul a ha)
  rw [← e]
  unfold penumbraref30_Inv.f
  rw [ROf_eq]
  simp only [Option.bind_some]
  rw [hm]
  exact hE
theorem inv_two : invP 2 = 1073741824 := inv_unique (a := 2) (invP_range 2) (by decide) (invP_mul 2 (by decide)) (by decide)

attribute [irreducible] invP pw

/-! lists -/
theorem Clean_loop (l : List Int) (hl : l.length ≤ 17592186044416) : ∀ (d i : Nat), i + d = l.length → Ev (fun k => field_Clean.l0 k ((l.take i).map of) l (l.length : Int) (i : Int)) (l.map of) := by
  intro d
  induction d with
  | zero =>
    intro i hi
    refine Ev.step (fun k => by rw [field_Clean.l0]) ?_
    refine ev_neg (by omega) ?_
    rw [show i = l.length from by omega, List.take_length]
    exact Ev.now _
  | succ d ih =>
    intro i hi
    refine Ev.step (fun k => by rw [field_Clean.l0]) ?_
    refine ev_pos (by omega) ?_
    refine ev_pos (by omega) ?_
    refine ev_pos (by omega) ?_
    rw [Of_eq]
    simp only [Option.bind_some]
    refine ev_pos (by rw [List.length_map, List.length_take]; omega) ?_
    have e : (l.take i).map of ++ [of (rd l i)] = (l.take (i + 1)).map of := by
      rw [Pl.take_snoc l i (by omega), List.map_append]; rfl
    rw [wrap_id (n := (i : Int) + 1) (by omega) (by omega), e]
    exact ih (i + 1) (by omega)
theorem Clean_ev (l : List Int) (hl : l.length ≤ 17592186044416) : Ev (fun k => field_Clean.f k l) (l.map of) := by
  unfold field_Clean.f
  have := Clean_loop l hl l.length 0 (by omega)
  simpa using this
theorem rd_eq (l : List Int) (i : Nat) : rd l (i : Int) = l.getD i 0 := rfl
theorem Ints_loop (a b : List Int) (hl : a.length = b.length) (hm : a.length ≤ 1000000000000000) : ∀ (d i : Nat), i + d = a.length → Ev (fun k => penumbraref01_Ints.l0 k a b (i : Int)) (decide (a.drop i = b.drop i)) := by
  intro d
  induction d with
  | zero =>
    intro i hi
    refine Ev.step (fun k => by rw [penumbraref01_Ints.l0]) ?_
    refine ev_neg (by omega) ?_
    rw [List.drop_eq_nil_of_le (by omega), List.drop_eq_nil_of_le (by omega)]
    exact Ev.now _
  | succ d ih =>
    intro i hi
    have ea : a.drop i = a.getD i 0 :: a.drop (i + 1) := by
      rw [List.drop_eq_getElem_cons (by omega), List.getD_eq_getElem?_getD, List.getElem?_eq_getElem (by omega)]; rfl
    have eb : b.drop i = b.getD i 0 :: b.drop (i + 1) := by
      rw [List.drop_eq_getElem_cons (by omega), List.getD_eq_getElem?_getD, List.getElem?_eq_getElem (by omega)]; rfl
    refine Ev.step (fun k => by rw [penumbraref01_Ints.l0]) ?_
    refine ev_pos (by omega) ?_
    refine ev_pos (by omega) ?_
    refine ev_pos (by omega) ?_
    rw [rd_eq, rd_eq, ea, eb]
    by_cases e : a.getD i 0 = b.getD i 0
    · refine ev_pos e ?_
      rw [wrap_id (n := (i : Int) + 1) (by omega) (by omega)]
      have := ih (i + 1) (by omega)
      rw [show decide (a.getD i 0 :: a.drop (i + 1) = b.getD i 0 :: b.drop (i + 1)) = decide (a.drop (i + 1) = b.drop (i + 1)) from by simp only [List.cons.injEq, e, true_and]]
      exact this
    · refine ev_neg e ?_
      rw [show decide (a.getD i 0 :: a.drop (i + 1) = b.getD i 0 :: b.drop (i + 1)) = false from by simp only [List.cons.injEq, e, false_and, decide_false]]
      exact Ev.now _
theorem Ints_ev (a b : List Int) (hm : a.length ≤ 1000000000000000) : Ev (fun k => penumbraref01_Ints.f k a b) (decide (a = b)) := by
  unfold penumbraref01_Ints.f
  by_cases h : a.length = b.length
  · refine ev_pos (by omega) ?_
    have := Ints_loop a b h hm a.length 0 (by omega)
    simpa using this
  · refine ev_neg (by omega) ?_
    rw [show decide (a = b) = false from by simp; intro e; exact h (by rw [e])]
    exact Ev.now _
theorem Inv_yes (a : Int) (h : of a ≠ 0) : Ev (fun k => field_Inv.f k a) (invP a, 0) := by
  have e := Inv_ev a
  rw [if_neg h] at e
  exact e
theorem Inv_no (a : Int) (h : of a = 0) : Ev (fun k => field_Inv.f k a) (0, 13) := by
  have e := Inv_ev a
  rw [if_pos h] at e
  exact e
end Go.Proofs.Ytpjfelbamcgnhaa.Pa
