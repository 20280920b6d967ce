/- chapter 36, plain: the document's check, terms. -/
import Derived.Test.YtgkncmnkbhgjmaaPk
namespace Go.Proofs.Ytgkncmnkbhgjmaa.Pure
open Go.RowKit Go.Proofs.Ytgkncmnkbhgjmaa.X Go.Proofs.YtgkncmnkbhgjmaaW.PrintWords Go.Proofs.YtgkncmnkbhgjmaaW.PrintLast
def OutOf (l : List Int) (M : Int) (i n : Nat) : Prop := ∃ j, i ≤ j ∧ j < n ∧ ¬ (0 ≤ l.getD j 0 ∧ l.getD j 0 ≤ M)
theorem out_step {l : List Int} {M : Int} {i n : Nat} (hi : i < n) (b b' : Bool) (hb : b = true ↔ (b' = true ∨ ¬ (0 ≤ l.getD i 0 ∧ l.getD i 0 ≤ M))) : (b = true ∨ OutOf l M (i + 1) n) ↔ (b' = true ∨ OutOf l M i n) := by
  constructor
  · rintro (h | ⟨j, h1, h2, h3⟩)
    · rcases hb.mp h with h | h
      · exact .inl h
      · exact .inr ⟨i, Nat.le_refl _, hi, h⟩
    · exact .inr ⟨j, by omega, h2, h3⟩
  · rintro (h | ⟨j, h1, h2, h3⟩)
    · exact .inl (hb.mpr (.inl h))
    · by_cases e : j = i
      · subst e; exact .inl (hb.mpr (.inr h3))
      · exact .inr ⟨j, by omega, h2, h3⟩
theorem bad1 {x M : Int} (h : x < 0) : true = true ↔ (false = true ∨ ¬ (0 ≤ x ∧ x ≤ M)) := ⟨fun _ => .inr (by omega), fun _ => rfl⟩
theorem bad2 {x M : Int} (h : ¬ x < 0) : decide (x > M) = true ↔ (false = true ∨ ¬ (0 ≤ x ∧ x ≤ M)) := ⟨fun y => .inr (by have := of_decide_eq_true y; omega), fun y => by
  rcases y with y | y
  · cases y
  · exact decide_eq_true (by omega)⟩
theorem rc0 {e t : List Int} {r c : Int} (hs : e.length ≤ 1000) (B : Bool) (H : Ev (fun k => penumbraref36_Check.l1 k t r (e.length : Int) B 0) c) : ∀ d i b, i + d = e.length → (B = true ↔ (b = true ∨ OutOf e 1024 i e.length)) → Ev (fun k => penumbraref36_Check.l0 k e t r (e.length : Int) b (i : Int)) c := by
  intro d
  induction d with
  | zero =>
    intro i b hi hb
    have : b = B := by
      have h : ¬ OutOf e 1024 i e.length := fun ⟨j, h1, h2, _⟩ => by omega
      cases b <;> cases B <;> simp_all
    rw [this]
    exact Ev.step (fun _ => by rw [penumbraref36_Check.l0]) (neg (by omega) H)
  | succ d ih =>
    intro i b hi hb
    have hlt : i < e.length := by omega
    refine Ev.step (fun _ => by rw [penumbraref36_Check.l0]) (pos (by omega) ?_)
    rw [suc (by omega)]
    cases b with
    | true => exact pos rfl (ih (i + 1) true (by omega) (hb.trans (by simp)))
    | false =>
      refine neg (by decide) (pos (by omega) (pos (by omega) ?_))
      rw [rd_nat]
      by_cases c1 : e.getD i 0 < 0
      · exact pos c1 (ih (i + 1) true (by omega) (hb.trans (out_step hlt true false (bad1 c1)).symm))
      · refine neg c1 (ih (i + 1) _ (by omega) (hb.trans (out_step hlt _ false (bad2 c1)).symm))
theorem rc1 {n : Nat} {t : List Int} {r c : Int} (hn2 : n ≤ 12) (hlt : t.length = n * n) (B : Bool) (H : Ev (fun k => penumbraref36_Check.l2 k t r (n : Int) B 0) c) : ∀ d i b, i + d = t.length → (B = true ↔ (b = true ∨ OutOf t 1023 i t.length)) → Ev (fun k => penumbraref36_Check.l1 k t r (n : Int) b (i : Int)) c := by
  have hnn : n * n ≤ 12 * 12 := Nat.mul_le_mul hn2 hn2
  have hw := mul_nat n n (by omega)
  rw [← hlt] at hw hnn
  intro d
  induction d with
  | zero =>
    intro i b hi hb
    have : b = B := by
      have h : ¬ OutOf t 1023 i t.length := fun ⟨j, h1, h2, _⟩ => by omega
      cases b <;> cases B <;> simp_all
    rw [this]
    exact Ev.step (fun _ => by rw [penumbraref36_Check.l1]) (neg (by rw [hw]; omega) H)
  | succ d ih =>
    intro i b hi hb
    have hl : i < t.length := by omega
    refine Ev.step (fun _ => by rw [penumbraref36_Check.l1]) (pos (by rw [hw]; omega) ?_)
    rw [suc (by omega)]
    cases b with
    | true => exact pos rfl (ih (i + 1) true (by omega) (hb.trans (by simp)))
    | false =>
      refine neg (by decide) (pos (by omega) (pos (by omega) ?_))
      rw [rd_nat]
      by_cases c1 : t.getD i 0 < 0
      · exact pos c1 (ih (i + 1) true (by omega) (hb.trans (out_step hl true false (bad1 c1)).symm))
      · refine neg c1 (ih (i + 1) _ (by omega) (hb.trans (out_step hl _ false (bad2 c1)).symm))
theorem rc3 {n : Nat} {t : List Int} {r c : Int} (hn2 : n ≤ 12) (hlt : t.length = n * n) (ht : In t 1023) {i : Nat} (hi : i < n) (b : Bool) (hb : b = true ↔ r < rs n t i n) (hk : Ev (fun k => penumbraref36_Check.l2 k t r (n : Int) b ((i + 1 : Nat) : Int)) c) :
    ∀ d j, j + d = n → Ev (fun k => penumbraref36_Check.l3 k t r (n : Int) (i : Int) (rs n t i j) (j : Int)) c := by
  have hl := row_le hi
  have hnn : n * n ≤ 12 * 12 := Nat.mul_le_mul hn2 hn2
  rw [← hlt] at hl
  intro d
  induction d with
  | zero =>
    intro j hj
    have e : j = n := by omega
    rw [e]
    have e2 : decide (rs n t i n > r) = b := by cases b <;> simp_all
    refine Ev.step (fun _ => by rw [penumbraref36_Check.l3]) (neg (by omega) ?_)
    rw [suc (by omega), e2]
    exact hk
  | succ d ih =>
    intro j hj
    have h := ih (j + 1) (by omega)
    obtain ⟨b0, b1⟩ := rs_bound hl ht (j + 1) (by omega)
    rw [rs] at h b0 b1
    have b2 : ((j + 1 : Nat) : Int) * 1023 ≤ 13 * 1023 := by omega
    have ew : wrap64 (wrap64 ((n : Int) * (i : Int)) + (j : Int)) = ((i * n + j : Nat) : Int) := by
      rw [Int.mul_comm, mul_nat i n (by omega), add_nat _ _ (by omega)]
    refine Ev.step (fun _ => by rw [penumbraref36_Check.l3]) (pos (by omega) ?_)
    rw [ew, rd_nat, suc (by omega), wfit _ b0 (by omega)]
    exact pos (by omega) (pos (by omega) h)
theorem rc2bad {n : Nat} {t : List Int} {r : Int} (i : Nat) : Ev (fun k => penumbraref36_Check.l2 k t r (n : Int) true (i : Int)) 3 := by
  have h : Ev (fun k => penumbraref36_Check.j5 k t r (n : Int) true (i : Int) false) 3 := Ev.step (fun _ => by rw [penumbraref36_Check.j5]) (neg (by decide) (pos rfl (Ev.now _)))
  refine Ev.step (fun _ => by rw [penumbraref36_Check.l2]) ?_
  by_cases c : (i : Int) < (n : Int)
  · exact pos c h
  · exact neg c h
theorem rc2 {n : Nat} {t : List Int} {r c : Int} (hn2 : n ≤ 12) (hlt : t.length = n * n) (ht : In t 1023) : ∀ d i, i + d = n → ((∀ row, i ≤ row → row < n → rs n t row n ≤ r) → c = 0) → (¬ (∀ row, i ≤ row → row < n → rs n t row n ≤ r) → c = 3) → Ev (fun k => penumbraref36_Check.l2 k t r (n : Int) false (i : Int)) c := by
  intro d
  induction d with
  | zero =>
    intro i hi h0 h3
    rw [h0 fun row h1 h2 => by omega]
    exact Ev.step (fun _ => by rw [penumbraref36_Check.l2]) (neg (by omega) (Ev.step (fun _ => by rw [penumbraref36_Check.j5]) (neg (by decide) (neg (by decide) (Ev.now _)))))
  | succ d ih =>
    intro i hi h0 h3
    refine Ev.step (fun _ => by rw [penumbraref36_Check.l2]) (pos (by omega) (Ev.step (fun _ => by rw [penumbraref36_Check.j5]) (pos (c := (!false) = true) rfl ?_)))
    by_cases hr : rs n t i n ≤ r
    · exact rc3 hn2 hlt ht (by omega) false (by simp; omega) (ih (i + 1) (by omega) (fun x => h0 fun row h1 h2 => by
        by_cases e : row = i
        · subst e; exact hr
        · exact x row (by omega) h2) (fun x => h3 fun y => x fun row h1 h2 => y row (by omega) h2)) n 0 (by omega)
    · rw [h3 fun y => hr (y i (by omega) (by omega))]
      exact rc3 hn2 hlt ht (by omega) true (by simp; omega) (rc2bad (i + 1)) n 0 (by omega)
theorem rcheck_ev {e t : List Int} {r c : Int} (hs : e.length ≤ 1000) (h : ChkP e t r c) : Ev (fun k => penumbraref36_Check.f k e t r) c := by
  unfold penumbraref36_Check.f
  by_cases z : Siz e t
  · have hcase : (¬ Good e t r ∧ c = 3) ∨ (Good e t r ∧ c = 0) := by
      rcases h with ⟨h, _⟩ | ⟨_, h⟩ | ⟨_, h⟩
      · exact absurd z h
      · exact .inl h
      · exact .inr h
    obtain ⟨h1, h2, h3⟩ := z
    have hnn : e.length * e.length ≤ 12 * 12 := Nat.mul_le_mul h2 h2
    refine neg (by omega) (neg (by omega) ?_)
    have en : ((t.length : Int) != wrap64 ((e.length : Int) * (e.length : Int))) = false := by
      rw [mul_nat _ _ (by omega), h3]; simp
    rw [en]
    have bad (hb : ¬ Good e t r) : c = 3 := by
      rcases hcase with x | x
      · exact x.2
      · exact absurd x.1 hb
    have notin (l : List Int) (M : Int) (hx : ¬ In l M) : OutOf l M 0 l.length := Classical.byContradiction fun w => hx fun i hi => Classical.byContradiction fun y => w ⟨i, by omega, hi, y⟩
    have notout (l : List Int) (M : Int) (hx : In l M) : ¬ OutOf l M 0 l.length := fun ⟨j, _, h2, h3⟩ => h3 (hx j h2)
    have K (b : Bool) (hb : b = true ↔ ¬ (0 ≤ r ∧ r ≤ 1023)) : Ev (fun k => penumbraref36_Check.j1 k e t r (e.length : Int) b) c := by
      refine Ev.step (fun _ => by rw [penumbraref36_Check.j1]) ?_
      by_cases all : In e 1024 ∧ In t 1023 ∧ 0 ≤ r ∧ r ≤ 1023
      · obtain ⟨we, wt, wr⟩ := all
        have b0 : b = false := by
          cases b
          · rfl
          · exact absurd wr (hb.mp rfl)
        rw [b0]
        refine rc0 hs false ?_ e.length 0 false (by omega) (by simp [notout e 1024 we])
        refine rc1 h2 h3 false ?_ t.length 0 false (by omega) (by simp [notout t 1023 wt])
        refine rc2 h2 h3 wt e.length 0 (by omega) (fun x => ?_) (fun x => ?_)
        · rcases hcase with y | y
          · exact absurd ⟨we, wt, wr.1, wr.2, fun row hr => x row (by omega) hr⟩ y.1
          · exact y.2
        · exact bad fun g => x fun row _ hr => g.2.2.2.2 row hr
      · rw [bad fun g => all ⟨g.1, g.2.1, g.2.2.1, g.2.2.2.1⟩]
        by_cases A : b = true ∨ OutOf e 1024 0 e.length
        · exact rc0 hs true (rc1 h2 h3 true (rc2bad 0) t.length 0 true (by omega) (by simp)) e.length 0 b (by omega) (by simp [A])
        · refine rc0 hs false (rc1 h2 h3 true (rc2bad 0) t.length 0 false (by omega) ?_) e.length 0 b (by omega) (by simp [A])
          have we : In e 1024 := Classical.byContradiction fun x => A (.inr (notin _ _ x))
          have wr : 0 ≤ r ∧ r ≤ 1023 := Classical.byContradiction fun x => A (.inl (hb.mpr x))
          have := notin t 1023 fun wt => all ⟨we, wt, wr⟩
          simp [this]
    refine Ev.step (fun _ => by rw [penumbraref36_Check.j0]) (neg (by decide) ?_)
    by_cases c1 : r < 0
    · exact pos c1 (K true (by simp; omega))
    · exact neg c1 (K _ (by simp; omega))
  · have hc : c = 14 := by
      rcases h with ⟨_, h⟩ | ⟨h, _⟩ | ⟨h, _⟩
      · exact h
      · exact absurd h z
      · exact absurd h z
    subst hc
    have j : Ev (fun k => penumbraref36_Check.j0 k e t r (e.length : Int) true) 14 := Ev.step (fun _ => by rw [penumbraref36_Check.j0]) (pos rfl (Ev.now _))
    by_cases c1 : e.length = 0
    · exact pos (by omega) j
    · by_cases c2 : e.length > 12
      · exact neg (by omega) (pos (by omega) j)
      · refine neg (by omega) (neg (by omega) ?_)
        have hnn : e.length * e.length ≤ 12 * 12 := Nat.mul_le_mul (by omega) (by omega)
        have en : ((t.length : Int) != wrap64 ((e.length : Int) * (e.length : Int))) = true := by
          rw [mul_nat _ _ (by omega), bne_iff_ne]
          intro x
          exact z ⟨by omega, by omega, by omega⟩
        rw [en]
        exact j
/-! terms -/
def tm (n : Nat) (t e : List Int) : Nat → List Int
  | 0 => e
  | k + 1 => st n t (tm n t e k) (n * n)
theorem tm_length {t e : List Int} (k : Nat) : (tm e.length t e k).length = e.length := by
  cases k with
  | zero => rfl
  | succ k => exact st_length _ _ _ _
theorem tm_bound {e t : List Int} {r M : Int} (hz : Siz e t) (hg : Good e t r) (hM : 0 ≤ M) (he : ∀ j, j < e.length → e.getD j 0 ≤ M) : ∀ k j, j < e.length → 0 ≤ (tm e.length t e k).getD j 0 ∧ (tm e.length t e k).getD j 0 ≤ M * r ^ k
  | 0, j, hj => by rw [Int.pow_zero, Int.mul_one]; exact ⟨(hg.1 j hj).1, he j hj⟩
  | k + 1, j, hj => by
    have ih := tm_bound hz hg hM he k
    have hp : 0 ≤ M * r ^ k := Int.mul_nonneg hM (pow_le hg.2.2.1 (by have := hg.2.2.2.1; omega) k).1
    obtain ⟨a, b⟩ := st_bound (t := t) hz.1 hp hz.2.2 (fun q hq => (hg.2.1 q (by rw [hz.2.2]; exact hq)).1) ih (e.length * e.length) (Nat.le_refl _) j hj
    refine ⟨a, Int.le_trans b ?_⟩
    obtain ⟨c, d⟩ := sr_le hz.1 hz.2.2 hg.2.1 hg.2.2.2.2 (e.length * e.length) j hj
    have e2 : M * r ^ (k + 1) = r * (M * r ^ k) := by rw [Int.pow_succ, ← Int.mul_assoc, Int.mul_comm]
    rw [e2]
    exact Int.mul_le_mul_of_nonneg_right d hp
theorem pow_small {r : Int} (h0 : 0 ≤ r) (h1 : r ≤ 1023) (k : Nat) (hk : k ≤ 5) : 0 ≤ r ^ k ∧ r ^ k ≤ 1125899906842624 := by
  obtain ⟨a, b⟩ := pow_le h0 (show r ≤ 1024 by omega) k
  have hb : (1024 : Int) ^ k ≤ 1024 ^ 5 := by
    have : (1024 : Nat) ^ k ≤ 1024 ^ 5 := Nat.pow_le_pow_right (by omega) hk
    rw [show (1024 : Int) = ((1024 : Nat) : Int) from rfl, ← Int.natCast_pow, ← Int.natCast_pow]
    exact Int.ofNat_le.mpr this
  have h5 : (1024 : Int) ^ 5 = 1125899906842624 := by decide
  omega
theorem throw_ev {e t : List Int} {r : Int} (hz : Siz e t) (hg : Good e t r) (k : Nat) (hk : k ≤ 3) : Ev (fun K => cut_throw.f K (tm e.length t e k) t) (tm e.length t e (k + 1)) := by
  have hl := tm_length (t := t) (e := e) k
  obtain ⟨p0, p1⟩ := pow_small hg.2.2.1 hg.2.2.2.1 (k + 1) (by omega)
  obtain ⟨q0, q1⟩ := pow_small hg.2.2.1 hg.2.2.2.1 k (by omega)
  have hw (i row : Nat) (hr : row < e.length) : sr e.length t row i * (1024 * r ^ k) ≤ 4611686018427387904 := by
    obtain ⟨c, d⟩ := sr_le hz.1 hz.2.2 hg.2.1 hg.2.2.2.2 i row hr
    have := Int.mul_le_mul_of_nonneg_right d (show 0 ≤ 1024 * r ^ k by omega)
    rw [Int.pow_succ] at p1
    have e2 : r * (1024 * r ^ k) = 1024 * (r ^ k * r) := by rw [Int.mul_left_comm, Int.mul_comm r]
    rw [e2] at this
    omega
  have h := throw_loop (t := t) (l := tm e.length t e k) hz.1 hz.2.1 (show 0 ≤ 1024 * r ^ k by omega) hz.2.2 (fun q hq => (hg.2.1 q (by rw [hz.2.2]; exact hq)).1) hl
    (tm_bound hz hg (by omega) (fun j hj => (hg.1 j hj).2) k) (fun i row _ hr => hw i row hr) (e.length * e.length) 0 (by omega)
  have h2 := hz.2.1
  unfold cut_throw.f
  rw [hl]
  refine pos (by omega) (pos (by omega) ?_)
  rw [Int.toNat_natCast]
  exact h
theorem term_loop {e t : List Int} {r : Int} (hz : Siz e t) (hg : Good e t r) (m : Nat) (hm : m ≤ 4) : ∀ d i, i + d = m → Ev (fun K => cut_Term.l0 K t (tm e.length t e i) (m : Int) (i : Int)) (tm e.length t e m, 0) := by
  intro d
  induction d with
  | zero =>
    intro i hi
    have e2 : i = m := by omega
    subst e2
    exact Ev.step (fun _ => by rw [cut_Term.l0]) (neg (by omega) (Ev.now _))
  | succ d ih =>
    intro i hi
    refine Ev.step (fun _ => by rw [cut_Term.l0]) (pos (by omega) (Ev.bind (throw_ev hz hg i (by omega)) ?_))
    rw [suc (by omega)]
    exact ih (i + 1) (by omega)
theorem term_ev {e t : List Int} {r : Int} (hz : Siz e t) (hg : Good e t r) (m : Nat) (hm : m ≤ 4) : Ev (fun K => cut_Term.f K e t r (m : Int)) (tm e.length t e m, 0) := by
  have h2 := hz.2.1
  have h3 := hz.2.2
  have hnn : e.length * e.length ≤ 12 * 12 := Nat.mul_le_mul h2 h2
  refine Ev.bind (ccheck_ev (by omega) (by omega) (.inr (.inr ⟨hz, hg, rfl⟩))) (pos rfl (Ev.bind (within_one (m : Int) 0 4 true ⟨fun _ => by omega, fun _ => rfl⟩) (pos rfl (pos (by simp; omega) ?_))))
  rw [List.nil_append]
  exact term_loop hz hg m hm m 0 (by omega)
theorem term_far {e t : List Int} {r c : Int} (hs : e.length ≤ 1000) (hs2 : t.length ≤ 1000) (h : ChkP e t r c) (m : Int) (hc : c ≠ 0 ∨ ¬ (0 ≤ m ∧ m ≤ 4)) : Ev (fun K => cut_Term.f K e t r m) ([], if c = 0 then 3 else c) := by
  refine Ev.bind (ccheck_ev hs hs2 h) ?_
  by_cases c0 : c = 0
  · rw [if_pos c0]
    refine pos c0 (Ev.bind (within_one m 0 4 false ⟨fun x => (by cases x), fun x => ?_⟩) (neg (by decide) (Ev.now _)))
    rcases hc with y | y
    · exact absurd c0 y
    · exact absurd x y
  · rw [if_neg c0]
    exact neg c0 (Ev.now _)
end Go.Proofs.Ytgkncmnkbhgjmaa.Pure
