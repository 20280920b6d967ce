/- chapter 36, plain: the greatest number, powers. -/
import Derived.Test.YtgkncmnkbhgjmaaXxG36
namespace Go.Proofs.Ytgkncmnkbhgjmaa.Pure
open Go.RowKit Go.Proofs.Ytgkncmnkbhgjmaa.X Go.Proofs.YtgkncmnkbhgjmaaW.PrintWords Go.Proofs.YtgkncmnkbhgjmaaW.PrintLast
theorem pos {α : Type} {c : Prop} [Decidable c] {f g : Nat → Option α} {r : α} (h : c) (e : Ev f r) : Ev (fun k => if c then f k else g k) r := Ev.congr (fun _ => if_pos h) e
theorem neg {α : Type} {c : Prop} [Decidable c] {f g : Nat → Option α} {r : α} (h : ¬ c) (e : Ev g r) : Ev (fun k => if c then f k else g k) r := Ev.congr (fun _ => if_neg h) e
theorem suc {i : Nat} (h : i ≤ 1000000) : wrap64 ((i : Int) + 1) = ((i + 1 : Nat) : Int) := by unfold wrap64; omega
theorem wfit (n : Int) (h0 : 0 ≤ n) (h1 : n < 9223372036854775808) : wrap64 n = n := by unfold wrap64; omega
theorem rd_nat (l : List Int) (i : Nat) : rd l (i : Int) = l.getD i 0 := by simp [rd]
/-- M is the greatest of the first n numbers, at least 0 -/
def MostP (l : List Int) (n : Nat) (M : Int) : Prop := 0 ≤ M ∧ (∀ i, i < n → l.getD i 0 ≤ M) ∧ (M = 0 ∨ ∃ i, i < n ∧ l.getD i 0 = M)
theorem most_uniq {l : List Int} {n : Nat} {a b : Int} (ha : MostP l n a) (hb : MostP l n b) : a = b := by
  obtain ⟨a0, a1, a2⟩ := ha
  obtain ⟨b0, b1, b2⟩ := hb
  have h1 : a ≤ b := by
    rcases a2 with rfl | ⟨i, hi, rfl⟩
    · exact b0
    · exact b1 i hi
  have h2 : b ≤ a := by
    rcases b2 with rfl | ⟨i, hi, rfl⟩
    · exact a0
    · exact a1 i hi
  omega
theorem most_step {l : List Int} {i : Nat} {M M' : Int} (h : MostP l i M) (e : M' = if l.getD i 0 > M then l.getD i 0 else M) : MostP l (i + 1) M' := by
  obtain ⟨h0, h1, h2⟩ := h
  subst e
  by_cases c : l.getD i 0 > M
  · rw [if_pos c]
    refine ⟨by omega, fun j hj => ?_, .inr ⟨i, by omega, rfl⟩⟩
    by_cases d : j = i
    · subst d; omega
    · have := h1 j (by omega); omega
  · rw [if_neg c]
    refine ⟨h0, fun j hj => ?_, ?_⟩
    · by_cases d : j = i
      · subst d; omega
      · exact h1 j (by omega)
    · rcases h2 with h2 | ⟨j, hj, e⟩
      · exact .inl h2
      · exact .inr ⟨j, by omega, e⟩
theorem rmost_loop {l : List Int} (hs : l.length ≤ 1000000) : ∀ (d i : Nat) (M : Int), i + d = l.length → MostP l i M → ∃ M', Ev (fun k => penumbraref36_Most.l0 k l M (i : Int)) M' ∧ MostP l l.length M' := by
  intro d
  induction d with
  | zero =>
    intro i M hi h
    have e : i = l.length := by omega
    rw [e] at h ⊢
    exact ⟨M, Ev.step (fun _ => rfl) (neg (by omega) (Ev.now _)), h⟩
  | succ d ih =>
    intro i M hi h
    by_cases c : l.getD i 0 > M
    · obtain ⟨M', h1, h2⟩ := ih (i + 1) (l.getD i 0) (by omega) (most_step h (by rw [if_pos c]))
      refine ⟨M', Ev.step (fun _ => rfl) (pos (by omega) (pos (by omega) (pos (by rw [rd_nat]; exact c) ?_))), h2⟩
      rw [rd_nat, suc (by omega)]
      exact h1
    · obtain ⟨M', h1, h2⟩ := ih (i + 1) M (by omega) (most_step h (by rw [if_neg c]))
      refine ⟨M', Ev.step (fun _ => rfl) (pos (by omega) (pos (by omega) (neg (by rw [rd_nat]; exact c) ?_))), h2⟩
      rw [suc (by omega)]
      exact h1
theorem rmost_ev (l : List Int) (hs : l.length ≤ 1000000) : ∃ M, Ev (fun k => penumbraref36_Most.f k l) M ∧ MostP l l.length M :=
  rmost_loop hs l.length 0 0 (by omega) ⟨by omega, fun i hi => by omega, .inl rfl⟩
theorem cmost_loop {l : List Int} (hs : l.length ≤ 1000000) : ∀ (d i : Nat) (M : Int), i + d = l.length → MostP l i M → ∃ M', Ev (fun k => cut_Most.l0 k M l (l.length : Int) (i : Int)) M' ∧ MostP l l.length M' := by
  intro d
  induction d with
  | zero =>
    intro i M hi h
    have e : i = l.length := by omega
    rw [e] at h ⊢
    exact ⟨M, Ev.step (fun _ => rfl) (neg (by omega) (Ev.now _)), h⟩
  | succ d ih =>
    intro i M hi h
    have e : mx M (rd l (i : Int)) = if l.getD i 0 > M then l.getD i 0 else M := by
      rw [rd_nat]
      unfold mx
      by_cases c : l.getD i 0 > M
      · rw [if_pos c]; try (split <;> omega)
      · rw [if_neg c]; try (split <;> omega)
    obtain ⟨M', h1, h2⟩ := ih (i + 1) (mx M (rd l (i : Int))) (by omega) (most_step h e)
    refine ⟨M', Ev.step (fun _ => rfl) (pos (by omega) (pos (by omega) (pos (by omega) ?_))), h2⟩
    rw [suc (by omega)]
    exact h1
theorem cmost_ev (l : List Int) (hs : l.length ≤ 1000000) : ∃ M, Ev (fun k => cut_Most.f k l) M ∧ MostP l l.length M :=
  cmost_loop hs l.length 0 0 (by omega) ⟨by omega, fun i hi => by omega, .inl rfl⟩
theorem pow_le {r : Int} (h0 : 0 ≤ r) (h1 : r ≤ 1024) : ∀ i : Nat, 0 ≤ r ^ i ∧ r ^ i ≤ 1024 ^ i
  | 0 => by simp
  | i + 1 => by
    obtain ⟨a, b⟩ := pow_le h0 h1 i
    rw [Int.pow_succ, Int.pow_succ]
    exact ⟨Int.mul_nonneg a h0, Int.mul_le_mul b h1 h0 (Int.le_trans a b)⟩
theorem power_loop {r : Int} (h0 : 0 ≤ r) (h1 : r ≤ 1024) (m : Nat) (hm : m ≤ 5) : ∀ (d i : Nat), i + d = m → Ev (fun k => penumbraref36_Power.l0 k r (m : Int) (r ^ i) (i : Int)) (r ^ m) := by
  intro d
  induction d with
  | zero =>
    intro i hi
    have e : i = m := by omega
    subst e
    exact Ev.step (fun _ => rfl) (neg (by omega) (Ev.now _))
  | succ d ih =>
    intro i hi
    have h := ih (i + 1) (by omega)
    obtain ⟨a, b⟩ := pow_le h0 h1 (i + 1)
    have hb : (1024 : Int) ^ (i + 1) ≤ 1024 ^ 5 := by
      have : (1024 : Nat) ^ (i + 1) ≤ 1024 ^ 5 := Nat.pow_le_pow_right (by omega) (by omega)
      rw [show (1024 : Int) = ((1024 : Nat) : Int) from rfl, ← Int.natCast_pow, ← Int.natCast_pow]
      exact Int.ofNat_le.mpr this
    have h5 : (1024 : Int) ^ 5 = 1125899906842624 := by decide
    refine Ev.step (fun _ => rfl) (pos (by omega) ?_)
    rw [suc (by omega), ← Int.pow_succ, wfit _ a (by omega)]
    exact h
theorem power_ev {r : Int} (h0 : 0 ≤ r) (h1 : r ≤ 1024) (m : Nat) (hm : m ≤ 5) : Ev (fun k => penumbraref36_Power.f k r (m : Int)) (r ^ m) := by
  have h := power_loop h0 h1 m hm m 0 (by omega)
  rw [Int.pow_zero] at h
  exact h
end Go.Proofs.Ytgkncmnkbhgjmaa.Pure
