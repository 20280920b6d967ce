/- order.Winding, order.Snake: what they compute, at every input. -/
import Derived.Test.YtjfegfhhgekcfaaGw
namespace Go.Proofs.Ytjfegfhhgekcfaa.Gv
open Go.RowKit Go.Proofs.Ytjfegfhhgekcfaa.X Go.Proofs.YtjfegfhhgekcfaaW.PrintWords Go.Proofs.YtjfegfhhgekcfaaW.PrintLast Go.Proofs.YtjfegfhhgekcfaaW.PrintMore
theorem may_ok {a b : Int} (h : order_may.f a b = some 0) : 1 ≤ a ∧ a ≤ 8192 ∧ 1 ≤ b ∧ b ≤ 8192 ∧ a * b ≤ 65536 := by
  unfold order_may.f at h
  split at h
  · cases h
  · rename_i c1
    split at h
    · cases h
    · rename_i c2
      split at h
      · cases h
      · rename_i c3
        have ha1 : 1 ≤ a := by unfold mn at c1; split at c1 <;> omega
        have hb1 : 1 ≤ b := by unfold mn at c1; split at c1 <;> omega
        have ha2 : a ≤ 8192 := by unfold mx at c2; split at c2 <;> omega
        have hb2 : b ≤ 8192 := by unfold mx at c2; split at c2 <;> omega
        have q1 : 0 ≤ a * b := Int.mul_nonneg (by omega) (by omega)
        have q2 : a * b ≤ 8192 * 8192 := Int.mul_le_mul ha2 hb2 (by omega) (by omega)
        generalize a * b = p at *
        have e : wrap64 p = p := by unfold wrap64; omega
        rw [e] at c3
        exact ⟨ha1, ha2, hb1, hb2, by omega⟩
/-- order.Winding's answer -/
def windF (k : Nat) (a b : Int) : Option (List Int × Int) := (order_may.f a b).bind fun e => if e = 0 then ((order_square.f k (if a < b then b else a)).bind fun s => some (vis a.toNat b.toNat (Nat.log2 s.toNat) 0 0, 0)) else some ([], e)
theorem windF_mono (a b : Int) (k : Nat) : LeO (windF k a b) (windF (k + 1) a b) := by
  unfold windF
  refine LeO.bind (LeO.refl _) (fun _ => LeO.ite (LeO.bind (order_square.mono _ _) (fun _ => LeO.refl _)) (LeO.refl _))
theorem wind_any (k : Nat) (a b : Int) (r1 : List Int) (r2 : Int) (w : World) (h : windF k a b = some (r1, r2)) :
    Calls Try.prog 10 #[.int .i64 a, .int .i64 b] w fun e w' => ∃ v0_ : Value, e = .returned (.tuple #[v0_, .int .i64 r2]) ∧ Kd.R (Kd.int .i64) 3 w' w.heap.size (fun _ => True) v0_ r1 ∧ Below w.heap.size w w' := by
  unfold windF at h
  obtain ⟨e, he, h⟩ := Option.bind_eq_some_iff.mp h
  by_cases c : e = 0
  · rw [if_pos c] at h
    subst c
    obtain ⟨s, hs, h⟩ := Option.bind_eq_some_iff.mp h
    obtain ⟨ha1, ha2, hb1, hb2, _⟩ := may_ok he
    obtain ⟨W, rfl⟩ := Int.eq_ofNat_of_zero_le (show 0 ≤ a by omega)
    obtain ⟨H, rfl⟩ := Int.eq_ofNat_of_zero_le (show 0 ≤ b by omega)
    have hq : (if (W : Int) < H then (H : Int) else W) ≤ 8192 := by split <;> omega
    have hs1 := hs
    unfold order_square.f at hs1
    obtain ⟨m, hm, rfl⟩ := square_pow _ hq k 0 s (by omega) (by simpa using hs1)
    rw [show ((2 ^ m : Nat) : Int).toNat = 2 ^ m from Int.toNat_natCast _, Nat.log2_two_pow] at h
    injection h with h
    injection h with h1 h2
    subst h1 h2
    rw [Int.toNat_natCast, Int.toNat_natCast]
    refine wind_ok k W H m w (by omega) (by omega) he hm (2 ^ m) rfl _ rfl ?_
    have e2 : (if W < H then (H : Int) else (W : Int)) = (if (W : Int) < H then (H : Int) else W) := by
      by_cases c : W < H
      · rw [if_pos c, if_pos (by omega)]
      · rw [if_neg c, if_neg (by omega)]
    rw [e2]
    exact hs
  · rw [if_neg c] at h
    injection h with h
    injection h with h1 h2
    subst h1 h2
    refine (wind_err k a b e w he c).mono ?_
    rintro e' w' ⟨rfl, hb⟩
    exact ⟨_, rfl, Kd.R_nil _ _ _ _ _, hb⟩
theorem rows_len : ∀ k (xs : List Int) (n i : Nat) r, n ≤ 65536 → i ≤ n → xs.length = i → order_Rows.l0 k xs n i = some r → r.1.length = n ∧ r.2 = 0 := by
  intro k
  induction k with
  | zero => intro xs n i r _ _ _ h; simp [order_Rows.l0] at h
  | succ k ih =>
    intro xs n i r hn hi hx h
    rw [order_Rows.l0] at h
    by_cases c : (i : Int) < n
    · rw [if_pos c, if_pos (by omega)] at h
      have e : wrap64 ((i : Int) + 1) = ((i + 1 : Nat) : Int) := by unfold wrap64; omega
      rw [e] at h
      exact ih _ n (i + 1) r hn (by omega) (by simp [hx]) h
    · rw [if_neg c] at h
      injection h with h
      subst h
      exact ⟨by show xs.length = n; omega, rfl⟩
/-- order.Snake's answer -/
def snakeF (k : Nat) (a b : Int) : Option (List Int × Int) := (order_Rows.f k a b).bind fun r => if r.2 = 0 then some (snTo r.1 a.toNat (b.toNat / 2), 0) else some ([], r.2)
theorem snakeF_mono (a b : Int) (k : Nat) : LeO (snakeF k a b) (snakeF (k + 1) a b) := by
  unfold snakeF
  exact LeO.bind (order_Rows.mono _ _ _) (fun _ => LeO.refl _)
theorem rows_shape {k : Nat} {a b : Int} {l : List Int} {c : Int} (h : order_Rows.f k a b = some (l, c)) : (c = 0 → 1 ≤ a ∧ a ≤ 8192 ∧ 1 ≤ b ∧ b ≤ 8192 ∧ a * b ≤ 65536 ∧ (l.length : Int) = a * b) ∧ (c ≠ 0 → l = []) := by
  unfold order_Rows.f at h
  obtain ⟨e, he, h⟩ := Option.bind_eq_some_iff.mp h
  by_cases z : e = 0
  · rw [if_pos z] at h
    subst z
    obtain ⟨ha1, ha2, hb1, hb2, hab⟩ := may_ok he
    have q1 : 0 ≤ a * b := Int.mul_nonneg (by omega) (by omega)
    obtain ⟨n, hn⟩ := Int.eq_ofNat_of_zero_le q1
    rw [hn] at h hab ⊢
    have e : wrap64 (n : Int) = (n : Int) := by unfold wrap64; omega
    rw [e] at h
    obtain ⟨h1, h2⟩ := rows_len k [] n 0 (l, c) (by omega) (by omega) rfl h
    exact ⟨fun _ => ⟨ha1, ha2, hb1, hb2, hab, by have h3 : l.length = n := h1; omega⟩, fun hc => absurd h2 hc⟩
  · rw [if_neg z] at h
    injection h with h
    injection h with h1 h2
    exact ⟨fun hc => absurd (h2.trans hc) z, fun _ => h1.symm⟩
theorem snake_any (k : Nat) (a b : Int) (r1 : List Int) (r2 : Int) (w : World) (h : snakeF k a b = some (r1, r2)) :
    Calls Try.prog 12 #[.int .i64 a, .int .i64 b] w fun e w' => ∃ v0_ : Value, e = .returned (.tuple #[v0_, .int .i64 r2]) ∧ Kd.R (Kd.int .i64) 3 w' w.heap.size (fun _ => True) v0_ r1 ∧ Below w.heap.size w w' := by
  unfold snakeF at h
  obtain ⟨⟨l, c⟩, hr, h⟩ := Option.bind_eq_some_iff.mp h
  have hsh := rows_shape hr
  dsimp only at h
  by_cases z : c = 0
  · rw [if_pos z] at h
    subst z
    injection h with h
    injection h with h1 h2
    subst h1 h2
    obtain ⟨ha1, ha2, hb1, hb2, hab, hl⟩ := hsh.1 rfl
    obtain ⟨W, rfl⟩ := Int.eq_ofNat_of_zero_le (show 0 ≤ a by omega)
    obtain ⟨H, rfl⟩ := Int.eq_ofNat_of_zero_le (show 0 ≤ b by omega)
    rw [Int.toNat_natCast, Int.toNat_natCast]
    have hl2 : l.length = W * H := by rw [← Int.natCast_mul] at hl; omega
    exact snake_ok W H l w (by omega) (by omega) hl2 (by omega) (by omega) (by omega) (Ev.of (fun k => order_Rows.mono _ _ k) hr)
  · rw [if_neg z] at h
    injection h with h
    injection h with h1 h2
    subst h1 h2
    have hl := hsh.2 z
    subst hl
    refine (snake_err a b c w (Ev.of (fun k => order_Rows.mono _ _ k) hr) z).mono ?_
    rintro e' w' ⟨rfl, hb⟩
    exact ⟨_, rfl, Kd.R_nil _ _ _ _ _, hb⟩
end Go.Proofs.Ytjfegfhhgekcfaa.Gv
