/- CutBounds: plain. -/
import Derived.Test.YtgkncmnkbhgjmaaPl
import Derived.Test.YtgkncmnkbhgjmaaXxSCutBounds
namespace Go.Proofs.Ytgkncmnkbhgjmaa.Pure
open Go.RowKit Go.Proofs.Ytgkncmnkbhgjmaa.X Go.Proofs.YtgkncmnkbhgjmaaW.PrintWords Go.Proofs.YtgkncmnkbhgjmaaW.PrintLast
theorem awake36 : Ev (fun k => penumbralaw36_awake.f k) true := Ev.of penumbralaw36_awake.mono (k := 40) (by decide +kernel)
theorem bound_in {e : List Int} {r M : Int} (hs : e.length ≤ 1000) (hM : MostP e e.length M) (hM2 : M ≤ 1024) (h0 : 0 ≤ r) (h1 : r ≤ 1023) (k : Nat) (hk : k ≤ 4) : Ev (fun K => cut_Bound.f K e r (k : Int)) (M * r ^ k) := by
  obtain ⟨M2, h, h2⟩ := cmost_ev e (by omega)
  have e2 := most_uniq h2 hM
  subst e2
  have hp : (1024 : Int) ^ k ≤ 1024 ^ 5 := by
    have : (1024 : Nat) ^ k ≤ 1024 ^ 5 := Nat.pow_le_pow_right (by omega) (by omega)
    rw [show (1024 : Int) = ((1024 : Nat) : Int) from rfl, ← Int.natCast_pow, ← Int.natCast_pow]
    exact Int.ofNat_le.mpr this
  have h5 : (1024 : Int) ^ 5 = 1125899906842624 := by decide
  have h6 : (0 : Int) < 1024 ^ k := Int.pow_pos (by decide)
  have h7 := Int.mul_le_mul_of_nonneg_right hM2 (show (0 : Int) ≤ 1024 ^ k by omega)
  rw [← pw_pow (b := r) h0 (by omega) k M2 hk hM.1 (by omega)]
  refine Ev.bind h (pos (by omega) (neg (by omega) (pos (by omega) ?_)))
  rw [Int.toNat_natCast]
  exact Ev.now _
theorem bound_out {e : List Int} (hs : e.length ≤ 1000) (r a : Int) (ha : ¬ (0 ≤ a ∧ a ≤ 4)) : Ev (fun K => cut_Bound.f K e r a) 0 := by
  obtain ⟨M2, h, h2⟩ := cmost_ev e (by omega)
  exact Ev.bind h (neg ha (Ev.now _))
theorem sj (e t : List Int) (r a b : Int) (v : Bool) (k : Nat) : penumbralaw36_CutBounds.j0 (k + 1) v e t r a b = if v = true then ((penumbralaw36_awake.f k).bind fun t104 => (some t104)) else (penumbralaw36_CutBounds.l0 k 0 e t r a b) := by rw [penumbralaw36_CutBounds.j0]
theorem light36 (e t : List Int) (r a b : Int) (v : Bool) (h : v = true ↔ e.length ≤ 20 ∧ t.length ≤ 200) : penumbralaw36_Ask_light.f e t r a b = some v := by
  unfold penumbralaw36_Ask_light.f
  by_cases c : e.length ≤ 20
  · rw [if_pos (by omega)]
    by_cases d : t.length ≤ 200
    · rw [decide_eq_true (by omega), h.mpr ⟨c, d⟩]
    · have : v = false := by
        cases v with
        | false => rfl
        | true => exact absurd (h.mp rfl).2 d
      rw [decide_eq_false (by omega), this]
  · have : v = false := by
      cases v with
      | false => rfl
      | true => exact absurd (h.mp rfl).1 c
    rw [if_neg (by omega), this]
theorem bounds_loop {e t : List Int} {r : Int} (hz : Siz e t) (hg : Good e t r) (a b : Int) {M : Int} (hM : MostP e e.length M) : ∀ d i : Nat, i + d = 5 → Ev (fun k => penumbralaw36_CutBounds.l0 k (i : Int) e t r a b) true := by
  have h2 := hz.2.1
  have hM2 : M ≤ 1024 := by
    rcases hM.2.2 with h | ⟨j, hj, rfl⟩
    · omega
    · exact (hg.1 j hj).2
  intro d
  induction d with
  | zero =>
    intro i hi
    have e2 : i = 5 := by omega
    subst e2
    exact Ev.step (fun _ => by rw [penumbralaw36_CutBounds.l0]) (neg (by omega) (Ev.bind awake36 (pos rfl (Ev.bind (bound_out (e := e) (by omega) r 5 (by omega)) (pos rfl (Ev.bind (bound_out (e := e) (by omega) r (-1) (by omega)) (show Ev (fun _ => some ((0 : Int) == 0)) true from Ev.now _)))))))
  | succ d ih =>
    intro i hi
    obtain ⟨p0, p1⟩ := pow_small hg.2.2.1 hg.2.2.2.1 i (by omega)
    have q0 : 0 ≤ M * r ^ i := Int.mul_nonneg hM.1 p0
    have q1 : M * r ^ i ≤ 1024 * r ^ i := Int.mul_le_mul_of_nonneg_right hM2 p0
    obtain ⟨M2, hR, hR2⟩ := rmost_ev e (by omega)
    have e2 := most_uniq hR2 hM
    subst e2
    have hl := tm_length (e := e) (t := t) i
    obtain ⟨T, hT, hT2⟩ := rmost_ev (tm e.length t e i) (by omega)
    have hTle : T ≤ M2 * r ^ i := by
      rcases hT2.2.2 with h | ⟨j, hj, rfl⟩
      · omega
      · exact (tm_bound hz hg hM.1 hM.2.1 i j (by omega)).2
    refine Ev.step (fun _ => by rw [penumbralaw36_CutBounds.l0]) (pos (by omega) (Ev.bind (term_ev hz hg i (by omega)) (Ev.bind (bound_in (by omega) hM hM2 hg.2.2.1 hg.2.2.2.1 i (by omega)) (pos rfl (Ev.bind hR (Ev.bind (power_ev hg.2.2.1 (by have := hg.2.2.2.1; omega) i (by omega)) ?_))))))
    refine pos (by rw [wfit _ q0 (by omega)]) (Ev.bind hT (neg (by omega) ?_))
    rw [suc (by omega)]
    exact ih (i + 1) (by omega)
theorem CutBounds : penumbralaw36_CutBounds.Pure := by
  unfold penumbralaw36_CutBounds.Pure
  intro e t r a b _ _ _ _ _ _ _
  have hj : Ev (fun k => penumbralaw36_CutBounds.j0 k true e t r a b) true := Ev.step (fun k => sj e t r a b true k) (pos rfl (Ev.bind awake36 (Ev.now _)))
  refine Ev.rounds ?_
  unfold penumbralaw36_CutBounds.f
  by_cases c : e.length ≤ 20 ∧ t.length ≤ 200
  · rw [light36 e t r a b true ⟨fun _ => c, fun _ => rfl⟩]
    obtain ⟨v, hv⟩ := ChkP.tot e t r
    simp only [Option.bind_some, ↓reduceIte]
    refine Ev.bind (rcheck_ev (by omega) hv) ?_
    by_cases v0 : v = 0
    · subst v0
      rcases hv with ⟨_, h⟩ | ⟨_, _, h⟩ | ⟨hz, hg, _⟩
      · cases h
      · cases h
      · obtain ⟨M, _, hM⟩ := rmost_ev e (by omega)
        exact Ev.step (fun k => sj e t r a b _ k) (neg (by decide) (bounds_loop hz hg a b hM 5 0 (by omega)))
    · rw [show (v != 0) = true from bne_iff_ne.mpr v0]
      exact hj
  · rw [light36 e t r a b false ⟨fun x => (by cases x), fun x => absurd x c⟩]
    simp only [Option.bind_some, Bool.false_eq_true, ↓reduceIte]
    exact hj
end Go.Proofs.Ytgkncmnkbhgjmaa.Pure
