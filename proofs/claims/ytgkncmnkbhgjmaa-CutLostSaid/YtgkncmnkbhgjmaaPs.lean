/- chapter 36, plain: what a depth loses. -/
import Derived.Test.YtgkncmnkbhgjmaaPr
namespace Go.Proofs.Ytgkncmnkbhgjmaa.Pure
open Go.RowKit Go.Proofs.Ytgkncmnkbhgjmaa.X Go.Proofs.YtgkncmnkbhgjmaaW.PrintWords Go.Proofs.YtgkncmnkbhgjmaaW.PrintLast
def lz (e t : List Int) (b : Nat) : Nat → List Int → List Int
  | 0, out => out
  | d + 1, out => lz e t b d (Gv.adm out (tm e.length t e (b - d)) d e.length)
theorem lz_length (e t : List Int) (b : Nat) : ∀ d out, (lz e t b d out).length = out.length
  | 0, _ => rfl
  | d + 1, out => by rw [lz, lz_length e t b d, Gv.adm_length]
theorem adm_getD (out l : List Int) (m i : Nat) : ∀ j, j ≤ out.length → (Gv.adm out l m j).getD i 0 = if i < j then wrap64 (out.getD i 0 + Gv.pw 1024 m (l.getD i 0)) else out.getD i 0
  | 0, _ => by rw [if_neg (by omega)]; rfl
  | j + 1, hj => by
    have h := adm_getD out l m i j (by omega)
    have h2 := adm_getD out l m j j (by omega)
    rw [if_neg (by omega)] at h2
    rw [Gv.adm, set_getD _ _ _ _ (by rw [Gv.adm_length]; omega), h2]
    by_cases c : j = i
    · subst c
      rw [if_pos rfl, if_pos (by omega)]
    · rw [if_neg c, h]
      by_cases d : i < j
      · rw [if_pos d, if_pos (by omega)]
      · rw [if_neg d, if_neg (by omega)]
theorem pow_1024 (k : Nat) (hk : k ≤ 6) : (0 : Int) < 1024 ^ k ∧ (1024 : Int) ^ k ≤ 1152921504606846976 := by
  refine ⟨Int.pow_pos (by decide), ?_⟩
  have hb : (1024 : Int) ^ k ≤ 1024 ^ 6 := by
    have : (1024 : Nat) ^ k ≤ 1024 ^ 6 := Nat.pow_le_pow_right (by omega) hk
    rw [show (1024 : Int) = ((1024 : Nat) : Int) from rfl, ← Int.natCast_pow, ← Int.natCast_pow]
    exact Int.ofNat_le.mpr this
  have h5 : (1024 : Int) ^ 6 = 1152921504606846976 := by decide
  omega
/-- M times a power of r and one of 1024 -/
theorem mrp {M r : Int} (hM : 0 ≤ M) (hM2 : M ≤ 1024) (h0 : 0 ≤ r) (h1 : r ≤ 1023) (i j : Nat) (h : i + j ≤ 5) : 0 ≤ M * r ^ i * 1024 ^ j ∧ M * r ^ i * 1024 ^ j ≤ 1152921504606846976 := by
  obtain ⟨a, b⟩ := pow_le h0 (show r ≤ 1024 by omega) i
  have c := (pow_1024 j (by omega)).1
  have c6 := (pow_1024 6 (Nat.le_refl _)).2
  have d0 : 0 ≤ M * r ^ i := Int.mul_nonneg hM a
  have d1 : M * r ^ i ≤ 1024 * 1024 ^ i := Int.mul_le_mul hM2 b a (by omega)
  have e1 := Int.mul_le_mul_of_nonneg_right d1 (show (0 : Int) ≤ 1024 ^ j by omega)
  have e2 : (1024 : Int) * 1024 ^ i * 1024 ^ j = 1024 ^ (i + j + 1) := by rw [Int.pow_succ, Int.pow_add, Int.mul_comm (1024 : Int) (1024 ^ i), Int.mul_assoc, Int.mul_assoc, Int.mul_comm (1024 : Int)]
  have f := (pow_1024 (i + j + 1) (by omega)).2
  rw [e2] at e1
  exact ⟨Int.mul_nonneg d0 (by omega), by omega⟩
theorem tm_scaled {e t : List Int} {r M : Int} (hz : Siz e t) (hg : Good e t r) (hM : 0 ≤ M) (hM2 : M ≤ 1024) (he : ∀ j, j < e.length → e.getD j 0 ≤ M) (k d : Nat) (h : k + d ≤ 4) (j : Nat) (hj : j < e.length) :
    Gv.pw 1024 d ((tm e.length t e k).getD j 0) = (tm e.length t e k).getD j 0 * 1024 ^ d ∧ 0 ≤ (tm e.length t e k).getD j 0 * 1024 ^ d ∧ (tm e.length t e k).getD j 0 * 1024 ^ d ≤ M * r ^ k * 1024 ^ d := by
  obtain ⟨a, b⟩ := tm_bound hz hg hM he k j hj
  have c := (pow_1024 d (by omega)).1
  have f := mrp hM hM2 hg.2.2.1 hg.2.2.2.1 k d (by omega)
  have g := Int.mul_le_mul_of_nonneg_right b (show (0 : Int) ≤ 1024 ^ d by omega)
  exact ⟨pw_pow (by decide) (by decide) d _ (by omega) a (by omega), Int.mul_nonneg a (by omega), g⟩
/-- how great the numbers are when d terms are still to come -/
def Lim (n : Nat) (M r : Int) (a b d : Nat) (out : List Int) : Prop := out.length = n ∧ ∀ i, i < n → 0 ≤ out.getD i 0 ∧ out.getD i 0 * (1024 - r) ≤ M * r ^ a * 1024 ^ (b + 1 - a) - M * r ^ (b + 1 - d) * 1024 ^ d
theorem lim_le {x r B C : Int} (h0 : 0 ≤ x) (h1 : r ≤ 1023) (h : x * (1024 - r) ≤ B - C) (hC : 0 ≤ C) : x ≤ B := by
  have := Int.mul_le_mul_of_nonneg_left (show 1 ≤ 1024 - r by omega) h0
  omega
theorem lim_step {e t : List Int} {r M : Int} (hz : Siz e t) (hg : Good e t r) (hM : 0 ≤ M) (hM2 : M ≤ 1024) (he : ∀ j, j < e.length → e.getD j 0 ≤ M) {a b d : Nat} (hb : b ≤ 4) (ha : a + (d + 1) ≤ b + 1) {out : List Int} (h : Lim e.length M r a b (d + 1) out) : Lim e.length M r a b d (Gv.adm out (tm e.length t e (b - d)) d e.length) := by
  obtain ⟨hl, h⟩ := h
  refine ⟨by rw [Gv.adm_length, hl], fun i hi => ?_⟩
  obtain ⟨x0, x1⟩ := h i hi
  obtain ⟨p1, p2, p3⟩ := tm_scaled hz hg hM hM2 he (b - d) d (by omega) i hi
  have hr := hg.2.2.2.1
  have B1 := mrp hM hM2 hg.2.2.1 hr a (b + 1 - a) (by omega)
  have B2 := mrp hM hM2 hg.2.2.1 hr (b - d) d (by omega)
  have B3 := mrp hM hM2 hg.2.2.1 hr (b - d) (d + 1) (by omega)
  rw [show b + 1 - (d + 1) = b - d by omega] at x1
  have hx := lim_le x0 hr x1 B3.1
  rw [adm_getD _ _ _ _ _ (by omega), if_pos hi, p1, wfit _ (by omega) (by omega)]
  refine ⟨by omega, ?_⟩
  have q := Int.mul_le_mul_of_nonneg_right p3 (show 0 ≤ 1024 - r by omega)
  have e1 : M * r ^ (b - d) * 1024 ^ d * (1024 - r) = M * r ^ (b - d) * 1024 ^ (d + 1) - M * r ^ (b + 1 - d) * 1024 ^ d := by
    rw [show b + 1 - d = (b - d) + 1 by omega, Int.pow_succ, Int.pow_succ, Int.mul_sub, ← Int.mul_assoc]
    congr 1
    rw [Int.mul_assoc, Int.mul_comm (1024 ^ d) r, ← Int.mul_assoc, ← Int.mul_assoc]
  rw [e1] at q
  rw [Int.add_mul]
  omega
theorem lim_end {e t : List Int} {r M : Int} (hz : Siz e t) (hg : Good e t r) (hM : 0 ≤ M) (hM2 : M ≤ 1024) (he : ∀ j, j < e.length → e.getD j 0 ≤ M) {a b : Nat} (hb : b ≤ 4) : ∀ d out, a + d ≤ b + 1 → Lim e.length M r a b d out → Lim e.length M r a b 0 (lz e t b d out)
  | 0, _, _, h => h
  | d + 1, out, ha, h => by
    rw [lz]
    exact lim_end hz hg hM hM2 he hb d _ (by omega) (lim_step hz hg hM hM2 he hb ha h)
theorem lim_start {n : Nat} {M r : Int} {a b : Nat} (ha : a ≤ b + 1) : Lim n M r a b (b + 1 - a) (List.replicate n 0) := by
  refine ⟨by simp, fun i hi => ?_⟩
  have e : (List.replicate n (0 : Int)).getD i 0 = 0 := by simp [List.getD_eq_getElem?_getD, hi]
  rw [e, show b + 1 - (b + 1 - a) = a by omega]
  omega
theorem lostTo_ev {e t : List Int} {r : Int} (hz : Siz e t) (hg : Good e t r) {b : Nat} (hb : b ≤ 4) : ∀ d out, Ev (fun k => Gv.lostTo k e t r b d out) (lz e t b d out)
  | 0, out => Ev.now _
  | d + 1, out => by
    refine Ev.congr (fun k => by rw [Gv.lostTo]) (Ev.bind (term_ev hz hg (b - d) (by omega)) (pos (tm_length _) ?_))
    exact lostTo_ev hz hg hb d _
theorem lost_ev {e t : List Int} {r : Int} (hz : Siz e t) (hg : Good e t r) {a b : Nat} (ha : a ≤ 4) (hb : b ≤ 4) : Ev (fun k => Gv.lostF k e t r (a : Int) (b : Int)) (lz e t b (b + 1 - a) (List.replicate e.length 0), 0) := by
  have h2 := hz.2.1
  have h3 := hz.2.2
  have hnn : e.length * e.length ≤ 12 * 12 := Nat.mul_le_mul h2 h2
  refine Ev.bind (ccheck_ev (by omega) (by omega) (.inr (.inr ⟨hz, hg, rfl⟩))) (pos rfl (pos ⟨⟨by omega, by omega⟩, by omega, by omega⟩ (pos (by omega) ?_)))
  rw [Int.toNat_natCast, Int.toNat_natCast]
  exact Ev.bind (lostTo_ev hz hg hb _ _) (Ev.now _)
theorem lost_far {e t : List Int} {r c a b : Int} (hs : e.length ≤ 1000) (hs2 : t.length ≤ 1000) (h : ChkP e t r c) (hc : c ≠ 0 ∨ ¬ ((0 ≤ a ∧ a ≤ 4) ∧ 0 ≤ b ∧ b ≤ 4)) : Ev (fun k => Gv.lostF k e t r a b) ([], if c = 0 then 3 else c) := by
  refine Ev.bind (ccheck_ev hs hs2 h) ?_
  by_cases c0 : c = 0
  · rw [if_pos c0]
    refine pos c0 (neg (fun x => ?_) (Ev.now _))
    rcases hc with y | y
    · exact y c0
    · exact y x
  · rw [if_neg c0]
    exact neg c0 (Ev.now _)
end Go.Proofs.Ytgkncmnkbhgjmaa.Pure
