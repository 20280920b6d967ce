/- chapter 36, plain: the document's terms are the code's. -/
import Derived.Test.YtgkncmnkbhgjmaaPl
import Derived.Test.YtgkncmnkbhgjmaaGtm
import Derived.Test.YtgkncmnkbhgjmaaXxA30
namespace Go.Proofs.Ytgkncmnkbhgjmaa.Pure
open Go.RowKit Go.Proofs.Ytgkncmnkbhgjmaa.X Go.Proofs.YtgkncmnkbhgjmaaW.PrintWords Go.Proofs.YtgkncmnkbhgjmaaW.PrintLast
def sd (n : Nat) (t l : List Int) (row : Nat) : Nat → Int
  | 0 => 0
  | j + 1 => sd n t l row j + t.getD (row * n + j) 0 * l.getD j 0
theorem st_sd {n : Nat} (hn : 1 ≤ n) (t l : List Int) : ∀ i, i ≤ n * n → ∀ row, row < n → (st n t l i).getD row 0 = sd n t l row (min n (i - row * n))
  | 0, _, row, hr => by rw [Nat.zero_sub, Nat.min_zero]; simp [st, sd, List.getD_eq_getElem?_getD, hr]
  | i + 1, hi, row, hr => by
    have h := div_is (i := i) (row := row) hn
    have hq : i / n < n := Nat.div_lt_of_lt_mul (by omega)
    rw [st, set_getD _ _ _ _ (by rw [st_length]; exact hq), st_sd hn t l i (by omega) (i / n) hq]
    by_cases c : i / n = row
    · have hdm := Nat.div_add_mod i n
      rw [if_pos c, c]
      rw [c] at hdm
      obtain ⟨h1, h2⟩ := h.mp c
      rw [Nat.mul_comm] at hdm
      generalize hm : row * n = m at h1 h2 hdm ⊢
      rw [show min n (i + 1 - m) = (i - m) + 1 by omega, show min n (i - m) = i - m by omega, sd, hm, show m + (i - m) = i by omega, show i % n = i - m by omega]
    · rw [if_neg c, st_sd hn t l i (by omega) row hr]
      have h3 : ¬ (row * n ≤ i ∧ i < row * n + n) := fun x => c (h.mpr x)
      generalize row * n = m at h3 ⊢
      rw [show min n (i + 1 - m) = min n (i - m) by omega]
theorem sd_bound {n : Nat} {t l : List Int} {M : Int} {row : Nat} (hM : 0 ≤ M) (hlt : row * n + n ≤ t.length) (ht : In t 1023) (hl : ∀ j, j < n → 0 ≤ l.getD j 0 ∧ l.getD j 0 ≤ M) : ∀ j, j ≤ n → 0 ≤ sd n t l row j ∧ sd n t l row j ≤ rs n t row j * M
  | 0, _ => by simp [sd, rs]
  | j + 1, hj => by
    obtain ⟨a, b⟩ := sd_bound hM hlt ht hl j (by omega)
    obtain ⟨x0, x1⟩ := hl j (by omega)
    have t0 := (ht (row * n + j) (by omega)).1
    have y0 := Int.mul_nonneg t0 x0
    have y1 := Int.mul_le_mul_of_nonneg_left x1 t0
    rw [sd, rs, Int.add_mul]
    omega
theorem wd_sd {n : Nat} {t l : List Int} {M : Int} {row : Nat} (hM : 0 ≤ M) (hlt : row * n + n ≤ t.length) (ht : In t 1023) (hl : ∀ j, j < n → 0 ≤ l.getD j 0 ∧ l.getD j 0 ≤ M) (hw : ∀ j, j ≤ n → rs n t row j * M ≤ 4611686018427387904) : ∀ j, j ≤ n → Gv.wd n t l row j = sd n t l row j
  | 0, _ => rfl
  | j + 1, hj => by
    obtain ⟨a, b⟩ := sd_bound hM hlt ht hl j (by omega)
    obtain ⟨c, d⟩ := sd_bound hM hlt ht hl (j + 1) hj
    have w := hw (j + 1) hj
    rw [sd] at c d
    rw [Gv.wd, wd_sd hM hlt ht hl hw j (by omega), sd]
    exact add_step a (Int.mul_nonneg (ht (row * n + j) (by omega)).1 (hl j (by omega)).1) d w
theorem wrow_getD (n : Nat) (t l : List Int) (i : Nat) : ∀ k, i < k → (Gv.wrow n t l k).getD i 0 = Gv.wd n t l i n
  | k + 1, h => by
    have hl := Gv.wrow_length n t l k
    rw [Gv.wrow]
    by_cases c : i = k
    · subst c
      simp [List.getD_eq_getElem?_getD, hl]
    · rw [← wrow_getD n t l i k (by omega)]
      simp only [List.getD_eq_getElem?_getD]
      rw [List.getElem?_append_left (by omega)]
theorem ext_getD {a b : List Int} (h : a.length = b.length) (hg : ∀ i, i < a.length → a.getD i 0 = b.getD i 0) : a = b := by
  apply List.ext_getElem h
  intro i h1 h2
  have := hg i h1
  simpa [List.getD_eq_getElem?_getD, h1, h2] using this
theorem rtm_tm {e t : List Int} {r : Int} (hz : Siz e t) (hg : Good e t r) : ∀ k, k ≤ 4 → Gv.rtm e.length t e k = tm e.length t e k
  | 0, _ => rfl
  | k + 1, hk => by
    rw [Gv.rtm, rtm_tm hz hg k (by omega), tm]
    have hl := tm_length (t := t) (e := e) k
    have hlt := hz.2.2
    obtain ⟨p0, p1⟩ := pow_small hg.2.2.1 hg.2.2.2.1 (k + 1) (by omega)
    obtain ⟨q0, q1⟩ := pow_small hg.2.2.1 hg.2.2.2.1 k (by omega)
    apply ext_getD
    · rw [Gv.wrow_length, st_length]
    · intro i hi
      rw [Gv.wrow_length] at hi
      have hrow := row_le hi
      have hle : i * e.length + e.length ≤ t.length := by rw [hlt]; exact hrow
      rw [wrow_getD _ _ _ _ _ hi, st_sd hz.1 t _ _ (Nat.le_refl _) i hi]
      have hmin : min e.length (e.length * e.length - i * e.length) = e.length := by
        generalize e.length * e.length = x at hrow ⊢
        generalize i * e.length = y at hrow ⊢
        omega
      rw [hmin]
      refine wd_sd (M := 1024 * r ^ k) (by omega) hle hg.2.1 (tm_bound hz hg (by omega) (fun j hj => (hg.1 j hj).2) k) (fun j hj => ?_) e.length (Nat.le_refl _)
      have h1 := rs_mono hle hg.2.1 (e.length - j) j (by omega)
      rw [show j + (e.length - j) = e.length by omega] at h1
      have h2 := hg.2.2.2.2 i hi
      have := Int.mul_le_mul_of_nonneg_right (show rs e.length t i j ≤ r by omega) (show 0 ≤ 1024 * r ^ k by omega)
      rw [Int.pow_succ] at p1
      have e2 : r * (1024 * r ^ k) = 1024 * (r ^ k * r) := by rw [Int.mul_left_comm, Int.mul_comm r]
      rw [e2] at this
      omega
theorem ints_loop {l : List Int} (hs : l.length ≤ 1000000) : ∀ d i : Nat, i + d = l.length → Ev (fun k => penumbraref01_Ints.l0 k l l (i : Int)) true := by
  intro d
  induction d with
  | zero =>
    intro i hi
    exact Ev.step (fun _ => by rw [penumbraref01_Ints.l0]) (neg (by omega) (Ev.now _))
  | succ d ih =>
    intro i hi
    refine Ev.step (fun _ => by rw [penumbraref01_Ints.l0]) (pos (by omega) (pos (by omega) (pos (by omega) (pos rfl ?_))))
    rw [suc (by omega)]
    exact ih (i + 1) (by omega)
theorem ints_ev (l : List Int) (hs : l.length ≤ 1000000) : Ev (fun k => penumbraref01_Ints.f k l l) true := pos rfl (ints_loop hs l.length 0 (by omega))
end Go.Proofs.Ytgkncmnkbhgjmaa.Pure
