/- OrderVisits: plain lists. -/
import Derived.Test.YtjfegfhhgekcfaaGx
import Derived.Test.YtjfegfhhgekcfaaPureOrderCodes
namespace Go.Proofs.Ytjfegfhhgekcfaa.Pure
open Go.RowKit Go.Proofs.Ytjfegfhhgekcfaa.X Go.Proofs.YtjfegfhhgekcfaaW.PrintWords Go.Proofs.YtjfegfhhgekcfaaW.PrintLast Go.Proofs.YtjfegfhhgekcfaaW.PrintMore Gv
/-- the code of a pixel -/
def pc (W : Nat) (q : Int) : Nat := cN 16 (q.toNat % W) (q.toNat / W)
def clip (x W h : Nat) : Nat := min (W - x) h
theorem vis_len (W H : Nat) : ∀ m x y, (vis W H m x y).length = clip x W (2 ^ m) * clip y H (2 ^ m) := by
  intro m
  induction m with
  | zero =>
    intro x y
    unfold vis
    by_cases h : W ≤ x ∨ H ≤ y
    · rw [if_pos h]
      rcases h with h | h
      · rw [show clip x W (2 ^ 0) = 0 from by unfold clip; omega, Nat.zero_mul]; rfl
      · rw [show clip y H (2 ^ 0) = 0 from by unfold clip; omega, Nat.mul_zero]; rfl
    · rw [if_neg h, show clip x W (2 ^ 0) = 1 from by unfold clip; omega, show clip y H (2 ^ 0) = 1 from by unfold clip; omega]
      rfl
  | succ m ih =>
    intro x y
    unfold vis
    by_cases h : W ≤ x ∨ H ≤ y
    · rw [if_pos h]
      rcases h with h | h
      · rw [show clip x W (2 ^ (m + 1)) = 0 from by unfold clip; rw [show W - x = 0 from by omega]; exact Nat.zero_min _, Nat.zero_mul]; rfl
      · rw [show clip y H (2 ^ (m + 1)) = 0 from by unfold clip; rw [show H - y = 0 from by omega]; exact Nat.zero_min _, Nat.mul_zero]; rfl
    · rw [if_neg h]
      simp only [List.length_append]
      rw [ih, ih, ih, ih]
      have hp := Nat.two_pow_pos m
      have e1 : clip x W (2 ^ (m + 1)) = clip x W (2 ^ m) + clip (x + 2 ^ m) W (2 ^ m) := by unfold clip; rw [Nat.pow_succ]; generalize 2 ^ m = h at *; omega
      have e2 : clip y H (2 ^ (m + 1)) = clip y H (2 ^ m) + clip (y + 2 ^ m) H (2 ^ m) := by unfold clip; rw [Nat.pow_succ]; generalize 2 ^ m = h at *; omega
      rw [e1, e2, Nat.add_mul, Nat.mul_add, Nat.mul_add]
      omega
theorem vis_in (W H : Nat) : ∀ m x y, ∀ q ∈ vis W H m x y, ∃ p : Nat, q = (p : Int) ∧ p < W * H := by
  intro m
  induction m with
  | zero =>
    intro x y q hq
    unfold vis at hq
    by_cases h : W ≤ x ∨ H ≤ y
    · rw [if_pos h] at hq; cases hq
    · rw [if_neg h] at hq
      simp only [List.mem_singleton] at hq
      refine ⟨_, hq, ?_⟩
      have h1 : (y + 1) * W ≤ H * W := Nat.mul_le_mul_right W (by omega)
      rw [Nat.add_mul, Nat.one_mul] at h1
      rw [Nat.mul_comm W H]
      omega
  | succ m ih =>
    intro x y q hq
    unfold vis at hq
    by_cases h : W ≤ x ∨ H ≤ y
    · rw [if_pos h] at hq; cases hq
    · rw [if_neg h] at hq
      simp only [List.mem_append] at hq
      rcases hq with ((hq | hq) | hq) | hq
      · exact ih _ _ q hq
      · exact ih _ _ q hq
      · exact ih _ _ q hq
      · exact ih _ _ q hq
theorem cN_pre (n x y i j : Nat) (hi : i ≤ 1) (hj : j ≤ 1) : cN (n + 1) (2 * x + i) (2 * y + j) = 4 * cN n x y + 2 * j + i := by
  rw [cN, show (2 * x + i) / 2 = x from by omega, show (2 * y + j) / 2 = y from by omega]
  omega
theorem div_lt {a b c : Nat} (h : a / c < b / c) : a < b := by
  rcases Nat.lt_or_ge a b with h' | h'
  · exact h'
  · have := Nat.div_le_div_right (c := c) h'; omega
theorem vis_code (W H : Nat) : ∀ m a b, m ≤ 16 → (∀ q ∈ vis W H m (2 ^ m * a) (2 ^ m * b), pc W q / 4 ^ m = cN (16 - m) a b) ∧ (vis W H m (2 ^ m * a) (2 ^ m * b)).Pairwise (fun p q => pc W p < pc W q) := by
  intro m
  induction m with
  | zero =>
    intro a b _
    simp only [Nat.pow_zero, Nat.one_mul]
    unfold vis
    by_cases h : W ≤ a ∨ H ≤ b
    · rw [if_pos h]
      exact ⟨fun q hq => (by cases hq), List.Pairwise.nil⟩
    · rw [if_neg h]
      refine ⟨fun q hq => ?_, List.pairwise_singleton _ _⟩
      simp only [List.mem_singleton] at hq
      subst hq
      unfold pc
      have hW : 0 < W := by omega
      rw [Int.toNat_natCast, Nat.div_one, show b * W + a = a + W * b from by rw [Nat.mul_comm, Nat.add_comm], Nat.add_mul_mod_self_left, Nat.mod_eq_of_lt (by omega), Nat.add_mul_div_left _ _ hW, Nat.div_eq_of_lt (by omega), Nat.zero_add]
  | succ m ih =>
    intro a b hm
    have x0 : 2 ^ (m + 1) * a = 2 ^ m * (2 * a + 0) := by rw [Nat.pow_succ, Nat.mul_assoc]; rfl
    have y0 : 2 ^ (m + 1) * b = 2 ^ m * (2 * b + 0) := by rw [Nat.pow_succ, Nat.mul_assoc]; rfl
    have x1 : 2 ^ (m + 1) * a + 2 ^ m = 2 ^ m * (2 * a + 1) := by rw [Nat.pow_succ, Nat.mul_add, Nat.mul_assoc, Nat.mul_one]
    have y1 : 2 ^ (m + 1) * b + 2 ^ m = 2 ^ m * (2 * b + 1) := by rw [Nat.pow_succ, Nat.mul_add, Nat.mul_assoc, Nat.mul_one]
    have e16 : 16 - m = (16 - (m + 1)) + 1 := by omega
    obtain ⟨p0, s0⟩ := ih (2 * a + 0) (2 * b + 0) (by omega)
    obtain ⟨p1, s1⟩ := ih (2 * a + 1) (2 * b + 0) (by omega)
    obtain ⟨p2, s2⟩ := ih (2 * a + 0) (2 * b + 1) (by omega)
    obtain ⟨p3, s3⟩ := ih (2 * a + 1) (2 * b + 1) (by omega)
    rw [e16, cN_pre _ _ _ 0 0 (by omega) (by omega)] at p0
    rw [e16, cN_pre _ _ _ 1 0 (by omega) (by omega)] at p1
    rw [e16, cN_pre _ _ _ 0 1 (by omega) (by omega)] at p2
    rw [e16, cN_pre _ _ _ 1 1 (by omega) (by omega)] at p3
    unfold vis
    by_cases h : W ≤ 2 ^ (m + 1) * a ∨ H ≤ 2 ^ (m + 1) * b
    · rw [if_pos h]
      exact ⟨fun q hq => (by cases hq), List.Pairwise.nil⟩
    · rw [if_neg h, x1, y1, x0, y0]
      generalize vis W H m (2 ^ m * (2 * a + 0)) (2 ^ m * (2 * b + 0)) = L0 at *
      generalize vis W H m (2 ^ m * (2 * a + 1)) (2 ^ m * (2 * b + 0)) = L1 at *
      generalize vis W H m (2 ^ m * (2 * a + 0)) (2 ^ m * (2 * b + 1)) = L2 at *
      generalize vis W H m (2 ^ m * (2 * a + 1)) (2 ^ m * (2 * b + 1)) = L3 at *
      generalize cN (16 - (m + 1)) a b = c at *
      have up : ∀ q v, pc W q / 4 ^ m = v → pc W q / 4 ^ (m + 1) = v / 4 := fun q v e => by rw [Nat.pow_succ, ← Nat.div_div_eq_div_mul, e]
      refine ⟨fun q hq => ?_, ?_⟩
      · simp only [List.mem_append] at hq
        rcases hq with ((hq | hq) | hq) | hq
        · rw [up q _ (p0 q hq)]; omega
        · rw [up q _ (p1 q hq)]; omega
        · rw [up q _ (p2 q hq)]; omega
        · rw [up q _ (p3 q hq)]; omega
      · refine List.pairwise_append.mpr ⟨List.pairwise_append.mpr ⟨List.pairwise_append.mpr ⟨s0, s1, fun p hp q hq => ?_⟩, s2, fun p hp q hq => ?_⟩, s3, fun p hp q hq => ?_⟩
        · exact div_lt (c := 4 ^ m) (by rw [p0 p hp, p1 q hq]; omega)
        · simp only [List.mem_append] at hp
          rcases hp with hp | hp
          · exact div_lt (c := 4 ^ m) (by rw [p0 p hp, p2 q hq]; omega)
          · exact div_lt (c := 4 ^ m) (by rw [p1 p hp, p2 q hq]; omega)
        · simp only [List.mem_append] at hp
          rcases hp with (hp | hp) | hp
          · exact div_lt (c := 4 ^ m) (by rw [p0 p hp, p3 q hq]; omega)
          · exact div_lt (c := 4 ^ m) (by rw [p1 p hp, p3 q hq]; omega)
          · exact div_lt (c := 4 ^ m) (by rw [p2 p hp, p3 q hq]; omega)
theorem set_getD {α : Type} (l : List α) (d v : α) (i j : Nat) (hi : i < l.length) : (l.set i v).getD j d = if i = j then v else l.getD j d := by
  simp only [List.getD_eq_getElem?_getD, List.getElem?_set]
  by_cases c : i = j
  · subst c; simp [hi]
  · simp [c]
theorem rvTo_at (l : List Int) (a n : Nat) (hn : a + n ≤ l.length) : ∀ k, k ≤ n / 2 → ∀ j, (rvTo l a n k).getD j 0 = if (a ≤ j ∧ j < a + k) ∨ (a + n - k ≤ j ∧ j < a + n) then l.getD (2 * a + n - 1 - j) 0 else l.getD j 0
  | 0, _, j => by rw [if_neg (by omega)]; rfl
  | k + 1, hk, j => by
    have ih := rvTo_at l a n hn k (by omega)
    have hl := rvTo_length l a n k
    rw [rvTo, set_getD _ _ _ _ _ (by rw [List.length_set, hl]; omega), set_getD _ _ _ _ _ (by rw [hl]; omega), ih, ih, ih]
    by_cases c1 : a + n - 1 - k = j
    · rw [if_pos c1, if_neg (by omega), if_pos (by omega), show 2 * a + n - 1 - j = a + k from by omega]
    · rw [if_neg c1]
      by_cases c2 : a + k = j
      · rw [if_pos c2, if_neg (by omega), if_pos (by omega), show 2 * a + n - 1 - j = a + n - 1 - k from by omega]
      · rw [if_neg c2]
        by_cases c3 : (a ≤ j ∧ j < a + k) ∨ (a + n - k ≤ j ∧ j < a + n)
        · rw [if_pos c3, if_pos (by omega)]
        · rw [if_neg c3, if_neg (by omega)]
theorem rv_full (l : List Int) (a n : Nat) (hn : a + n ≤ l.length) (j : Nat) : (rvTo l a n (n / 2)).getD j 0 = if a ≤ j ∧ j < a + n then l.getD (2 * a + n - 1 - j) 0 else l.getD j 0 := by
  rw [rvTo_at l a n hn _ (Nat.le_refl _)]
  by_cases c : a ≤ j ∧ j < a + n
  · rw [if_pos c]
    by_cases d : (a ≤ j ∧ j < a + n / 2) ∨ (a + n - n / 2 ≤ j ∧ j < a + n)
    · rw [if_pos d]
    · rw [if_neg d, show 2 * a + n - 1 - j = j from by omega]
  · rw [if_neg c, if_neg (by omega)]
theorem sn_at (l : List Int) (W H : Nat) (hl : l.length = W * H) (x : Nat) (hx : x < W) : ∀ t, t ≤ H / 2 → ∀ y, y < H → (snTo l W t).getD (y * W + x) 0 = if y % 2 = 1 ∧ y < 2 * t then l.getD (y * W + (W - 1 - x)) 0 else l.getD (y * W + x) 0
  | 0, _, y, _ => by rw [if_neg (by omega)]; rfl
  | t + 1, ht, y, hy => by
    have ih := sn_at l W H hl x hx t (by omega) y hy
    have hr : (2 * t + 1) * W + W ≤ W * H := by
      have := Nat.mul_le_mul_left W (show 2 * t + 2 ≤ H by omega)
      have e : (2 * t + 1) * W + W = W * (2 * t + 2) := by rw [Nat.mul_comm, Nat.mul_add, Nat.mul_add, Nat.mul_one]; omega
      omega
    rw [snTo, rv_full _ _ _ (by rw [snTo_length, hl]; exact hr)]
    by_cases c : y = 2 * t + 1
    · subst c
      have e2 : 2 * ((2 * t + 1) * W) + W - 1 - ((2 * t + 1) * W + x) = (2 * t + 1) * W + (W - 1 - x) := by omega
      rw [if_pos (by omega), e2, sn_at l W H hl (W - 1 - x) (by omega) t (by omega) (2 * t + 1) hy, if_neg (by omega), if_pos (by omega)]
    · have hn : ¬ ((2 * t + 1) * W ≤ y * W + x ∧ y * W + x < (2 * t + 1) * W + W) := by
        rintro ⟨h1, h2⟩
        rcases Nat.lt_or_gt_of_ne c with h | h
        · have := Nat.mul_le_mul_right W (show y + 1 ≤ 2 * t + 1 by omega)
          rw [Nat.add_mul, Nat.one_mul] at this
          omega
        · have := Nat.mul_le_mul_right W (show 2 * t + 1 + 1 ≤ y by omega)
          rw [Nat.add_mul (2 * t + 1) 1, Nat.one_mul] at this
          omega
      rw [if_neg hn, ih]
      by_cases d : y % 2 = 1 ∧ y < 2 * t
      · rw [if_pos d, if_pos (by omega)]
      · rw [if_neg d, if_neg (by omega)]
/-- 0, 1, .. -/
def rowsL (n : Nat) : List Int := (List.range n).map fun i : Nat => (i : Int)
theorem rowsL_length (n : Nat) : (rowsL n).length = n := by simp [rowsL]
theorem rowsL_at (n i : Nat) (h : i < n) : (rowsL n).getD i 0 = (i : Int) := by simp [rowsL, List.getD_eq_getElem?_getD, h]
theorem rows_loop (n : Nat) (hn : n ≤ 65536) : ∀ d i, i + d = n → Ev (fun k => order_Rows.l0 k (rowsL i) (n : Int) (i : Int)) (rowsL n, 0) := by
  intro d
  induction d with
  | zero =>
    intro i hi
    have e : i = n := by omega
    subst e
    exact Ev.step (fun _ => rfl) (neg (by omega) (Ev.now _))
  | succ d ih =>
    intro i hi
    have h := ih (i + 1) (by omega)
    have hl := rowsL_length i
    refine Ev.step (fun _ => rfl) (pos (by omega) (pos (by omega) ?_))
    rw [suc (by omega)]
    have e : rowsL (i + 1) = rowsL i ++ [(i : Int)] := by rw [rowsL, List.range_succ, List.map_append]; rfl
    rw [e] at h
    exact h
end Go.Proofs.Ytjfegfhhgekcfaa.Pure
