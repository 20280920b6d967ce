/- How many draws lie in each column and each row: plain; equal lists of numbers. -/
import Derived.Test.YtkmdbidjdppdnaaQi
import Derived.Test.YtkmdbidjdppdnaaXxA30
namespace Go.Proofs.Ytkmdbidjdppdnaa.Gv
open Go.RowKit Go.Proofs.Ytkmdbidjdppdnaa.X Go.Proofs.YtkmdbidjdppdnaaW.PrintWords Go.Proofs.YtkmdbidjdppdnaaW.PrintLast Go.Proofs.YtkmdbidjdppdnaaW.PrintMore
set_option linter.unusedVariables false
theorem ints_l0 (a : List Int) (hl : a.length ≤ 1000000) : ∀ d i : Nat, i + d = a.length → penumbraref01_Ints.l0 (d + 1) a a (i : Int) = some true := by
  intro d
  induction d with
  | zero =>
    intro i hi
    rw [penumbraref01_Ints.l0, if_neg (by omega)]
  | succ d ih =>
    intro i hi
    have hw : wrap64 ((i : Int) + 1) = ((i + 1 : Nat) : Int) := by unfold wrap64; omega
    rw [penumbraref01_Ints.l0, if_pos (by omega), if_pos (by omega), if_pos (by omega), if_pos rfl, hw]
    exact ih (i + 1) (by omega)
theorem ints_self (a : List Int) (hl : a.length ≤ 1000000) : penumbraref01_Ints.f (a.length + 1) a a = some true := by
  unfold penumbraref01_Ints.f
  rw [if_pos rfl]
  exact ints_l0 a hl a.length 0 (by omega)
theorem ints_any (A0 : Option Addr) (c0 : Nat) (A1 : Option Addr) (c1 : Nat) (a : List Int) (hl : a.length ≤ 1000000) (w : World) (hr0 : Kd.C (Kd.int .i64) w A0 a.length a) (hc0 : a.length ≤ c0) (hr1 : Kd.C (Kd.int .i64) w A1 a.length a) (hc1 : a.length ≤ c1) :
    Calls Try.prog 16 #[.slice A0 a.length c0, .slice A1 a.length c1] w fun e w' => e = .returned (.bool true) ∧ Below w.heap.size w w' :=
  (penumbraref01_Ints.calls (a.length + 1) A0 c0 a A1 c1 a true w hr0 hc0 hr1 hc1 (ints_self a hl)).mono fun _ _ ⟨he, hd⟩ => ⟨he, hd.below⟩
/-- how many of the first m lie in a column or row -/
def cntL (n : Nat) (l : List (Nat × Nat)) (s j : Nat) : Nat → Nat
  | 0 => 0
  | m + 1 => cntL n l s j m + (if cellN n (sd s (l.getD m (0, 0))) = j then 1 else 0)
theorem cntL_le (n : Nat) (l : List (Nat × Nat)) (s j : Nat) : ∀ m, cntL n l s j m ≤ m := by
  intro m
  induction m with
  | zero => exact Nat.le_refl _
  | succ m ih => rw [cntL]; split <;> omega
theorem seen_cnt (n : Nat) (l : List (Nat × Nat)) (s j : Nat) (hj : j < n) : ∀ m, (seenL n l s m).getD j false = decide (1 ≤ cntL n l s j m) := by
  intro m
  induction m with
  | zero =>
    rw [seenL, cntL, List.getD_eq_getElem?_getD, List.getElem?_replicate, if_pos hj]
    rfl
  | succ m ih =>
    rw [seenL, cntL, List.getD_eq_getElem?_getD, List.getElem?_set]
    by_cases c : cellN n (sd s (l.getD m (0, 0))) = j
    · rw [if_pos c, if_pos c, if_pos (by rw [seenL_length, c]; exact hj), Option.getD_some]
      exact (decide_eq_true (by omega)).symm
    · rw [if_neg c, if_neg c, ← List.getD_eq_getElem?_getD, ih, Nat.add_zero]
def sumI : Nat → (Nat → Nat) → Nat
  | 0, _ => 0
  | n + 1, f => sumI n f + f n
theorem sumI_add (n : Nat) (f g : Nat → Nat) : sumI n (fun j => f j + g j) = sumI n f + sumI n g := by
  induction n with
  | zero => rfl
  | succ n ih => rw [sumI, sumI, sumI, ih]; omega
theorem sumI_zero (n c : Nat) (h : n ≤ c) : sumI n (fun j => if c = j then 1 else 0) = 0 := by
  induction n with
  | zero => rfl
  | succ n ih => rw [sumI, ih (by omega), if_neg (by omega)]
theorem sumI_one (n c : Nat) (h : c < n) : sumI n (fun j => if c = j then 1 else 0) = 1 := by
  induction n with
  | zero => omega
  | succ n ih =>
    rw [sumI]
    by_cases e : c = n
    · rw [sumI_zero n c (by omega), if_pos e]
    · rw [ih (by omega), if_neg e]
theorem sumI_all (n : Nat) (f : Nat → Nat) (h : ∀ j, j < n → 1 ≤ f j) : n ≤ sumI n f := by
  induction n with
  | zero => exact Nat.le_refl _
  | succ n ih =>
    have h1 := ih (fun j hj => h j (by omega))
    have h2 := h n (by omega)
    rw [sumI]
    omega
theorem sumI_big (n : Nat) (f : Nat → Nat) (h : ∀ j, j < n → 1 ≤ f j) (j : Nat) (hj : j < n) : n + f j ≤ sumI n f + 1 := by
  induction n with
  | zero => omega
  | succ n ih =>
    rw [sumI]
    by_cases e : j = n
    · have h1 := sumI_all n f (fun j hj => h j (by omega))
      rw [e]
      omega
    · have h1 := ih (fun j hj => h j (by omega)) (by omega)
      have h2 := h n (by omega)
      omega
theorem cnt_sum (n : Nat) (h1 : 1 ≤ n) (l : List (Nat × Nat)) (s : Nat) : ∀ m, sumI n (fun j => cntL n l s j m) = m := by
  intro m
  induction m with
  | zero =>
    have key : ∀ n, sumI n (fun j => cntL n l s j 0) = 0 := by
      intro n
      have : ∀ k, sumI k (fun j => cntL n l s j 0) = 0 := by
        intro k
        induction k with
        | zero => rfl
        | succ k ih => rw [sumI, ih]; rfl
      exact this n
    exact key n
  | succ m ih =>
    have e : (fun j => cntL n l s j (m + 1)) = fun j => cntL n l s j m + (if cellN n (sd s (l.getD m (0, 0))) = j then 1 else 0) := by
      funext j
      rw [cntL]
    rw [e, sumI_add, ih, sumI_one n _ (cellN_lt h1)]
theorem all_seen (n : Nat) (h1 : 1 ≤ n) (l : List (Nat × Nat)) (s : Nat) : allB (seenL n l s n) = true ↔ ∀ j, j < n → cntL n l s j n = 1 := by
  have hget : allB (seenL n l s n) = true ↔ ∀ j, j < n → (seenL n l s n).getD j false = true := by
    have hl := seenL_length n l s n
    unfold allB
    rw [List.all_eq_true]
    constructor
    · intro h j hj
      rw [List.getD_eq_getElem?_getD, List.getElem?_eq_getElem (by omega), Option.getD_some]
      exact h _ (List.getElem_mem _)
    · intro h x hx
      obtain ⟨i, hi, rfl⟩ := List.mem_iff_getElem.1 hx
      have h2 := h i (by omega)
      rw [List.getD_eq_getElem?_getD, List.getElem?_eq_getElem hi, Option.getD_some] at h2
      exact h2
  rw [hget]
  constructor
  · intro h
    have h2 : ∀ j, j < n → 1 ≤ cntL n l s j n := fun j hj => by
      have := h j hj
      rw [seen_cnt n l s j hj n] at this
      exact of_decide_eq_true this
    intro j hj
    have h3 := sumI_big n (fun j => cntL n l s j n) h2 j hj
    rw [cnt_sum n h1 l s n] at h3
    have h4 := h2 j hj
    omega
  · intro h j hj
    rw [seen_cnt n l s j hj n, h j hj]
    rfl
/-- are the first k columns and rows right -/
def sprT (n : Nat) (l : List (Nat × Nat)) (m : Nat) : Nat → Bool
  | 0 => decide (m = n)
  | k + 1 => (sprT n l m k && (cntL n l 0 k m == 1)) && (cntL n l 1 k m == 1)
theorem sprT_iff (n : Nat) (l : List (Nat × Nat)) (m k : Nat) : sprT n l m k = true ↔ m = n ∧ ∀ j, j < k → cntL n l 0 j m = 1 ∧ cntL n l 1 j m = 1 := by
  induction k with
  | zero =>
    rw [sprT, decide_eq_true_iff]
    exact ⟨fun h => ⟨h, fun j hj => absurd hj (Nat.not_lt_zero j)⟩, fun h => h.1⟩
  | succ k ih =>
    rw [sprT, Bool.and_eq_true, Bool.and_eq_true, ih, beq_iff_eq, beq_iff_eq]
    constructor
    · rintro ⟨⟨⟨h1, h2⟩, h3⟩, h4⟩
      refine ⟨h1, fun j hj => ?_⟩
      by_cases e : j = k
      · rw [e]; exact ⟨h3, h4⟩
      · exact h2 j (by omega)
    · rintro ⟨h1, h2⟩
      exact ⟨⟨⟨h1, fun j hj => h2 j (by omega)⟩, (h2 k (by omega)).1⟩, (h2 k (by omega)).2⟩
theorem spread_spr (n : Nat) (h1 : 1 ≤ n) (l : List (Nat × Nat)) (hl : l.length = n) : spreadB n l = sprT n l n n := by
  rw [Bool.eq_iff_iff, sprT_iff]
  unfold spreadB
  rw [hl, decide_eq_true rfl, Bool.true_and, Bool.and_eq_true, all_seen n h1 l 0, all_seen n h1 l 1]
  exact ⟨fun ⟨a, b⟩ => ⟨rfl, fun j hj => ⟨a j hj, b j hj⟩⟩, fun ⟨_, h⟩ => ⟨fun j hj => (h j hj).1, fun j hj => (h j hj).2⟩⟩
theorem spr_false (n : Nat) (l : List (Nat × Nat)) (m k : Nat) (h : m ≠ n) : sprT n l m k = false := by
  cases hs : sprT n l m k with
  | false => rfl
  | true => exact absurd ((sprT_iff n l m k).1 hs).1 h
end Go.Proofs.Ytkmdbidjdppdnaa.Gv
