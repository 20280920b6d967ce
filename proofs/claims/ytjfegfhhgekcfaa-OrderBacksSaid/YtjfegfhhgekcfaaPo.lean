/- Lists that have each number once: plain. -/
import Derived.Test.YtjfegfhhgekcfaaWMore
namespace Go.Proofs.Ytjfegfhhgekcfaa.Pure
open Go.RowKit Go.Proofs.YtjfegfhhgekcfaaW.PrintWords Go.Proofs.YtjfegfhhgekcfaaW.PrintLast
theorem rd_nat (l : List Int) (i : Nat) : rd l (i : Int) = l.getD i 0 := by simp [rd]
def sN (f : Nat → Nat) : Nat → Nat
  | 0 => 0
  | k + 1 => sN f k + f k
theorem sN_add (f g : Nat → Nat) : ∀ N, sN (fun m => f m + g m) N = sN f N + sN g N
  | 0 => rfl
  | N + 1 => by simp only [sN]; rw [sN_add f g N]; omega
theorem sN_one (v : Int) : ∀ N : Nat, sN (fun m => if v = (m : Int) then 1 else 0) N = if 0 ≤ v ∧ v < N then 1 else 0
  | 0 => by simp only [sN]; rw [if_neg (by omega)]
  | N + 1 => by
    simp only [sN]
    rw [sN_one v N]
    by_cases c : v = (N : Int)
    · rw [if_pos c, if_neg (by omega), if_pos (by omega)]
    · rw [if_neg c]
      by_cases d : 0 ≤ v ∧ v < N
      · rw [if_pos d, if_pos (by omega)]
      · rw [if_neg d, if_neg (by omega)]
theorem sN_le (f : Nat → Nat) : ∀ N, (∀ m, m < N → f m ≤ 1) → sN f N ≤ N
  | 0, _ => by simp [sN]
  | N + 1, h => by
    have h1 := sN_le f N (fun m hm => h m (by omega))
    have h2 := h N (by omega)
    simp only [sN]
    omega
theorem sN_full (f : Nat → Nat) : ∀ N, (∀ m, m < N → f m ≤ 1) → sN f N = N → ∀ m, m < N → f m = 1
  | 0, _, _, m, hm => by omega
  | N + 1, h, e, m, hm => by
    have h1 := sN_le f N (fun m hm => h m (by omega))
    have h2 := h N (by omega)
    simp only [sN] at e
    by_cases c : m = N
    · subst c; omega
    · exact sN_full f N (fun m hm => h m (by omega)) (by omega) m (by omega)
theorem sN_ones (f : Nat → Nat) : ∀ N, (∀ m, m < N → f m = 1) → sN f N = N
  | 0, _ => rfl
  | N + 1, h => by
    simp only [sN]
    rw [sN_ones f N (fun m hm => h m (by omega)), h N (by omega)]
/-- how often m stands among the first i -/
def cI (l : List Int) (m : Int) : Nat → Nat
  | 0 => 0
  | i + 1 => cI l m i + (if l.getD i 0 = m then 1 else 0)
theorem cI_sum (l : List Int) (N : Nat) : ∀ i, sN (fun m => cI l (m : Int) i) N = sN (fun j => if 0 ≤ l.getD j 0 ∧ l.getD j 0 < N then 1 else 0) i
  | 0 => by
    simp only [cI, sN]
    induction N with
    | zero => rfl
    | succ N ih => simp only [sN]; omega
  | i + 1 => by
    simp only [cI]
    rw [sN_add, cI_sum l N i, sN_one]
    rfl
theorem cI_mem (l : List Int) (m : Int) : ∀ i, 1 ≤ cI l m i → ∃ j, j < i ∧ l.getD j 0 = m
  | 0, h => by simp [cI] at h
  | i + 1, h => by
    simp only [cI] at h
    by_cases c : l.getD i 0 = m
    · exact ⟨i, by omega, c⟩
    · rw [if_neg c] at h
      obtain ⟨j, hj, e⟩ := cI_mem l m i (by omega)
      exact ⟨j, by omega, e⟩
theorem cI_mono (l : List Int) (m : Int) (i : Nat) : ∀ d, cI l m i ≤ cI l m (i + d)
  | 0 => Nat.le_refl _
  | d + 1 => by
    have := cI_mono l m i d
    rw [← Nat.add_assoc]
    simp only [cI]
    omega
theorem cI_has (l : List Int) (m : Int) {j i : Nat} (h : j < i) (e : l.getD j 0 = m) : cI l m j + 1 ≤ cI l m i := by
  have h1 : cI l m (j + 1) = cI l m j + 1 := by simp only [cI]; rw [if_pos e]
  have h2 := cI_mono l m (j + 1) (i - (j + 1))
  rw [show j + 1 + (i - (j + 1)) = i from by omega] at h2
  omega
def rng (l : List Int) : Prop := ∀ j, j < l.length → 0 ≤ l.getD j 0 ∧ l.getD j 0 < (l.length : Int)
def dis (l : List Int) (i : Nat) : Prop := ∀ a b, a < b → b < i → l.getD a 0 ≠ l.getD b 0
def good (l : List Int) : Prop := rng l ∧ dis l l.length
def rightP (l : List Int) : Prop := ∀ m : Nat, m < l.length → cI l (m : Int) l.length = 1
theorem cI_le (l : List Int) (m : Int) : ∀ i, dis l i → cI l m i ≤ 1
  | 0, _ => by simp [cI]
  | i + 1, h => by
    have ih := cI_le l m i (fun a b h1 h2 => h a b h1 (by omega))
    simp only [cI]
    by_cases c : l.getD i 0 = m
    · rw [if_pos c]
      by_cases z : cI l m i = 0
      · omega
      · obtain ⟨j, hj, e⟩ := cI_mem l m i (by omega)
        exact absurd (e.trans c.symm) (h j i hj (by omega))
    · rw [if_neg c]; omega
theorem right_of_good {l : List Int} (h : good l) : rightP l := by
  have h1 := cI_sum l l.length l.length
  rw [sN_ones _ l.length (fun j hj => if_pos (h.1 j hj))] at h1
  exact sN_full _ _ (fun m _ => cI_le l m l.length h.2) h1
theorem good_of_right {l : List Int} (h : rightP l) : good l := by
  have h1 := cI_sum l l.length l.length
  rw [sN_ones _ l.length h] at h1
  have h2 := sN_full (fun j => if 0 ≤ l.getD j 0 ∧ l.getD j 0 < (l.length : Int) then 1 else 0) l.length (fun m _ => by split <;> omega) h1.symm
  have h3 : rng l := fun j hj => by
    have := h2 j hj
    by_cases c : 0 ≤ l.getD j 0 ∧ l.getD j 0 < (l.length : Int)
    · exact c
    · rw [if_neg c] at this; omega
  refine ⟨h3, fun a b hab hb e => ?_⟩
  obtain ⟨r0, r1⟩ := h3 a (by omega)
  obtain ⟨m, hm⟩ := Int.eq_ofNat_of_zero_le r0
  have e1 := cI_has l (m : Int) hab hm
  have e2 := cI_has l (m : Int) hb (e.symm.trans hm)
  have e3 := h m (by omega)
  omega
theorem good_has {l : List Int} (h : good l) {m : Nat} (hm : m < l.length) : ∃ j, j < l.length ∧ l.getD j 0 = (m : Int) :=
  cI_mem l m l.length (by rw [right_of_good h m hm]; omega)
theorem good_inj {l : List Int} (h : good l) {i j : Nat} (hi : i < l.length) (hj : j < l.length) (e : l.getD i 0 = l.getD j 0) : i = j := by
  by_cases c : i < j
  · exact absurd e (h.2 i j c hj)
  · by_cases d : j < i
    · exact absurd e.symm (h.2 j i d hi)
    · omega
/-- x tells where each number of l stands -/
def inv (l x : List Int) : Prop := x.length = l.length ∧ ∀ j, j < l.length → x.getD (l.getD j 0).toNat 0 = (j : Int)
theorem inv_at {l x : List Int} (h : good l) (hx : inv l x) {m : Nat} (hm : m < l.length) : ∃ j, j < l.length ∧ l.getD j 0 = (m : Int) ∧ x.getD m 0 = (j : Int) := by
  obtain ⟨j, hj, e⟩ := good_has h hm
  refine ⟨j, hj, e, ?_⟩
  have := hx.2 j hj
  rw [e, Int.toNat_natCast] at this
  exact this
theorem inv_good {l x : List Int} (h : good l) (hx : inv l x) : good x := by
  refine ⟨fun m hm => ?_, fun a b hab hb e => ?_⟩
  · obtain ⟨j, hj, _, e⟩ := inv_at h hx (m := m) (by rw [← hx.1]; exact hm)
    rw [e, hx.1]
    omega
  · rw [hx.1] at hb
    obtain ⟨i, hi, e1, e2⟩ := inv_at h hx (m := a) (by omega)
    obtain ⟨j, hj, e3, e4⟩ := inv_at h hx (m := b) hb
    rw [e2, e4] at e
    have : i = j := by omega
    subst this
    omega
end Go.Proofs.Ytjfegfhhgekcfaa.Pure
