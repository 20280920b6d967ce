/- chapter 36, plain: what is wrong with a model. -/
import Derived.Test.YtgkncmnkbhgjmaaPt
namespace Go.Proofs.Ytgkncmnkbhgjmaa.Pure
open Go.RowKit Go.Proofs.Ytgkncmnkbhgjmaa.X Go.Proofs.YtgkncmnkbhgjmaaW.PrintWords Go.Proofs.YtgkncmnkbhgjmaaW.PrintLast
/-- the sum of a row of t, up to the place j -/
def rs (n : Nat) (t : List Int) (row : Nat) : Nat → Int
  | 0 => 0
  | j + 1 => rs n t row j + t.getD (row * n + j) 0
def Siz (e t : List Int) : Prop := 1 ≤ e.length ∧ e.length ≤ 12 ∧ t.length = e.length * e.length
def In (l : List Int) (M : Int) : Prop := ∀ i, i < l.length → 0 ≤ l.getD i 0 ∧ l.getD i 0 ≤ M
def RowsOk (n : Nat) (t : List Int) (r : Int) : Prop := ∀ row, row < n → rs n t row n ≤ r
def Good (e t : List Int) (r : Int) : Prop := In e 1024 ∧ In t 1023 ∧ 0 ≤ r ∧ r ≤ 1023 ∧ RowsOk e.length t r
def ChkP (e t : List Int) (r c : Int) : Prop := (¬ Siz e t ∧ c = 14) ∨ (Siz e t ∧ ¬ Good e t r ∧ c = 3) ∨ (Siz e t ∧ Good e t r ∧ c = 0)
theorem ChkP.tot (e t : List Int) (r : Int) : ∃ c, ChkP e t r c := by
  by_cases h : Siz e t
  · by_cases g : Good e t r
    · exact ⟨0, .inr (.inr ⟨h, g, rfl⟩)⟩
    · exact ⟨3, .inr (.inl ⟨h, g, rfl⟩)⟩
  · exact ⟨14, .inl ⟨h, rfl⟩⟩
theorem rs_bound {n : Nat} {t : List Int} {row : Nat} (hlt : row * n + n ≤ t.length) (ht : In t 1023) : ∀ j, j ≤ n → 0 ≤ rs n t row j ∧ rs n t row j ≤ (j : Int) * 1023
  | 0, _ => by simp [rs]
  | j + 1, hj => by
    obtain ⟨a, b⟩ := rs_bound hlt ht j (by omega)
    obtain ⟨c, d⟩ := ht (row * n + j) (by omega)
    rw [rs]
    omega
theorem div_is {i n row : Nat} (hn : 1 ≤ n) : i / n = row ↔ row * n ≤ i ∧ i < row * n + n := by
  have h1 := Nat.le_div_iff_mul_le (x := row) (y := i) (show 0 < n by omega)
  have h2 := Nat.div_lt_iff_lt_mul (x := i) (y := row + 1) (show 0 < n by omega)
  rw [Nat.add_mul, Nat.one_mul] at h2
  generalize row * n = m at h1 h2 ⊢
  generalize i / n = q at h1 h2 ⊢
  omega
theorem sr_rs {n : Nat} (hn : 1 ≤ n) (t : List Int) (row : Nat) : ∀ i, sr n t row i = rs n t row (min n (i - row * n))
  | 0 => by rw [Nat.zero_sub, Nat.min_zero]; rfl
  | i + 1 => by
    rw [sr, sr_rs hn t row i]
    have h := div_is (i := i) (row := row) hn
    by_cases c : i / n = row
    · rw [if_pos c]
      obtain ⟨h1, h2⟩ := h.mp c
      generalize hm : row * n = m at h1 h2 ⊢
      rw [show min n (i + 1 - m) = (i - m) + 1 by omega, show min n (i - m) = i - m by omega, rs, hm, show m + (i - m) = i by omega]
    · rw [if_neg c]
      have h3 : ¬ (row * n ≤ i ∧ i < row * n + n) := fun x => c (h.mpr x)
      generalize row * n = m at h3 ⊢
      rw [show min n (i + 1 - m) = min n (i - m) by omega]
      omega
theorem row_le {n row : Nat} (h : row < n) : row * n + n ≤ n * n := by
  have := Nat.mul_le_mul_right n (show row + 1 ≤ n from h)
  rw [Nat.add_mul, Nat.one_mul] at this
  exact this
theorem rs_mono {n : Nat} {t : List Int} {row : Nat} (hlt : row * n + n ≤ t.length) (ht : In t 1023) : ∀ d j, j + d ≤ n → rs n t row j ≤ rs n t row (j + d)
  | 0, j, _ => by simp
  | d + 1, j, h => by
    have := rs_mono hlt ht d j (by omega)
    have h2 := (ht (row * n + (j + d)) (by omega)).1
    show rs n t row j ≤ rs n t row ((j + d) + 1)
    rw [rs]
    omega
theorem sr_le {n : Nat} (hn : 1 ≤ n) {t : List Int} {r : Int} (hlt : t.length = n * n) (ht : In t 1023) (h : RowsOk n t r) (i row : Nat) (hr : row < n) : 0 ≤ sr n t row i ∧ sr n t row i ≤ r := by
  rw [sr_rs hn]
  have hl := row_le hr
  rw [← hlt] at hl
  generalize hj : min n (i - row * n) = j
  have hjn : j ≤ n := by omega
  have h1 := rs_mono hl ht (n - j) j (by omega)
  rw [show j + (n - j) = n by omega] at h1
  have h2 := h row hr
  have h3 := (rs_bound hl ht j hjn).1
  omega
/-! within -/
theorem within_loop {l : List Int} {a b : Int} (hs : l.length ≤ 1000000) (c : Bool) : ∀ d i, i + d = l.length → (c = true ↔ ∀ j, i ≤ j → j < l.length → a ≤ l.getD j 0 ∧ l.getD j 0 ≤ b) → Ev (fun k => cut_within.l0 k a b l (l.length : Int) (i : Int)) c := by
  intro d
  induction d with
  | zero =>
    intro i hi h
    have e : i = l.length := by omega
    rw [e]
    have : c = true := h.mpr fun j h1 h2 => by omega
    rw [this]
    exact Ev.step (fun _ => rfl) (neg (by omega) (Ev.now _))
  | succ d ih =>
    intro i hi h
    refine Ev.step (fun _ => rfl) (pos (by omega) (pos (by omega) (pos (by omega) ?_)))
    rw [rd_nat]
    by_cases c1 : l.getD i 0 < a
    · have : c = false := by
        cases c
        · rfl
        · have := (h.mp rfl i (by omega) (by omega)).1; omega
      rw [this]
      exact pos c1 (Ev.now _)
    · by_cases c2 : l.getD i 0 > b
      · have : c = false := by
          cases c
          · rfl
          · have := (h.mp rfl i (by omega) (by omega)).2; omega
        rw [this]
        exact neg c1 (pos c2 (Ev.now _))
      · refine neg c1 (neg c2 ?_)
        rw [suc (by omega)]
        refine ih (i + 1) (by omega) (h.trans ⟨fun x j h1 h2 => x j (by omega) h2, fun x j h1 h2 => ?_⟩)
        by_cases e : j = i
        · subst e; omega
        · exact x j (by omega) h2
theorem within_ev (l : List Int) (a b : Int) (hs : l.length ≤ 1000000) (c : Bool) (h : c = true ↔ ∀ j, j < l.length → a ≤ l.getD j 0 ∧ l.getD j 0 ≤ b) : Ev (fun k => cut_within.f k a b l) c :=
  within_loop hs c l.length 0 (by omega) (h.trans ⟨fun x j _ => x j, fun x j => x j (by omega)⟩)
theorem within_one (x a b : Int) (c : Bool) (h : c = true ↔ a ≤ x ∧ x ≤ b) : Ev (fun k => cut_within.f k a b [x]) c :=
  within_ev [x] a b (by simp) c (h.trans ⟨fun y j hj => by
    have : j = 0 := by simp at hj; exact hj
    subst this; exact y, fun y => y 0 (by simp)⟩)
/-! cut.Check -/
theorem mul_nat (i n : Nat) (h : i * n ≤ 1000) : wrap64 ((i : Int) * (n : Int)) = ((i * n : Nat) : Int) := by
  rw [← Int.natCast_mul]
  generalize i * n = m at h ⊢
  exact wfit _ (by omega) (by omega)
theorem add_nat (i n : Nat) (h : i + n ≤ 1000) : wrap64 ((i : Int) + (n : Int)) = ((i + n : Nat) : Int) := by
  rw [← Int.natCast_add]
  exact wfit _ (by omega) (by omega)
theorem mid_getD (t : List Int) (a n j : Nat) (hj : j < n) : ((t.take (a + n)).drop a).getD j 0 = t.getD (a + j) 0 := by
  simp only [List.getD_eq_getElem?_getD, List.getElem?_drop, List.getElem?_take]
  rw [if_pos (by omega)]
theorem ccheck1 {n : Nat} {t : List Int} {r c : Int} (hn : 1 ≤ n) (hn2 : n ≤ 12) (hlt : t.length = n * n) (ht : In t 1023) {i : Nat} (hi : i < n) (hk : rs n t i n ≤ r → Ev (fun k => cut_Check.l0 k t r (n : Int) (n : Int) ((i + 1 : Nat) : Int)) c) (hc : ¬ rs n t i n ≤ r → c = 3) :
    ∀ d j, j + d = n → Ev (fun k => cut_Check.l1 k t r (n : Int) (rs n t i j) (n : Int) (i : Int) ((t.take (i * n + n)).drop (i * n)) (n : Int) (j : Int)) c := by
  have hl := row_le hi
  rw [← hlt] at hl
  have hml : ((t.take (i * n + n)).drop (i * n)).length = n := by rw [List.length_drop, List.length_take]; omega
  intro d
  induction d with
  | zero =>
    intro j hj
    have e : j = n := by omega
    rw [e]
    refine Ev.step (fun _ => rfl) (neg (by omega) ?_)
    by_cases c1 : rs n t i n ≤ r
    · refine neg (by omega) ?_
      rw [suc (by omega)]
      exact hk c1
    · rw [hc c1]
      exact pos (by omega) (Ev.now _)
  | succ d ih =>
    intro j hj
    have h := ih (j + 1) (by omega)
    obtain ⟨b0, b1⟩ := rs_bound hl ht (j + 1) (by omega)
    rw [rs] at h b0 b1
    have b2 : ((j + 1 : Nat) : Int) * 1023 ≤ 13 * 1023 := by omega
    refine Ev.step (fun _ => rfl) (pos (by omega) (pos (by omega) (pos (by rw [hml]; omega) ?_)))
    rw [rd_nat, mid_getD _ _ _ _ (by omega), suc (by omega), wfit _ b0 (by omega)]
    exact h
theorem ccheck0 {n : Nat} {t : List Int} {r c : Int} (hn : 1 ≤ n) (hn2 : n ≤ 12) (hlt : t.length = n * n) (ht : In t 1023) : ∀ d i, i + d = n → ((∀ row, i ≤ row → row < n → rs n t row n ≤ r) → c = 0) → (¬ (∀ row, i ≤ row → row < n → rs n t row n ≤ r) → c = 3) → Ev (fun k => cut_Check.l0 k t r (n : Int) (n : Int) (i : Int)) c := by
  intro d
  induction d with
  | zero =>
    intro i hi h0 h3
    rw [h0 fun row h1 h2 => by omega]
    exact Ev.step (fun _ => rfl) (neg (by omega) (Ev.now _))
  | succ d ih =>
    intro i hi h0 h3
    have hl := row_le (show i < n by omega)
    have hnn : n * n ≤ 12 * 12 := Nat.mul_le_mul hn2 hn2
    have hml : ((t.take (i * n + n)).drop (i * n)).length = n := by rw [List.length_drop, List.length_take, hlt]; omega
    have key := ccheck1 (c := c) (r := r) hn hn2 hlt ht (show i < n by omega) (fun hr => ih (i + 1) (by omega) (fun x => h0 fun row h1 h2 => by
        by_cases e : row = i
        · subst e; exact hr
        · exact x row (by omega) h2) (fun x => h3 fun y => x fun row h1 h2 => y row (by omega) h2)) (fun hr => h3 fun y => hr (y i (by omega) (by omega))) n 0 (by omega)
    refine Ev.step (fun _ => rfl) (pos (by omega) ?_)
    rw [mul_nat i n (by omega), add_nat (i * n) n (by omega)]
    generalize hm : i * n = m at *
    refine pos (by omega) (pos (by omega) (pos (by rw [hlt]; omega) ?_))
    rw [Int.toNat_natCast, Int.toNat_natCast, hml]
    exact key
theorem ccheck_ev {e t : List Int} {r c : Int} (hs : e.length ≤ 1000) (hs2 : t.length ≤ 1000) (h : ChkP e t r c) : Ev (fun k => cut_Check.f k e t r) c := by
  unfold cut_Check.f
  by_cases z : Siz e t
  · have hcase : (¬ Good e t r ∧ c = 3) ∨ (Good e t r ∧ c = 0) := by
      rcases h with ⟨h, _⟩ | ⟨_, h⟩ | ⟨_, h⟩
      · exact absurd z h
      · exact .inl h
      · exact .inr h
    obtain ⟨h1, h2, h3⟩ := z
    have hnn : e.length * e.length ≤ 12 * 12 := Nat.mul_le_mul h2 h2
    refine neg (by omega) (neg (by omega) ?_)
    have en : ((t.length : Int) != wrap64 ((e.length : Int) * (e.length : Int))) = false := by
      rw [mul_nat _ _ (by omega), h3]; simp
    rw [en]
    refine Ev.step (fun _ => by rw [cut_Check.j0]) (neg (by decide) ?_)
    have bad (hb : ¬ Good e t r) : c = 3 := by
      rcases hcase with x | x
      · exact x.2
      · exact absurd x.1 hb
    by_cases we : In e 1024
    · refine Ev.bind (within_ev e 0 1024 (by omega) true ⟨fun _ => we, fun _ => rfl⟩) (pos rfl ?_)
      by_cases wt : In t 1023
      · refine Ev.bind (within_ev t 0 1023 (by omega) true ⟨fun _ => wt, fun _ => rfl⟩) (pos rfl ?_)
        by_cases wr : 0 ≤ r ∧ r ≤ 1023
        · refine Ev.bind (within_one r 0 1023 true ⟨fun _ => wr, fun _ => rfl⟩) (Ev.step (fun _ => by rw [cut_Check.j1]) (neg (by decide) ?_))
          refine ccheck0 h1 h2 h3 wt e.length 0 (by omega) (fun x => ?_) (fun x => ?_)
          · rcases hcase with y | y
            · exact absurd ⟨we, wt, wr.1, wr.2, fun row hr => x row (by omega) hr⟩ y.1
            · exact y.2
          · exact bad fun g => x fun row _ hr => g.2.2.2.2 row hr
        · rw [bad fun g => wr ⟨g.2.2.1, g.2.2.2.1⟩]
          exact Ev.bind (within_one r 0 1023 false ⟨fun x => (by cases x), fun x => absurd x wr⟩) (Ev.step (fun _ => by rw [cut_Check.j1]) (pos (by decide) (Ev.now _)))
      · rw [bad fun g => wt g.2.1]
        exact Ev.bind (within_ev t 0 1023 (by omega) false ⟨fun x => (by cases x), fun x => absurd x wt⟩) (neg (by decide) (Ev.step (fun _ => by rw [cut_Check.j1]) (pos rfl (Ev.now _))))
    · rw [bad fun g => we g.1]
      exact Ev.bind (within_ev e 0 1024 (by omega) false ⟨fun x => (by cases x), fun x => absurd x we⟩) (neg (by decide) (Ev.step (fun _ => by rw [cut_Check.j1]) (pos rfl (Ev.now _))))
  · have hc : c = 14 := by
      rcases h with ⟨_, h⟩ | ⟨h, _⟩ | ⟨h, _⟩
      · exact h
      · exact absurd h z
      · exact absurd h z
    subst hc
    have j : Ev (fun k => cut_Check.j0 k e t r (e.length : Int) true) 14 := Ev.step (fun _ => by rw [cut_Check.j0]) (pos rfl (Ev.now _))
    by_cases c1 : e.length < 1
    · exact pos (by omega) j
    · by_cases c2 : e.length > 12
      · exact neg (by omega) (pos (by omega) j)
      · refine neg (by omega) (neg (by omega) ?_)
        have hnn : e.length * e.length ≤ 12 * 12 := Nat.mul_le_mul (by omega) (by omega)
        have en : ((t.length : Int) != wrap64 ((e.length : Int) * (e.length : Int))) = true := by
          rw [mul_nat _ _ (by omega), bne_iff_ne]
          intro x
          exact z ⟨by omega, by omega, by omega⟩
        rw [en]
        exact j
end Go.Proofs.Ytgkncmnkbhgjmaa.Pure
