import Derived.Test.YtpjfelbamcgnhaaZa
/- Determinants of small tables over whole numbers: plain. -/
namespace Go.Proofs.Ytpjfelbamcgnhaa.De
set_option linter.unusedSimpArgs false
set_option linter.unusedVariables false
/-- a sum of n numbers -/
def S : Nat → (Nat → Int) → Int
  | 0, _ => 0
  | n + 1, f => S n f + f n
theorem S_congr : ∀ {n : Nat} {f g : Nat → Int}, (∀ j, j < n → f j = g j) → S n f = S n g := by
  intro n
  induction n with
  | zero => intro f g _; rfl
  | succ n ih =>
    intro f g h
    rw [S, S, ih (fun j hj => h j (Nat.lt_succ_of_lt hj)), h n (Nat.lt_succ_self n)]
theorem S_zero : ∀ {n : Nat} {f : Nat → Int}, (∀ j, j < n → f j = 0) → S n f = 0 := by
  intro n
  induction n with
  | zero => intro f _; rfl
  | succ n ih =>
    intro f h
    rw [S, ih (fun j hj => h j (Nat.lt_succ_of_lt hj)), h n (Nat.lt_succ_self n), Int.add_zero]
theorem S_lin (s : Int) : ∀ (n : Nat) (f g : Nat → Int), S n (fun j => f j + s * g j) = S n f + s * S n g := by
  intro n
  induction n with
  | zero => intro f g; simp [S]
  | succ n ih =>
    intro f g
    rw [S, S, S, ih]
    grind
/-- the sum's first number apart -/
theorem S_first : ∀ (n : Nat) (f : Nat → Int), S (n + 1) f = f 0 + S n (fun j => f (j + 1)) := by
  intro n
  induction n with
  | zero => intro f; simp [S]
  | succ n ih =>
    intro f
    rw [S, ih, S]
    grind
/-- the sign of a place -/
def sg (j : Nat) : Int := if j % 2 = 0 then 1 else -1
/-- the places but one -/
def sk (j k : Nat) : Nat := if k < j then k else k + 1
/-- a table without its first row and a column -/
def mi (j : Nat) (M : Nat → Nat → Int) : Nat → Nat → Int := fun i k => M (i + 1) (sk j k)
/-- the determinant, by the first row -/
def det : Nat → (Nat → Nat → Int) → Int
  | 0, _ => 1
  | n + 1, M => S (n + 1) fun j => sg j * M 0 j * det n (mi j M)
/-- a row put in place -/
def up (M : Nat → Nat → Int) (r : Nat) (v : Nat → Int) : Nat → Nat → Int := fun i j => if i = r then v j else M i j
theorem sk_lt {n j k : Nat} (hj : j < n + 1) (hk : k < n) : sk j k < n + 1 := by unfold sk; split <;> omega
theorem det_congr : ∀ (n : Nat) (M N : Nat → Nat → Int), (∀ i j, i < n → j < n → M i j = N i j) → det n M = det n N := by
  intro n
  induction n with
  | zero => intro M N _; rfl
  | succ n ih =>
    intro M N h
    rw [det, det]
    refine S_congr fun j hj => ?_
    rw [h 0 j (by omega) hj, ih (mi j M) (mi j N) (fun i k hi hk => h (i + 1) (sk j k) (by omega) (sk_lt hj hk))]
theorem mi_up (j r : Nat) (M : Nat → Nat → Int) (v : Nat → Int) : mi j (up M (r + 1) v) = up (mi j M) r (fun k => v (sk j k)) := by
  funext i k
  unfold mi up
  by_cases h : i = r
  · rw [if_pos h, if_pos (by omega)]
  · rw [if_neg h, if_neg (by omega)]
theorem mi_up0 (j : Nat) (M : Nat → Nat → Int) (v : Nat → Int) : mi j (up M 0 v) = mi j M := by
  funext i k
  unfold mi up
  rw [if_neg (by omega)]
theorem det_lin (s : Int) : ∀ (n r : Nat) (M : Nat → Nat → Int) (u v : Nat → Int), r < n → det n (up M r fun j => u j + s * v j) = det n (up M r u) + s * det n (up M r v) := by
  intro n
  induction n with
  | zero => intro r M u v h; omega
  | succ n ih =>
    intro r M u v h
    rw [det, det, det, ← S_lin]
    refine S_congr fun j hj => ?_
    cases r with
    | zero =>
      rw [mi_up0, mi_up0, mi_up0]
      simp only [up, if_pos rfl]
      grind
    | succ r =>
      rw [mi_up, mi_up, mi_up, ih r (mi j M) _ _ (by omega)]
      simp only [up, if_neg (show ¬ 0 = r + 1 by omega)]
      grind
theorem mi_mi (j k : Nat) (h : k < j) (M : Nat → Nat → Int) : mi k (mi j M) = mi (j - 1) (mi k M) := by
  funext i l
  unfold mi sk
  congr 1
  repeat' split
  all_goals omega
theorem det_adj0 (M : Nat → Nat → Int) (m : Nat) (hm : m ≤ 3) (h : ∀ j, j < m + 2 → M 0 j = M 1 j) : det (m + 2) M = 0 := by
  have h0 := h 0 (by omega)
  have h1 := h 1 (by omega)
  obtain rfl | rfl | rfl | rfl : m = 0 ∨ m = 1 ∨ m = 2 ∨ m = 3 := by omega
  · simp only [det, S, sg, mi, sk] at *
    simp at *
    grind
  · have h2 := h 2 (by omega)
    have e10 := congrArg (det 1) (mi_mi 1 0 (by omega) M)
    have e20 := congrArg (det 1) (mi_mi 2 0 (by omega) M)
    have e21 := congrArg (det 1) (mi_mi 2 1 (by omega) M)
    have dd : ∀ N : Nat → Nat → Int, det 2 N = S 2 fun j => sg j * N 0 j * det 1 (mi j N) := fun _ => rfl
    have de : det (1 + 2) M = S 3 fun j => sg j * M 0 j * det 2 (mi j M) := rfl
    rw [de]
    simp only [dd, S, Nat.reduceSub] at *
    rw [e10, e20, e21]
    generalize det 1 (mi 0 (mi 0 M)) = d00 at *
    generalize det 1 (mi 1 (mi 0 M)) = d01 at *
    generalize det 1 (mi 1 (mi 1 M)) = d11 at *
    simp [mi, sk, sg]
    grind
  · have h2 := h 2 (by omega)
    have h3 := h 3 (by omega)
    have e10 := congrArg (det 2) (mi_mi 1 0 (by omega) M)
    have e20 := congrArg (det 2) (mi_mi 2 0 (by omega) M)
    have e21 := congrArg (det 2) (mi_mi 2 1 (by omega) M)
    have e30 := congrArg (det 2) (mi_mi 3 0 (by omega) M)
    have e31 := congrArg (det 2) (mi_mi 3 1 (by omega) M)
    have e32 := congrArg (det 2) (mi_mi 3 2 (by omega) M)
    have dd : ∀ N : Nat → Nat → Int, det 3 N = S 3 fun j => sg j * N 0 j * det 2 (mi j N) := fun _ => rfl
    have de : det (2 + 2) M = S 4 fun j => sg j * M 0 j * det 3 (mi j M) := rfl
    rw [de]
    simp only [dd, S, Nat.reduceSub] at *
    rw [e10, e20, e21, e30, e31, e32]
    generalize det 2 (mi 0 (mi 0 M)) = d00 at *
    generalize det 2 (mi 1 (mi 0 M)) = d01 at *
    generalize det 2 (mi 2 (mi 0 M)) = d02 at *
    generalize det 2 (mi 1 (mi 1 M)) = d11 at *
    generalize det 2 (mi 2 (mi 1 M)) = d12 at *
    generalize det 2 (mi 2 (mi 2 M)) = d22 at *
    simp [mi, sk, sg]
    grind
  · have h2 := h 2 (by omega)
    have h3 := h 3 (by omega)
    have h4 := h 4 (by omega)
    have e10 := congrArg (det 3) (mi_mi 1 0 (by omega) M)
    have e20 := congrArg (det 3) (mi_mi 2 0 (by omega) M)
    have e21 := congrArg (det 3) (mi_mi 2 1 (by omega) M)
    have e30 := congrArg (det 3) (mi_mi 3 0 (by omega) M)
    have e31 := congrArg (det 3) (mi_mi 3 1 (by omega) M)
    have e32 := congrArg (det 3) (mi_mi 3 2 (by omega) M)
    have e40 := congrArg (det 3) (mi_mi 4 0 (by omega) M)
    have e41 := congrArg (det 3) (mi_mi 4 1 (by omega) M)
    have e42 := congrArg (det 3) (mi_mi 4 2 (by omega) M)
    have e43 := congrArg (det 3) (mi_mi 4 3 (by omega) M)
    have dd : ∀ N : Nat → Nat → Int, det 4 N = S 4 fun j => sg j * N 0 j * det 3 (mi j N) := fun _ => rfl
    have de : det (3 + 2) M = S 5 fun j => sg j * M 0 j * det 4 (mi j M) := rfl
    rw [de]
    simp only [dd, S, Nat.reduceSub] at *
    rw [e10, e20, e21, e30, e31, e32, e40, e41, e42, e43]
    generalize det 3 (mi 0 (mi 0 M)) = d00 at *
    generalize det 3 (mi 1 (mi 0 M)) = d01 at *
    generalize det 3 (mi 2 (mi 0 M)) = d02 at *
    generalize det 3 (mi 3 (mi 0 M)) = d03 at *
    generalize det 3 (mi 1 (mi 1 M)) = d11 at *
    generalize det 3 (mi 2 (mi 1 M)) = d12 at *
    generalize det 3 (mi 3 (mi 1 M)) = d13 at *
    generalize det 3 (mi 2 (mi 2 M)) = d22 at *
    generalize det 3 (mi 3 (mi 2 M)) = d23 at *
    generalize det 3 (mi 3 (mi 3 M)) = d33 at *
    simp [mi, sk, sg]
    grind
theorem det_adj : ∀ (n r : Nat) (M : Nat → Nat → Int), n ≤ 5 → r + 1 < n → (∀ j, j < n → M r j = M (r + 1) j) → det n M = 0 := by
  intro n
  induction n with
  | zero => intro r M _ h _; omega
  | succ n ih =>
    intro r M h5 hr h
    cases r with
    | zero =>
      obtain ⟨m, rfl⟩ : ∃ m, n = m + 1 := ⟨n - 1, by omega⟩
      exact det_adj0 M m (by omega) h
    | succ r =>
      rw [det]
      refine S_zero fun j hj => ?_
      rw [ih r (mi j M) (by omega) (by omega) (fun k hk => h (sk j k) (sk_lt hj hk)), Int.mul_zero]
end Go.Proofs.Ytpjfelbamcgnhaa.De

/- What the steps of an elimination do to a determinant: plain. -/
namespace Go.Proofs.Ytpjfelbamcgnhaa.De
set_option linter.unusedVariables false
theorem up_id (M : Nat → Nat → Int) (r : Nat) : up M r (M r) = M := by
  funext i j
  unfold up
  split
  · rename_i h; rw [h]
  · rfl
theorem up_comm (M : Nat → Nat → Int) (r s : Nat) (u v : Nat → Int) (h : r ≠ s) : up (up M r u) s v = up (up M s v) r u := by
  funext i j
  unfold up
  repeat' split
  all_goals first | rfl | omega
theorem up_same (M : Nat → Nat → Int) (r : Nat) (u : Nat → Int) : up M r u r = u := by
  funext j
  unfold up
  rw [if_pos rfl]
theorem up_other (M : Nat → Nat → Int) (r s : Nat) (u : Nat → Int) (h : s ≠ r) : up M r u s = M s := by
  funext j
  unfold up
  rw [if_neg h]
/-- rows changed about, if equal rows make nothing -/
theorem sw_of (n r s : Nat) (M : Nat → Nat → Int) (hr : r < n) (hs : s < n) (hrs : r ≠ s) (hz : ∀ a : Nat → Int, det n (up (up M r a) s a) = 0) : det n (up (up M r (M s)) s (M r)) = - det n M := by
  have l1 : ∀ a b c : Nat → Int, det n (up (up M r (fun j => a j + 1 * b j)) s c) = det n (up (up M r a) s c) + 1 * det n (up (up M r b) s c) := by
    intro a b c
    rw [up_comm _ _ _ _ _ hrs, up_comm _ _ _ a _ hrs, up_comm _ _ _ b _ hrs]
    exact det_lin 1 n r (up M s c) a b hr
  have l2 : ∀ a b c : Nat → Int, det n (up (up M r c) s (fun j => a j + 1 * b j)) = det n (up (up M r c) s a) + 1 * det n (up (up M r c) s b) := fun a b c => det_lin 1 n s (up M r c) a b hs
  have h := hz (fun j => M r j + 1 * M s j)
  rw [l1, l2, l2, hz, hz] at h
  have e : det n (up (up M r (M r)) s (M s)) = det n M := by rw [up_id, up_id]
  rw [e] at h
  omega
theorem det_near : ∀ (d n r : Nat) (M : Nat → Nat → Int), n ≤ 5 → r + d + 1 < n → (∀ j, j < n → M r j = M (r + d + 1) j) → det n M = 0 := by
  intro d
  induction d with
  | zero => intro n r M h5 h he; exact det_adj n r M h5 h he
  | succ d ih =>
    intro n r M h5 h he
    have hsw := sw_of n (r + d + 1) (r + d + 1 + 1) M (by omega) (by omega) (by omega) (fun a => det_adj n (r + d + 1) _ h5 (by omega) (fun j _ => by rw [up_same, up_other _ _ _ _ (by omega), up_same]))
    have hz := ih n r (up (up M (r + d + 1) (M (r + d + 1 + 1))) (r + d + 1 + 1) (M (r + d + 1))) h5 (by omega) (fun j hj => by
      rw [up_other _ _ r _ (by omega), up_other _ _ r _ (by omega), up_other _ _ (r + d + 1) _ (by omega), up_same]
      exact he j hj)
    rw [hz] at hsw
    omega
theorem det_two (n r s : Nat) (M : Nat → Nat → Int) (h5 : n ≤ 5) (hr : r < n) (hs : s < n) (hrs : r ≠ s) (he : ∀ j, j < n → M r j = M s j) : det n M = 0 := by
  by_cases h : r < s
  · have e : r + (s - r - 1) + 1 = s := by omega
    exact det_near (s - r - 1) n r M h5 (by omega) (fun j hj => by rw [e]; exact he j hj)
  · have e : s + (r - s - 1) + 1 = r := by omega
    exact det_near (r - s - 1) n s M h5 (by omega) (fun j hj => by rw [e]; exact (he j hj).symm)
theorem det_swap (n r s : Nat) (M : Nat → Nat → Int) (h5 : n ≤ 5) (hr : r < n) (hs : s < n) (hrs : r ≠ s) : det n (up (up M r (M s)) s (M r)) = - det n M :=
  sw_of n r s M hr hs hrs (fun a => det_two n r s _ h5 hr hs hrs (fun j _ => by rw [up_same, up_other _ _ r _ hrs, up_same]))
theorem det_add (n c j : Nat) (x : Int) (M : Nat → Nat → Int) (h5 : n ≤ 5) (hc : c < n) (hj : j < n) (h : c ≠ j) : det n (up M j (fun k => M j k + x * M c k)) = det n M := by
  rw [det_lin x n j M (M j) (M c) hj, up_id, det_two n c j (up M j (M c)) h5 hc hj h (fun k _ => by rw [up_same, up_other _ _ c _ h]), Int.mul_zero, Int.add_zero]
theorem det_none (n c : Nat) (M : Nat → Nat → Int) (hc : c < n) : det n (up M c (fun _ => 0)) = 0 := by
  have h := det_lin 1 n c M (fun _ => 0) (fun _ => 0) hc
  simp only [Int.mul_zero, Int.add_zero] at h
  omega
theorem det_scale (n c : Nat) (s : Int) (M : Nat → Nat → Int) (hc : c < n) : det n (up M c (fun k => s * M c k)) = s * det n M := by
  have h := det_lin s n c M (fun _ => 0) (M c) hc
  simp only [Int.zero_add] at h
  rw [h, det_none n c M hc, up_id, Int.zero_add]
/-- a column of nothing -/
theorem col_zero : ∀ (n k : Nat) (M : Nat → Nat → Int), k < n → (∀ i, i < n → M i k = 0) → det n M = 0 := by
  intro n
  induction n with
  | zero => intro k M h _; omega
  | succ n ih =>
    intro k M hk h
    rw [det]
    refine S_zero fun j hj => ?_
    by_cases e : j = k
    · rw [e, h 0 (by omega), Int.mul_zero, Int.zero_mul]
    · have hk' : ∃ k', k' < n ∧ sk j k' = k := by
        by_cases g : k < j
        · exact ⟨k, by omega, by unfold sk; rw [if_pos g]⟩
        · exact ⟨k - 1, by omega, by unfold sk; rw [if_neg (by omega)]; omega⟩
      obtain ⟨k', h1, h2⟩ := hk'
      rw [ih k' (mi j M) h1 (fun i hi => by show M (i + 1) (sk j k') = 0; rw [h2]; exact h (i + 1) (by omega)), Int.mul_zero]
/-- columns that are cleared -/
theorem det_block : ∀ (c n : Nat) (M : Nat → Nat → Int), c ≤ n → (∀ j, j < c → ∀ i, i < n → M i j = if i = j then 1 else 0) → det n M = det (n - c) (fun i k => M (i + c) (k + c)) := by
  intro c
  induction c with
  | zero => intro n M _ _; rfl
  | succ c ih =>
    intro n M hc h
    obtain ⟨m, rfl⟩ : ∃ m, n = m + 1 := ⟨n - 1, by omega⟩
    have h0 : M 0 0 = 1 := by rw [h 0 (by omega) 0 (by omega), if_pos rfl]
    rw [det, S_first, S_zero (fun j hj => by
      rw [col_zero m 0 (mi (j + 1) M) (by omega) (fun i hi => by
        show M (i + 1) (sk (j + 1) 0) = 0
        rw [show sk (j + 1) 0 = 0 from by unfold sk; rw [if_pos (by omega)], h 0 (by omega) (i + 1) (by omega), if_neg (by omega)]), Int.mul_zero]), h0]
    have e := ih m (mi 0 M) (by omega) (fun j hj i hi => by
      show M (i + 1) (sk 0 j) = _
      rw [show sk 0 j = j + 1 from by unfold sk; rw [if_neg (by omega)], h (j + 1) (by omega) (i + 1) (by omega)]
      by_cases q : i = j
      · rw [if_pos q, if_pos (by omega)]
      · rw [if_neg q, if_neg (by omega)])
    rw [e, show m + 1 - (c + 1) = m - c by omega]
    have e2 : (fun i k => mi 0 M (i + c) (k + c)) = fun i k => M (i + (c + 1)) (k + (c + 1)) := by
      funext i k
      unfold mi sk
      rw [if_neg (by omega)]
      congr 1
    rw [e2, show sg 0 = 1 from rfl]
    omega
theorem det_one (n : Nat) (M : Nat → Nat → Int) (h : ∀ j, j < n → ∀ i, i < n → M i j = if i = j then 1 else 0) : det n M = 1 := by
  rw [det_block n n M (Nat.le_refl _) h, Nat.sub_self]
  rfl
theorem det_lost (n c : Nat) (M : Nat → Nat → Int) (hc : c < n) (h : ∀ j, j < c → ∀ i, i < n → M i j = if i = j then 1 else 0) (hz : ∀ i, c ≤ i → i < n → M i c = 0) : det n M = 0 := by
  rw [det_block c n M (by omega) h]
  exact col_zero (n - c) 0 _ (by omega) (fun i hi => by rw [Nat.zero_add]; exact hz (i + c) (by omega) (by omega))
/-- the same rests -/
theorem S_mod (p : Int) : ∀ (n : Nat) (f g : Nat → Int), (∀ j, j < n → p ∣ f j - g j) → p ∣ S n f - S n g := by
  intro n
  induction n with
  | zero => intro f g _; exact ⟨0, by simp [S]⟩
  | succ n ih =>
    intro f g h
    obtain ⟨a, ha⟩ := ih f g (fun j hj => h j (Nat.lt_succ_of_lt hj))
    obtain ⟨b, hb⟩ := h n (Nat.lt_succ_self n)
    exact ⟨a + b, by rw [S, S]; grind⟩
theorem det_mod (p : Int) : ∀ (n : Nat) (M N : Nat → Nat → Int), (∀ i j, i < n → j < n → p ∣ M i j - N i j) → p ∣ det n M - det n N := by
  intro n
  induction n with
  | zero => intro M N _; exact ⟨0, by simp [det]⟩
  | succ n ih =>
    intro M N h
    rw [det, det]
    refine S_mod p _ _ _ fun j hj => ?_
    obtain ⟨a, ha⟩ := h 0 j (by omega) hj
    obtain ⟨b, hb⟩ := ih (mi j M) (mi j N) (fun i k hi hk => h (i + 1) (sk j k) (by omega) (sk_lt hj hk))
    exact ⟨sg j * (a * det n (mi j M) + N 0 j * b), by grind⟩
end Go.Proofs.Ytpjfelbamcgnhaa.De

/- An elimination, step by step, modulo the prime: plain. -/
namespace Go.Proofs.Ytpjfelbamcgnhaa.De
open Go.Proofs.Ytpjfelbamcgnhaa.Pl
set_option linter.unusedVariables false
/-- the same rest modulo the prime -/
def Cq (a b : Int) : Prop := (2147483647 : Int) ∣ a - b
theorem Cq.refl (a : Int) : Cq a a := ⟨0, by omega⟩
theorem Cq.of {a b : Int} (h : a = b) : Cq a b := h ▸ Cq.refl a
theorem Cq.symm {a b : Int} (h : Cq a b) : Cq b a := by obtain ⟨k, hk⟩ := h; exact ⟨-k, by omega⟩
theorem Cq.trans {a b c : Int} (h : Cq a b) (k : Cq b c) : Cq a c := by obtain ⟨x, hx⟩ := h; obtain ⟨y, hy⟩ := k; exact ⟨x + y, by omega⟩
theorem Cq.add {a b c d : Int} (h : Cq a b) (k : Cq c d) : Cq (a + c) (b + d) := by obtain ⟨x, hx⟩ := h; obtain ⟨y, hy⟩ := k; exact ⟨x + y, by omega⟩
theorem Cq.sub {a b c d : Int} (h : Cq a b) (k : Cq c d) : Cq (a - c) (b - d) := by obtain ⟨x, hx⟩ := h; obtain ⟨y, hy⟩ := k; exact ⟨x - y, by omega⟩
theorem Cq.mul {a b c d : Int} (h : Cq a b) (k : Cq c d) : Cq (a * c) (b * d) := by obtain ⟨x, hx⟩ := h; obtain ⟨y, hy⟩ := k; exact ⟨x * c + b * y, by grind⟩
theorem Cq.o (a : Int) : Cq (Pl.of a) a := ⟨-(a / 2147483647), by unfold Pl.of; omega⟩
theorem Cq.eq {a b : Int} (h : Cq a b) (ha : 0 ≤ a ∧ a < 2147483647) (hb : 0 ≤ b ∧ b < 2147483647) : a = b := by obtain ⟨k, hk⟩ := h; omega
theorem Cq.zero {a : Int} (h : Cq a 0) (ha : 0 ≤ a ∧ a < 2147483647) : a = 0 := h.eq ha (by omega)
theorem Cq.of_eq {a b : Int} (h : Cq a b) : Pl.of a = Pl.of b := by obtain ⟨k, hk⟩ := h; unfold Pl.of; omega
theorem S_cq {n : Nat} {f g : Nat → Int} (h : ∀ j, j < n → Cq (f j) (g j)) : Cq (S n f) (S n g) := S_mod _ n f g h
theorem det_cq {n : Nat} {M N : Nat → Nat → Int} (h : ∀ i j, i < n → j < n → Cq (M i j) (N i j)) : Cq (det n M) (det n N) := det_mod _ n M N h
/-- what a row lacks to be right -/
def rsd (n : Nat) (M : Nat → Nat → Int) (x : Nat → Int) (r : Nat) : Int := S n (fun j => M r j * x j) - M r n
theorem rsd_cq {n : Nat} {M N : Nat → Nat → Int} (x : Nat → Int) (r s : Nat) (h : ∀ j, j ≤ n → Cq (M r j) (N s j)) : Cq (rsd n M x r) (rsd n N x s) :=
  Cq.sub (S_cq fun j hj => Cq.mul (h j (by omega)) (Cq.refl _)) (h n (Nat.le_refl n))
/-- a row changed about with another -/
def swp (M : Nat → Nat → Int) (c a : Nat) : Nat → Nat → Int := up (up M a (M c)) c (M a)
/-- a column cleared -/
def clr (M : Nat → Nat → Int) (c : Nat) (i : Int) : Nat → Nat → Int := fun j k => if j = c then Pl.of (M c k * i) else Pl.of (M j k - Pl.of (M j c * Pl.of (M c k * i)))
/-- the rows so far, without rests -/
def cl (M : Nat → Nat → Int) (c : Nat) (i : Int) (m : Nat) : Nat → Nat → Int := fun j k => if j = c then i * M c k else if j < m then M j k + (-(M j c)) * (i * M c k) else M j k
theorem det_cl (n c : Nat) (M : Nat → Nat → Int) (i : Int) (h5 : n ≤ 5) (hc : c < n) : ∀ m, m ≤ n → det n (cl M c i m) = i * det n M := by
  intro m
  induction m with
  | zero =>
    intro _
    rw [← det_scale n c i M hc]
    congr 1
  | succ m ih =>
    intro hm
    rw [← ih (by omega)]
    by_cases e : m = c
    · congr 1
      funext j k
      unfold cl
      by_cases h : j = c
      · rw [if_pos h, if_pos h]
      · rw [if_neg h, if_neg h]
        by_cases g : j < m
        · rw [if_pos g, if_pos (by omega)]
        · rw [if_neg g, if_neg (by omega)]
    · rw [← det_add n c m (-(M m c)) (cl M c i m) h5 hc (by omega) (fun h => e h.symm)]
      congr 1
      funext j k
      unfold cl up
      dsimp only
      by_cases h : j = m
      · subst h
        rw [if_neg e, if_pos (by omega), if_pos rfl, if_neg e, if_neg (by omega), if_pos rfl]
      · rw [if_neg h]
        by_cases h2 : j = c
        · rw [if_pos h2, if_pos h2]
        · rw [if_neg h2, if_neg h2]
          by_cases g : j < m
          · rw [if_pos g, if_pos (by omega)]
          · rw [if_neg g, if_neg (by omega)]
theorem clr_cl (n c : Nat) (M : Nat → Nat → Int) (i : Int) (j k : Nat) (hj : j < n) : Cq (clr M c i j k) (cl M c i n j k) := by
  unfold clr cl
  by_cases h : j = c
  · rw [if_pos h, if_pos h]
    exact (Cq.o _).trans (Cq.of (Int.mul_comm _ _))
  · rw [if_neg h, if_neg h, if_pos hj]
    refine (Cq.o _).trans ?_
    have h1 : Cq (Pl.of (M j c * Pl.of (M c k * i))) (M j c * (i * M c k)) := (Cq.o _).trans (Cq.mul (Cq.refl _) ((Cq.o _).trans (Cq.of (Int.mul_comm _ _))))
    exact (Cq.sub (Cq.refl _) h1).trans (Cq.of (by grind))
theorem det_clr (n c : Nat) (M : Nat → Nat → Int) (i p : Int) (h5 : n ≤ 5) (hc : c < n) (hi : Cq (p * i) 1) : Cq (p * det n (clr M c i)) (det n M) := by
  have h1 : Cq (det n (clr M c i)) (i * det n M) := (det_cq fun a b ha _ => clr_cl n c M i a b ha).trans (Cq.of (det_cl n c M i h5 hc n (Nat.le_refl n)))
  refine (Cq.mul (Cq.refl p) h1).trans ?_
  rw [← Int.mul_assoc]
  exact (Cq.mul hi (Cq.refl _)).trans (Cq.of (Int.one_mul _))
theorem rsd_clr_c (n c : Nat) (M : Nat → Nat → Int) (i : Int) (x : Nat → Int) : Cq (rsd n (clr M c i) x c) (i * rsd n M x c) := by
  have h : Cq (rsd n (clr M c i) x c) (rsd n (fun _ k => 0 + i * M c k) x c) := rsd_cq x c c fun j _ => by
    show Cq (clr M c i c j) (0 + i * M c j)
    unfold clr
    rw [if_pos rfl]
    exact (Cq.o _).trans (Cq.of (by grind))
  refine h.trans (Cq.of ?_)
  unfold rsd
  have e : S n (fun j => (0 + i * M c j) * x j) = S n (fun j => 0 + i * (M c j * x j)) := S_congr fun j _ => by grind
  rw [e, S_lin i n (fun _ => 0), S_zero (fun _ _ => rfl)]
  grind
theorem rsd_clr_j (n c j : Nat) (M : Nat → Nat → Int) (i : Int) (x : Nat → Int) (h : j ≠ c) : Cq (rsd n (clr M c i) x j) (rsd n M x j - M j c * rsd n (clr M c i) x c) := by
  have h1 : Cq (rsd n (clr M c i) x j) (rsd n (fun _ k => M j k + (-(M j c)) * clr M c i c k) x j) := rsd_cq x j j fun k _ => by
    show Cq (clr M c i j k) (M j k + (-(M j c)) * clr M c i c k)
    unfold clr
    rw [if_neg h, if_pos rfl]
    refine (Cq.o _).trans ?_
    exact (Cq.sub (Cq.refl _) (Cq.o _)).trans (Cq.of (by grind))
  refine h1.trans (Cq.of ?_)
  unfold rsd
  have e : S n (fun k => (M j k + (-(M j c)) * clr M c i c k) * x k) = S n (fun k => M j k * x k + (-(M j c)) * (clr M c i c k * x k)) := S_congr fun k _ => by grind
  rw [e, S_lin (-(M j c)) n]
  grind
/-- every row is right -/
def Rt (n : Nat) (M : Nat → Nat → Int) (x : Nat → Int) : Prop := ∀ r, r < n → Cq (rsd n M x r) 0
theorem rt_clr (n c : Nat) (M : Nat → Nat → Int) (i p : Int) (x : Nat → Int) (hc : c < n) (hi : Cq (p * i) 1) : Rt n (clr M c i) x ↔ Rt n M x := by
  constructor
  · intro h r hr
    have hcz : Cq (rsd n M x c) 0 := by
      have h1 := (rsd_clr_c n c M i x).symm.trans (h c hc)
      have h2 := Cq.mul (Cq.refl p) h1
      rw [← Int.mul_assoc, Int.mul_zero] at h2
      exact ((Cq.of (Int.one_mul _).symm).trans (Cq.mul hi.symm (Cq.refl _))).trans h2
    by_cases e : r = c
    · rw [e]; exact hcz
    · have h1 := (rsd_clr_j n c r M i x e).symm.trans (h r hr)
      have h2 := Cq.mul (Cq.refl (M r c)) (h c hc)
      have h3 := Cq.add h1 h2
      exact (Cq.of (by grind)).trans (h3.trans (Cq.of (by grind)))
  · intro h r hr
    have hcz : Cq (rsd n (clr M c i) x c) 0 := (rsd_clr_c n c M i x).trans ((Cq.mul (Cq.refl i) (h c hc)).trans (Cq.of (Int.mul_zero _)))
    by_cases e : r = c
    · rw [e]; exact hcz
    · refine (rsd_clr_j n c r M i x e).trans ((Cq.sub (h r hr) (Cq.mul (Cq.refl (M r c)) hcz)).trans (Cq.of (by grind)))
theorem swp_c (M : Nat → Nat → Int) (c a : Nat) : swp M c a c = M a := up_same _ _ _
theorem swp_a (M : Nat → Nat → Int) (c a : Nat) (h : a ≠ c) : swp M c a a = M c := by unfold swp; rw [up_other _ _ _ _ h, up_same]
theorem swp_o (M : Nat → Nat → Int) (c a r : Nat) (h : r ≠ c) (h2 : r ≠ a) : swp M c a r = M r := by unfold swp; rw [up_other _ _ _ _ h, up_other _ _ _ _ h2]
theorem rsd_row (n : Nat) (M N : Nat → Nat → Int) (x : Nat → Int) (r s : Nat) (h : M r = N s) : rsd n M x r = rsd n N x s := by unfold rsd; rw [h]
theorem rt_swp (n c a : Nat) (M : Nat → Nat → Int) (x : Nat → Int) (hc : c < n) (ha : a < n) : Rt n (swp M c a) x ↔ Rt n M x := by
  by_cases e : a = c
  · have h : swp M c a = M := by unfold swp; rw [e, up_id, up_id]
    rw [h]
  · constructor
    · intro h r hr
      by_cases e1 : r = a
      · rw [e1, ← rsd_row n (swp M c a) M x c a (swp_c M c a)]; exact h c hc
      · by_cases e2 : r = c
        · rw [e2, ← rsd_row n (swp M c a) M x a c (swp_a M c a e)]; exact h a ha
        · rw [← rsd_row n (swp M c a) M x r r (swp_o M c a r e2 e1)]; exact h r hr
    · intro h r hr
      by_cases e1 : r = a
      · rw [e1, rsd_row n (swp M c a) M x a c (swp_a M c a e)]; exact h c hc
      · by_cases e2 : r = c
        · rw [e2, rsd_row n (swp M c a) M x c a (swp_c M c a)]; exact h a ha
        · rw [rsd_row n (swp M c a) M x r r (swp_o M c a r e2 e1)]; exact h r hr
theorem det_swp (n c a : Nat) (M : Nat → Nat → Int) (h5 : n ≤ 5) (hc : c < n) (ha : a < n) (h : a ≠ c) : det n (swp M c a) = - det n M := det_swap n a c M h5 ha hc h
end Go.Proofs.Ytpjfelbamcgnhaa.De

/- A table eliminated, and what it says: plain. -/
namespace Go.Proofs.Ytpjfelbamcgnhaa.De
open Go.Proofs.Ytpjfelbamcgnhaa.Pl
set_option linter.unusedVariables false
set_option linter.unusedSimpArgs false
/-- the first row from i on, of m rows, whose number in a column is not 0 -/
def fnd (M : Nat → Nat → Int) (c : Nat) : Nat → Nat → Option Nat
  | 0, _ => none
  | m + 1, i => if M i c = 0 then fnd M c m (i + 1) else some i
/-- the elimination: m columns are left -/
def elim (inv : Int → Int) (n : Nat) : Nat → Nat → (Nat → Nat → Int) → Int → Option ((Nat → Nat → Int) × Int)
  | 0, _, M, d => some (M, d)
  | m + 1, c, M, d =>
    match fnd M c (n - c) c with
    | none => none
    | some a => elim inv n m (c + 1) (clr (swp M c a) c (inv (swp M c a c c))) (Pl.of ((if a = c then d else Pl.of (0 - d)) * swp M c a c c))
theorem fnd_some {M : Nat → Nat → Int} {c : Nat} : ∀ {m i a : Nat}, fnd M c m i = some a → i ≤ a ∧ a < i + m ∧ M a c ≠ 0 := by
  intro m
  induction m with
  | zero => intro i a h; cases h
  | succ m ih =>
    intro i a h
    rw [fnd] at h
    split at h
    · obtain ⟨h1, h2, h3⟩ := ih h
      exact ⟨by omega, by omega, h3⟩
    · rename_i hz
      injection h with h
      subst h
      exact ⟨Nat.le_refl _, by omega, hz⟩
theorem fnd_none {M : Nat → Nat → Int} {c : Nat} : ∀ {m i : Nat}, fnd M c m i = none → ∀ r, i ≤ r → r < i + m → M r c = 0 := by
  intro m
  induction m with
  | zero => intro i _ r h1 h2; omega
  | succ m ih =>
    intro i h r h1 h2
    rw [fnd] at h
    split at h
    · rename_i hz
      by_cases e : r = i
      · rw [e]; exact hz
      · exact ih h r (by omega) (by omega)
    · cases h
/-- all numbers are rests -/
def In (n : Nat) (M : Nat → Nat → Int) : Prop := ∀ i k, i < n → k ≤ n → 0 ≤ M i k ∧ M i k < 2147483647
/-- the first c columns are cleared -/
def Cl (n c : Nat) (M : Nat → Nat → Int) : Prop := ∀ j, j < c → ∀ i, i < n → M i j = if i = j then 1 else 0
theorem in_swp {n c a : Nat} {M : Nat → Nat → Int} (h : In n M) (hc : c < n) (ha : a < n) : In n (swp M c a) := by
  intro i k hi hk
  by_cases e2 : i = c
  · rw [e2, swp_c]; exact h a k ha hk
  · by_cases e1 : i = a
    · rw [e1, swp_a M c a (by omega)]; exact h c k hc hk
    · rw [swp_o M c a i e2 e1]; exact h i k hi hk
theorem cl_swp {n c a : Nat} {M : Nat → Nat → Int} (h : Cl n c M) (hc : c < n) (ha : a < n) (hca : c ≤ a) : Cl n c (swp M c a) := by
  intro j hj i hi
  by_cases e2 : i = c
  · rw [e2, swp_c, h j hj a ha, if_neg (by omega), if_neg (by omega)]
  · by_cases e1 : i = a
    · rw [e1, swp_a M c a (by omega), h j hj c hc, if_neg (by omega), if_neg (by omega)]
    · rw [swp_o M c a i e2 e1]; exact h j hj i hi
theorem in_clr {n c : Nat} (M : Nat → Nat → Int) (i : Int) : In n (clr M c i) := by
  intro j k _ _
  unfold clr
  split
  · exact ⟨Pl.of_nonneg _, Pl.of_lt _⟩
  · exact ⟨Pl.of_nonneg _, Pl.of_lt _⟩
theorem of_small {a : Int} (h : 0 ≤ a ∧ a < 2147483647) : Pl.of a = a := Cq.eq (Cq.o a) ⟨Pl.of_nonneg _, Pl.of_lt _⟩ h
theorem cl_clr {n c : Nat} {M : Nat → Nat → Int} {i : Int} (h : Cl n c M) (hin : In n M) (hc : c < n) (hi : Cq (M c c * i) 1) : Cl n (c + 1) (clr M c i) := by
  have one : Pl.of (M c c * i) = 1 := Cq.eq ((Cq.o _).trans hi) ⟨Pl.of_nonneg _, Pl.of_lt _⟩ (by decide)
  intro j hj r hr
  unfold clr
  by_cases hjc : j = c
  · subst hjc
    by_cases e : r = j
    · rw [if_pos e, if_pos e, one]
    · rw [if_neg e, if_neg e, one, Int.mul_one, of_small (hin r j hr (by omega)), Int.sub_self]
      rfl
  · have hcj : M c j = 0 := by rw [h j (by omega) c hc, if_neg (by omega)]
    have z : Pl.of (M c j * i) = 0 := by rw [hcj, Int.zero_mul]; rfl
    by_cases e : r = c
    · rw [if_pos e, z, if_neg (by omega)]
    · rw [if_neg e, z, Int.mul_zero, show Pl.of 0 = 0 from rfl, Int.sub_zero, h j (by omega) r hr]
      split <;> rfl
/-- what an elimination leaves -/
structure Done (n : Nat) (M F : Nat → Nat → Int) (d e : Int) : Prop where
  inn : In n F
  rng : 0 ≤ e ∧ e < 2147483647
  rt : ∀ x, Rt n F x ↔ Rt n M x
  one : ∀ i j, i < n → j < n → F i j = if i = j then 1 else 0
  det : n ≤ 5 → Cq (d * De.det n M) e
  ne : ¬ Cq d 0 → ¬ Cq e 0
theorem elim_law (inv : Int → Int) (hinv : ∀ p, 0 < p → p < 2147483647 → Cq (p * inv p) 1) (n : Nat) : ∀ (m c : Nat) (M : Nat → Nat → Int) (d : Int), c + m = n → Cl n c M → In n M → 0 ≤ d ∧ d < 2147483647 →
    (elim inv n m c M d = none → n ≤ 5 → Cq (det n M) 0) ∧ ∀ F e, elim inv n m c M d = some (F, e) → Done n M F d e := by
  intro m
  induction m with
  | zero =>
    intro c M d hc hcl hin hd
    obtain rfl : c = n := by omega
    refine ⟨fun h => (by cases h), fun F e h => ?_⟩
    injection h with h
    injection h with h1 h2
    subst h1 h2
    refine ⟨hin, hd, fun _ => Iff.rfl, fun i j hi hj => hcl j hj i hi, fun _ => ?_, fun h => h⟩
    rw [det_one c M hcl, Int.mul_one]
    exact Cq.refl _
  | succ m ih =>
    intro c M d hc hcl hin hd
    rw [elim]
    cases hf : fnd M c (n - c) c with
    | none =>
      refine ⟨fun _ h5 => ?_, fun F e h => (by cases h)⟩
      rw [det_lost n c M (by omega) hcl (fun i h1 h2 => fnd_none hf i h1 (by omega))]
      exact Cq.refl _
    | some a =>
      obtain ⟨ha1, ha2, ha3⟩ := fnd_some hf
      have hcn : c < n := by omega
      have han : a < n := by omega
      have hin' := in_swp hin hcn han
      have hcl' := cl_swp hcl hcn han ha1
      have hp : swp M c a c c = M a c := by rw [swp_c]
      have hp0 := hin a c han (by omega)
      have hi := hinv (swp M c a c c) (by rw [hp]; omega) (by rw [hp]; omega)
      have hd1 : 0 ≤ (if a = c then d else Pl.of (0 - d)) ∧ (if a = c then d else Pl.of (0 - d)) < 2147483647 := by
        split
        · exact hd
        · exact ⟨Pl.of_nonneg _, Pl.of_lt _⟩
      obtain ⟨g1, g2⟩ := ih (c + 1) (clr (swp M c a) c (inv (swp M c a c c))) (Pl.of ((if a = c then d else Pl.of (0 - d)) * swp M c a c c)) (by omega) (cl_clr hcl' hin' hcn hi) (in_clr _ _) ⟨Pl.of_nonneg _, Pl.of_lt _⟩
      have hdet : n ≤ 5 → Cq (swp M c a c c * det n (clr (swp M c a) c (inv (swp M c a c c)))) (det n (swp M c a)) := fun h5 => det_clr n c (swp M c a) _ _ h5 hcn hi
      refine ⟨fun h h5 => ?_, fun F e h => ?_⟩
      · have h1 := (hdet h5).symm.trans ((Cq.mul (Cq.refl (swp M c a c c)) (g1 h h5)).trans (Cq.of (Int.mul_zero _)))
        by_cases e : a = c
        · rw [show swp M c a = M from by unfold swp; rw [e, up_id, up_id]] at h1
          exact h1
        · rw [det_swp n c a M h5 hcn han e] at h1
          obtain ⟨k, hk⟩ := h1
          exact ⟨-k, by omega⟩
      · obtain ⟨q1, q2, q3, q4, q5, q6⟩ := g2 F e h
        refine ⟨q1, q2, fun x => (q3 x).trans ((rt_clr n c _ _ _ x hcn hi).trans (rt_swp n c a M x hcn han)), q4, fun h5 => ?_, fun hd0 => q6 (fun hz => hd0 ?_)⟩
        · refine Cq.trans ?_ (q5 h5)
          have h1 := Cq.mul (Cq.refl (if a = c then d else Pl.of (0 - d))) (hdet h5)
          rw [← Int.mul_assoc] at h1
          refine Cq.trans (Cq.trans ?_ h1.symm) (Cq.mul (Cq.o _).symm (Cq.refl _))
          by_cases e : a = c
          · rw [if_pos e, show swp M c a = M from by unfold swp; rw [e, up_id, up_id]]
            exact Cq.refl _
          · rw [if_neg e, det_swp n c a M h5 hcn han e]
            exact (Cq.of (by grind)).trans (Cq.mul (Cq.o (0 - d)).symm (Cq.refl (- det n M)))
        · have h1 := (Cq.o _).symm.trans hz
          have h2 := Cq.mul h1 (Cq.refl (inv (swp M c a c c)))
          rw [Int.zero_mul, Int.mul_assoc] at h2
          have h3 := ((Cq.mul (Cq.refl (if a = c then d else Pl.of (0 - d))) hi).symm).trans h2
          rw [Int.mul_one] at h3
          by_cases e : a = c
          · rw [if_pos e] at h3
            exact h3
          · rw [if_neg e] at h3
            obtain ⟨k, hk⟩ := (Cq.o (0 - d)).symm.trans h3
            exact ⟨-k, by omega⟩
/-- the list that is told -/
theorem done_rt {n : Nat} {M F : Nat → Nat → Int} {d e : Int} (h : Done n M F d e) (y : Nat → Int) : Rt n M y ↔ ∀ i, i < n → Cq (y i) (F i n) := by
  have key : ∀ i, i < n → rsd n F y i = y i - F i n := by
    intro i hi
    unfold rsd
    have e1 : ∀ m, m ≤ n → S m (fun j => F i j * y j) = if i < m then y i else 0 := by
      intro m
      induction m with
      | zero => intro _; rfl
      | succ m ih =>
        intro hm
        rw [S, ih (by omega), h.one i m hi (by omega)]
        by_cases e : i = m
        · rw [if_pos e, if_neg (by omega), if_pos (by omega), e]
          omega
        · rw [if_neg e]
          by_cases g : i < m
          · rw [if_pos g, if_pos (by omega)]
            omega
          · rw [if_neg g, if_neg (by omega)]
            omega
    rw [e1 n (Nat.le_refl n), if_pos hi]
  rw [← h.rt y]
  constructor
  · intro hr i hi
    obtain ⟨k, hk⟩ := hr i hi
    rw [key i hi] at hk
    exact ⟨k, by omega⟩
  · intro hr i hi
    rw [key i hi]
    obtain ⟨k, hk⟩ := hr i hi
    exact ⟨k, by omega⟩
/-- a table with a list for a column -/
def prt (A : Nat → Nat → Int) (b : Nat → Int) (c : Nat) : Nat → Nat → Int := fun i j => if j = c then b i else A i j
set_option maxHeartbeats 4000000 in
theorem cramer (n c : Nat) (A : Nat → Nat → Int) (x : Nat → Int) (h1 : 1 ≤ n) (h4 : n ≤ 4) (hc : c < n) : det n (prt A (fun r => S n (fun j => A r j * x j)) c) = x c * det n A := by
  obtain rfl | rfl | rfl | rfl : n = 1 ∨ n = 2 ∨ n = 3 ∨ n = 4 := by omega
  · obtain rfl : c = 0 := by omega
    simp [det, S, mi, sk, sg, prt]
    grind
  · obtain rfl | rfl : c = 0 ∨ c = 1 := by omega
    all_goals
      simp [det, S, mi, sk, sg, prt]
      grind
  · obtain rfl | rfl | rfl : c = 0 ∨ c = 1 ∨ c = 2 := by omega
    all_goals
      simp [det, S, mi, sk, sg, prt]
      grind
  · obtain rfl | rfl | rfl | rfl : c = 0 ∨ c = 1 ∨ c = 2 ∨ c = 3 := by omega
    all_goals
      simp [det, S, mi, sk, sg, prt]
      grind
end Go.Proofs.Ytpjfelbamcgnhaa.De
