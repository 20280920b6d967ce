/- What ppm.check, ppm.digits and ppm.number reckon. -/
import Derived.Test.YtmpbjmjphapnoaaMa
import Derived.Test.YtmpbjmjphapnoaaXxI44
import Derived.Lib.Walk
import Derived.Lib.Strings
namespace Go.Proofs.Ytmpbjmjphapnoaa.Gv
open Go.RowKit Go.Proofs.Ytmpbjmjphapnoaa.X Go.Proofs.YtmpbjmjphapnoaaW.PrintWords Go.Proofs.YtmpbjmjphapnoaaW.PrintLast Go.Proofs.YtmpbjmjphapnoaaW.PrintMore Pe
set_option linter.unusedVariables false
theorem mul_range {a b : Int} (h1 : 1 ≤ a) (h2 : a ≤ 8192) (h3 : 1 ≤ b) (h4 : b ≤ 8192) : 1 ≤ a * b ∧ a * b ≤ 67108864 := by
  have h := Int.mul_le_mul h2 h4 (by omega) (by omega)
  have h' := Int.mul_le_mul h1 h3 (by omega) (by omega)
  exact ⟨by simpa using h', by simpa using h⟩
theorem mn_one (a b : Int) : mn a b < 1 ↔ a < 1 ∨ b < 1 := by unfold mn; split <;> omega
theorem mx_big (a b : Int) : mx a b > 8192 ↔ 8192 < a ∨ 8192 < b := by unfold mx; split <;> omega
theorem chk_ev (a b n : Int) : Ev (fun k => ppm_check.f k a b n) (chk a b n) := by
  have hT : Ev (fun k => ppm_check.j0 k a b n true) 12 := Ev.step (fun k => by rw [ppm_check.j0]) (ev_pos rfl (Ev.now _))
  unfold ppm_check.f chk
  by_cases c1 : a < 1 ∨ b < 1
  · rw [if_pos (show a < 1 ∨ b < 1 ∨ 8192 < a ∨ 8192 < b by omega)]
    exact ev_pos ((mn_one a b).mpr c1) hT
  · refine ev_neg (fun h => c1 ((mn_one a b).mp h)) ?_
    by_cases c2 : 8192 < a ∨ 8192 < b
    · rw [if_pos (show a < 1 ∨ b < 1 ∨ 8192 < a ∨ 8192 < b by omega), show decide (mx a b > 8192) = true from decide_eq_true ((mx_big a b).mpr c2)]
      exact hT
    · rw [if_neg (show ¬ (a < 1 ∨ b < 1 ∨ 8192 < a ∨ 8192 < b) by omega), show decide (mx a b > 8192) = false from decide_eq_false (fun h => c2 ((mx_big a b).mp h))]
      refine Ev.step (fun k => by rw [ppm_check.j0]) (ev_neg (by decide) ?_)
      obtain ⟨m1, m2⟩ := mul_range (a := a) (b := b) (by omega) (by omega) (by omega) (by omega)
      have e3 : 3 * a * b = 3 * (a * b) := Int.mul_assoc _ _ _
      rw [wrap_id (n := a * b) (by omega) (by omega), wrap_id (n := 3 * a) (by omega) (by omega), wrap_id (n := 3 * a * b) (by omega) (by omega)]
      by_cases c3 : 65536 < a * b
      · simp only [gt_iff_lt, if_pos c3]
        exact Ev.now _
      · simp only [gt_iff_lt, if_neg c3]
        by_cases c4 : n = 3 * a * b
        · simp only [if_pos c4]
          exact Ev.now _
        · simp only [if_neg c4]
          exact Ev.now _
theorem chk_any (a b n : Int) (w : World) : Calls Try.prog 17 #[.int .i64 a, .int .i64 b, .int .i64 n] w fun e w' => e = .returned (.int .i64 (chk a b n)) ∧ Below w.heap.size w w' := by
  obtain ⟨K, hK⟩ := chk_ev a b n
  exact ppm_check.calls K a b n _ w (hK K (Nat.le_refl _))
theorem dgF_more : ∀ (k n : Nat), n ≤ k → dgF (k + 1) n = dgF k n := by
  intro k
  induction k with
  | zero =>
    intro n hn
    obtain rfl : n = 0 := by omega
    rfl
  | succ k ih =>
    intro n hn
    have e1 : dgF (k + 1 + 1) n = if n < 10 then [dig n] else dgF (k + 1) (n / 10) ++ [dig (n % 10)] := rfl
    have e2 : dgF (k + 1) n = if n < 10 then [dig n] else dgF k (n / 10) ++ [dig (n % 10)] := rfl
    rw [e1, e2]
    by_cases c : n < 10
    · rw [if_pos c, if_pos c]
    · rw [if_neg c, if_neg c, ih (n / 10) (by omega)]
theorem dgF_eq (n : Nat) : ∀ j, dgF (n + j) n = dg n := by
  intro j
  induction j with
  | zero => rfl
  | succ j ih => rw [← Nat.add_assoc, dgF_more _ _ (by omega), ih]
theorem dg_step (n : Nat) : dg n = if n < 10 then [dig n] else dg (n / 10) ++ [dig (n % 10)] := by
  by_cases c : n < 10
  · rw [if_pos c]
    unfold dg
    match n with
    | 0 => rfl
    | m + 1 => rw [dgF, if_pos c]
  · rw [if_neg c]
    obtain ⟨m, rfl⟩ : ∃ m, n = m + 1 := ⟨n - 1, by omega⟩
    unfold dg
    rw [dgF, if_neg c]
    have e := dgF_eq ((m + 1) / 10) (m - (m + 1) / 10)
    rw [show (m + 1) / 10 + (m - (m + 1) / 10) = m by omega] at e
    rw [e]
    rfl
theorem dg_length (n : Nat) : (dg n).length ≤ n + 1 := by
  induction n using Nat.strongRecOn with
  | _ n ih =>
    rw [dg_step]
    split
    · simp
    · have h := ih (n / 10) (by omega)
      simp only [List.length_append, List.length_cons, List.length_nil]
      omega
theorem B_data (l : List UInt8) : (B l).data.toList = l := by simp [B]
theorem B_size (l : List UInt8) : (B l).size = l.length := by simp [B, ByteArray.size]
theorem B_append (a b : List UInt8) : B a ++ B b = B (a ++ b) := by
  apply ByteArray.ext
  simp [B, ByteArray.data_append]
theorem of_B (s : ByteArray) : B s.data.toList = s := by cases s; simp [B]
theorem B_toList (l : List UInt8) : (B l).toList = l := by rw [Lib.toList_data, B_data]
theorem lit_ex : ∀ n : Nat, n < 10 → (⟨#[48, 49, 50, 51, 52, 53, 54, 55, 56, 57]⟩ : ByteArray).extract n (n + 1) = B [dig n] := by
  intro n hn
  obtain rfl | rfl | rfl | rfl | rfl | rfl | rfl | rfl | rfl | rfl : n = 0 ∨ n = 1 ∨ n = 2 ∨ n = 3 ∨ n = 4 ∨ n = 5 ∨ n = 6 ∨ n = 7 ∨ n = 8 ∨ n = 9 := by omega
  all_goals rfl
theorem lit_ex' (n : Nat) (hn : n < 10) : (⟨#[48, 49, 50, 51, 52, 53, 54, 55, 56, 57]⟩ : ByteArray).extract (n : Int).toNat (wrap64 ((n : Int) + 1)).toNat = B [dig n] := by
  rw [wrap_id (by omega) (by omega), show ((n : Int) + 1).toNat = n + 1 by omega, Int.toNat_natCast, lit_ex n hn]
theorem div_nat (n : Nat) : Int.tdiv (n : Int) 10 = ((n / 10 : Nat) : Int) := (Int.ofNat_tdiv n 10).symm
theorem mod_nat (n : Nat) : Int.tmod (n : Int) 10 = ((n % 10 : Nat) : Int) := (Int.ofNat_tmod n 10).symm
theorem digits_ev (n : Nat) (hn : n ≤ 1000000000000) : Ev (fun k => ppm_digits.f k (n : Int)) (B (dg n)) := by
  induction n using Nat.strongRecOn with
  | _ n ih =>
    refine Ev.step (fun k => by rw [ppm_digits.f]) ?_
    rw [dg_step]
    by_cases c : n < 10
    · rw [if_pos c]
      refine ev_pos (by omega) (ev_pos (by omega) (ev_pos (by rw [wrap_id (by omega) (by omega)]; omega) (ev_pos (by rw [wrap_id (by omega) (by omega)]; omega) ?_)))
      rw [lit_ex' n c]
      exact Ev.now _
    · rw [if_neg c]
      refine ev_neg (by omega) ?_
      rw [div_nat, mod_nat, wrap_id (n := ((n / 10 : Nat) : Int)) (by omega) (by omega), lit_ex' (n % 10) (by omega)]
      refine Ev.bind (ih (n / 10) (by omega) (by omega)) ?_
      refine ev_pos (by omega) (ev_pos (by rw [wrap_id (by omega) (by omega)]; omega) (ev_pos (by rw [wrap_id (by omega) (by omega)]; omega) (ev_pos ?_ ?_)))
      · rw [B_size, B_size]
        have := dg_length (n / 10)
        simp only [List.length_cons, List.length_nil]
        omega
      · rw [B_append]
        exact Ev.now _
theorem rdigits_ev (n : Nat) (hn : n ≤ 1000000000000) : Ev (fun k => penumbraref23_Digits.f k (n : Int)) (B (dg n)) := by
  induction n using Nat.strongRecOn with
  | _ n ih =>
    refine Ev.step (fun k => by rw [penumbraref23_Digits.f]) ?_
    rw [dg_step]
    by_cases c : n < 10
    · rw [if_pos c]
      refine ev_pos (by omega) (ev_pos (by omega) (ev_pos (by rw [wrap_id (by omega) (by omega)]; omega) (ev_pos (by rw [wrap_id (by omega) (by omega)]; omega) ?_)))
      rw [lit_ex' n c]
      exact Ev.now _
    · rw [if_neg c]
      refine ev_neg (by omega) ?_
      rw [div_nat, mod_nat, wrap_id (n := ((n / 10 : Nat) : Int)) (by omega) (by omega)]
      refine Ev.bind (ih (n / 10) (by omega) (by omega)) ?_
      have h2 := ih (n % 10) (by omega) (by omega)
      rw [dg_step (n % 10), if_pos (by omega)] at h2
      refine Ev.bind h2 (ev_pos ?_ ?_)
      · rw [B_size, B_size]
        have := dg_length (n / 10)
        simp only [List.length_cons, List.length_nil]
        omega
      · rw [B_append]
        exact Ev.now _
theorem digits_any (n : Nat) (hn : n ≤ 1000000000000) (w : World) : Calls Try.prog 18 #[.int .i64 (n : Int)] w fun e w' => e = .returned (.string (B (dg n))) ∧ Below w.heap.size w w' := by
  obtain ⟨K, hK⟩ := digits_ev n hn
  exact ppm_digits.calls K n _ w (hK K (Nat.le_refl _))
theorem bt_get (s : ByteArray) (i : Nat) (h : i < s.data.toList.length) : bt s (i : Int) = (s.data.toList[i].toNat : Int) := by
  have h' : i < s.size := by rw [Array.length_toList] at h; exact h
  rw [← bt_at s (i : Int) (by simpa using h')]
  rfl
theorem lt8 (a b : UInt8) : a < b ↔ a.toNat < b.toNat := UInt8.lt_iff_toNat_lt
theorem dig_room (n b i : Nat) (hn : n < 10 ^ i) (hb : b ≤ 57) : 10 * n + (b - 48) < 10 ^ (i + 1) := by
  rw [Nat.pow_succ]
  generalize 10 ^ i = p at *
  omega
theorem num_go (s : ByteArray) (hs : s.size ≤ 100000) : ∀ (m i n : Nat), i + m = s.size → i ≤ 6 → n < 10 ^ i →
    Ev (fun k => ppm_number.l0 k s (n : Int) (s.size : Int) (i : Int)) (match numGo (s.data.toList.drop i) i n with | none => (0, false) | some v => ((v : Int), !s.data.toList.isEmpty && dg v == s.data.toList)) := by
  have hz : s.data.toList.length = s.size := Array.length_toList
  intro m
  induction m with
  | zero =>
    intro i n hi h6 hn
    rw [List.drop_eq_nil_of_le (by omega)]
    simp only [numGo]
    refine Ev.step (fun k => by rw [ppm_number.l0]) (ev_neg (by omega) ?_)
    rw [Lib.toList_data]
    by_cases c : s.data.toList = []
    · rw [c]
      exact ev_pos rfl (Ev.now _)
    · refine ev_neg c ?_
      have h10 : 10 ^ i ≤ 1000000 := Nat.pow_le_pow_right (n := 10) (by decide) h6
      have q9 : n < 1000000 := Nat.lt_of_lt_of_le hn h10
      clear h10 hn h6
      refine Ev.bind (digits_ev n (by omega)) ?_
      have e : s.data.toList.isEmpty = false := by simpa using c
      rw [B_toList, e]
      exact Ev.now _
  | succ m ih =>
    intro i n hi h6 hn
    have hlt : i < s.data.toList.length := by omega
    rw [List.drop_eq_getElem_cons hlt]
    refine Ev.step (fun k => by rw [ppm_number.l0]) (ev_pos (by omega) (ev_pos (by omega) (ev_pos (by omega) ?_)))
    rw [bt_get s i hlt, numGo]
    generalize s.data.toList[i] = b at *
    have b1 := lt8 b 48
    have b2 := lt8 57 b
    have e48 : (48 : UInt8).toNat = 48 := rfl
    have e57 : (57 : UInt8).toNat = 57 := rfl
    rw [e48] at b1
    rw [e57] at b2
    by_cases c1 : b.toNat < 48
    · rw [if_pos (.inl (b1.mpr c1))]
      exact ev_pos (by omega) (Ev.now _)
    · refine ev_neg (by omega) ?_
      by_cases c2 : 57 < b.toNat
      · rw [if_pos (.inr (.inl (b2.mpr c2)))]
        exact ev_pos (by omega) (Ev.now _)
      · refine ev_neg (by omega) ?_
        by_cases c3 : 6 ≤ i
        · rw [if_pos (.inr (.inr c3))]
          exact ev_pos (by omega) (Ev.now _)
        · rw [if_neg (by rintro (h | h | h); exact c1 (b1.mp h); exact c2 (b2.mp h); exact c3 h)]
          refine ev_neg (by omega) ?_
          have q6 : i + 1 ≤ 6 := Nat.lt_of_not_le c3
          have q7 : i + 1 + m = s.size := by rw [← hi]; exact Nat.add_right_comm i 1 m
          have q8 := dig_room n b.toNat i hn (Nat.le_of_not_lt c2)
          have h10 : 10 ^ i ≤ 1000000 := Nat.pow_le_pow_right (n := 10) (by decide) h6
          have q9 : n < 1000000 := Nat.lt_of_lt_of_le hn h10
          clear h10 hn h6
          have e1 : wrap64 (wrap64 (10 * (n : Int)) + ((b.toNat : Int) - 48) % 256) = ((10 * n + (b.toNat - 48) : Nat) : Int) := by
            rw [wrap_id (n := 10 * (n : Int)) (by omega) (by omega), wrap_id (by omega) (by omega)]
            omega
          have e2 : wrap64 ((i : Int) + 1) = ((i + 1 : Nat) : Int) := by rw [wrap_id (by omega) (by omega)]; omega
          rw [e1, e2]
          exact ih (i + 1) (10 * n + (b.toNat - 48)) q7 q6 q8
theorem num_ev (s : ByteArray) (hs : s.size ≤ 100000) : Ev (fun k => ppm_number.f k s) (((numL s.data.toList).1 : Int), (numL s.data.toList).2) := by
  have h := num_go s hs s.size 0 0 (by omega) (by omega) (by omega)
  unfold ppm_number.f numL
  rw [List.drop_zero] at h
  cases hg : numGo s.data.toList 0 0 with
  | none => rw [hg] at h; exact h
  | some v => rw [hg] at h; exact h
theorem number_any (s : ByteArray) (hs : s.size ≤ 100000) (w : World) : Calls Try.prog 22 #[.string s] w fun e w' => e = .returned (.tuple #[.int .i64 ((numL s.data.toList).1 : Int), .bool (numL s.data.toList).2]) ∧ Below w.heap.size w w' := by
  obtain ⟨K, hK⟩ := num_ev s hs
  exact ppm_number.calls K s _ _ w (hK K (Nat.le_refl _))
end Go.Proofs.Ytmpbjmjphapnoaa.Gv
