/- What a raster's bytes say, by the document, and digits told back: plain. -/
import Derived.Test.YtmpbjmjphapnoaaMb
namespace Go.Proofs.Ytmpbjmjphapnoaa.Gv
open Go.RowKit Go.Proofs.Ytmpbjmjphapnoaa.X Go.Proofs.YtmpbjmjphapnoaaW.PrintWords Go.Proofs.YtmpbjmjphapnoaaW.PrintLast Go.Proofs.YtmpbjmjphapnoaaW.PrintMore Pe
set_option linter.unusedVariables false
/-- is a byte a digit? -/
def isD (b : UInt8) : Prop := 48 ≤ b.toNat ∧ b.toNat ≤ 57
theorem dig_nat {d : Nat} (h : d < 10) : (dig d).toNat = 48 + d := by
  unfold dig
  rw [UInt8.toNat_ofNat']
  omega
theorem dig_isD {d : Nat} (h : d < 10) : isD (dig d) := by
  unfold isD
  rw [dig_nat h]
  omega
theorem isD_not {b : UInt8} : (b < 48 ∨ 57 < b) ↔ ¬ isD b := by
  have b1 := lt8 b 48
  have b2 := lt8 57 b
  have e48 : (48 : UInt8).toNat = 48 := rfl
  have e57 : (57 : UInt8).toNat = 57 := rfl
  rw [e48] at b1
  rw [e57] at b2
  unfold isD
  rw [b1, b2]
  omega
theorem dg_digits (n : Nat) : ∀ b ∈ dg n, isD b := by
  induction n using Nat.strongRecOn with
  | _ n ih =>
    rw [dg_step]
    split
    · intro b hb
      simp only [List.mem_singleton] at hb
      subst hb
      exact dig_isD (by omega)
    · intro b hb
      rw [List.mem_append] at hb
      rcases hb with hb | hb
      · exact ih (n / 10) (by omega) b hb
      · simp only [List.mem_singleton] at hb
        subst hb
        exact dig_isD (by omega)
/-- a number's text, read on from n -/
def val (n : Nat) (l : List UInt8) : Nat := l.foldl (fun n b => 10 * n + (b.toNat - 48)) n
theorem val_append (n : Nat) (l : List UInt8) (b : UInt8) : val n (l ++ [b]) = 10 * val n l + (b.toNat - 48) := by simp [val]
theorem val_dg (n : Nat) : val 0 (dg n) = n := by
  induction n using Nat.strongRecOn with
  | _ n ih =>
    rw [dg_step]
    split
    · rename_i c
      simp [val, dig_nat c]
    · rw [val_append, ih (n / 10) (by omega), dig_nat (by omega)]
      omega
theorem numGo_yes : ∀ (l : List UInt8) (i n : Nat), i + l.length ≤ 6 → (∀ b ∈ l, isD b) → numGo l i n = some (val n l) := by
  intro l
  induction l with
  | nil => intro i n _ _; rfl
  | cons b l ih =>
    intro i n hi hd
    have hb := hd b (List.mem_cons_self ..)
    simp only [List.length_cons] at hi
    rw [numGo, if_neg (by rintro (h | h | h); exact isD_not.mp (.inl h) hb; exact isD_not.mp (.inr h) hb; omega)]
    rw [ih (i + 1) _ (by omega) (fun b' hb' => hd b' (List.mem_cons_of_mem _ hb'))]
    rfl
theorem numGo_no : ∀ (l : List UInt8) (i n : Nat), ¬ (∀ b ∈ l, isD b) → numGo l i n = none := by
  intro l
  induction l with
  | nil => intro i n h; exact absurd (fun b hb => absurd hb (List.not_mem_nil)) h
  | cons b l ih =>
    intro i n h
    rw [numGo]
    split
    · rfl
    · rename_i c
      refine ih _ _ (fun hl => h fun b' hb' => ?_)
      rcases List.mem_cons.mp hb' with rfl | hb'
      · exact Classical.byContradiction fun q => c ((isD_not.mpr q).elim .inl (fun h => .inr (.inl h)))
      · exact hl b' hb'
theorem numGo_long : ∀ (l : List UInt8) (i n : Nat), i ≤ 6 → 6 < i + l.length → numGo l i n = none := by
  intro l
  induction l with
  | nil => intro i n h1 h2; simp at h2; omega
  | cons b l ih =>
    intro i n h1 h2
    rw [numGo]
    split
    · rfl
    · rename_i c
      have h6 : i < 6 := Nat.lt_of_not_le fun q => c (.inr (.inr q))
      simp only [List.length_cons] at h2
      exact ih _ _ (by omega) (by omega)
theorem dg_head (n : Nat) : 1 ≤ n → ∃ b t, dg n = b :: t ∧ b.toNat ≠ 48 := by
  induction n using Nat.strongRecOn with
  | _ n ih =>
    intro h
    rw [dg_step]
    split
    · rename_i c
      exact ⟨_, [], rfl, by rw [dig_nat c]; omega⟩
    · obtain ⟨b, t, e, hb⟩ := ih (n / 10) (by omega) (by omega)
      exact ⟨b, t ++ [dig (n % 10)], by rw [e]; rfl, hb⟩
theorem val_pos : ∀ (l : List UInt8) (b : UInt8), 48 < b.toNat → 1 ≤ val 0 (b :: l) := by
  have key : ∀ (l : List UInt8) (n : Nat), 1 ≤ n → 1 ≤ val n l := by
    intro l
    induction l with
    | nil => intro n h; exact h
    | cons c l ih => intro n h; exact ih (10 * n + (c.toNat - 48)) (by omega)
  intro l b hb
  exact key l (10 * 0 + (b.toNat - 48)) (by omega)
theorem dig_back {b : UInt8} (h : isD b) : dig (b.toNat - 48) = b := by
  unfold isD at h
  apply UInt8.toNat_inj.mp
  rw [dig_nat (by omega)]
  omega
theorem val_lt10 {b : UInt8} (h : isD b) : b.toNat - 48 < 10 := by unfold isD at h; omega
theorem dg_val : ∀ (m : Nat) (l : List UInt8), l.length = m + 1 → (∀ b ∈ l, isD b) → (m = 0 ∨ ∃ b t, l = b :: t ∧ b.toNat ≠ 48) → dg (val 0 l) = l := by
  intro m
  induction m with
  | zero =>
    intro l hl hd _
    match l, hl with
    | [b], _ =>
      have hb := hd b (List.mem_cons_self ..)
      have hv : val 0 [b] = b.toNat - 48 := by simp [val]
      rw [hv, dg_step, if_pos (val_lt10 hb), dig_back hb]
  | succ m ih =>
    intro l hl hd hh
    obtain ⟨l', d, rfl⟩ : ∃ l' d, l = l' ++ [d] := ⟨l.dropLast, l.getLast (by intro e; subst e; cases hl), (List.dropLast_concat_getLast (by intro e; subst e; cases hl)).symm⟩
    rw [List.length_append, List.length_singleton] at hl
    have hdd := hd d (by simp)
    have hd' : ∀ b ∈ l', isD b := fun b hb => hd b (List.mem_append_left _ hb)
    obtain ⟨b, t, e, hb⟩ : ∃ b t, l' ++ [d] = b :: t ∧ b.toNat ≠ 48 := hh.resolve_left (by omega)
    obtain ⟨t', rfl⟩ : ∃ t', l' = b :: t' := by
      cases l' with
      | nil => simp at hl
      | cons c t' => simp at e; exact ⟨t', by rw [e.1]⟩
    have h1 := val_pos t' b (by have := hd' b (List.mem_cons_self ..); unfold isD at this; omega)
    have hl10 := val_lt10 hdd
    rw [val_append, dg_step, if_neg (by omega), show (10 * val 0 (b :: t') + (d.toNat - 48)) / 10 = val 0 (b :: t') by omega, show (10 * val 0 (b :: t') + (d.toNat - 48)) % 10 = d.toNat - 48 by omega, dig_back hdd, ih (b :: t') (by omega) hd' (.inr ⟨b, t', rfl, hb⟩)]
/-- a number of at most six digits, told and read -/
theorem dg_len : ∀ (k n : Nat), n < 10 ^ (k + 1) → (dg n).length ≤ k + 1 := by
  intro k
  induction k with
  | zero =>
    intro n h
    rw [dg_step, if_pos (by simpa using h)]
    simp
  | succ k ih =>
    intro n h
    rw [dg_step]
    split
    · simp
    · have h2 : n / 10 < 10 ^ (k + 1) := by
        rw [Nat.pow_succ] at h
        exact Nat.div_lt_of_lt_mul (by rw [Nat.mul_comm]; exact h)
      have := ih (n / 10) h2
      rw [List.length_append, List.length_singleton]
      omega
theorem dg_ne (n : Nat) : dg n ≠ [] := by
  rw [dg_step]
  split
  · simp
  · simp
theorem numL_dg (n : Nat) (h : n < 1000000) : numL (dg n) = (n, true) := by
  have hl := dg_len 5 n h
  unfold numL
  rw [numGo_yes (dg n) 0 0 (by omega) (dg_digits n), val_dg]
  simp [dg_ne n]
/-- what the document says of a number's text -/
theorem numL_spec (l : List UInt8) : (numL l).2 = true ↔ (l ≠ [] ∧ l.length ≤ 6 ∧ ¬ (1 < l.length ∧ ∃ t, l = 48 :: t) ∧ ∀ b ∈ l, isD b) := by
  unfold numL
  by_cases h6 : l.length ≤ 6
  · by_cases hd : ∀ b ∈ l, isD b
    · rw [numGo_yes l 0 0 (by omega) hd]
      simp only [Bool.and_eq_true, Bool.not_eq_true', List.isEmpty_eq_false_iff, beq_iff_eq]
      constructor
      · rintro ⟨h1, h2⟩
        refine ⟨h1, h6, ?_, hd⟩
        rintro ⟨h3, t, e⟩
        by_cases hv : val 0 l = 0
        · rw [hv] at h2
          have : (dg 0).length = 1 := rfl
          rw [h2] at this
          omega
        · obtain ⟨b, t', e', hb⟩ := dg_head (val 0 l) (by omega)
          rw [h2, e] at e'
          injection e' with e1 e2
          rw [← e1] at hb
          exact hb rfl
      · rintro ⟨h1, _, h3, _⟩
        refine ⟨h1, ?_⟩
        obtain ⟨m, hm⟩ : ∃ m, l.length = m + 1 := ⟨l.length - 1, by have := List.length_pos_iff.mpr h1; omega⟩
        refine dg_val m l hm hd ?_
        by_cases hm0 : m = 0
        · exact .inl hm0
        · refine .inr ?_
          match l, h1 with
          | b :: t, _ => exact ⟨b, t, rfl, fun hb => h3 ⟨by omega, t, by rw [show b = 48 from UInt8.toNat_inj.mp hb]⟩⟩
    · rw [numGo_no l 0 0 hd]
      constructor
      · intro h; cases h
      · exact fun h => absurd h.2.2.2 hd
  · rw [numGo_long l 0 0 (by omega) (by omega)]
    constructor
    · intro h; cases h
    · exact fun h => absurd h.2.1 h6
theorem numL_val (l : List UInt8) (h : (numL l).2 = true) : (numL l).1 = val 0 l ∧ dg (numL l).1 = l := by
  obtain ⟨h1, h2, h3, h4⟩ := (numL_spec l).mp h
  revert h
  unfold numL
  rw [numGo_yes l 0 0 (by omega) h4]
  simp only [Bool.and_eq_true, Bool.not_eq_true', List.isEmpty_eq_false_iff, beq_iff_eq]
  exact fun h => ⟨trivial, h.2⟩
open Classical in
theorem rnum_go (s : ByteArray) (hs : s.size ≤ 6) : ∀ (m i n : Nat), i + m = s.size → n < 10 ^ i →
    Ev (fun k => penumbraref44_Number.l0 k s (n : Int) (i : Int)) (if (∀ b ∈ s.data.toList.drop i, isD b) then ((val n (s.data.toList.drop i) : Nat) : Int) else -1) := by
  have hz : s.data.toList.length = s.size := Array.length_toList
  intro m
  induction m with
  | zero =>
    intro i n hi hn
    rw [List.drop_eq_nil_of_le (by omega), if_pos (fun b hb => absurd hb List.not_mem_nil)]
    rw [show val n [] = n from rfl]
    clear hn
    exact Ev.step (fun k => by rw [penumbraref44_Number.l0]) (ev_neg (by omega) (Ev.now _))
  | succ m ih =>
    intro i n hi hn
    have hlt : i < s.data.toList.length := by omega
    rw [List.drop_eq_getElem_cons hlt]
    refine Ev.step (fun k => by rw [penumbraref44_Number.l0]) (ev_pos (by omega) (ev_pos (by omega) ?_))
    rw [bt_get s i hlt]
    generalize s.data.toList[i] = b at *
    by_cases c : isD b
    · have c' := c
      unfold isD at c'
      refine ev_neg (by omega) (ev_neg (by omega) ?_)
      have h10 : 10 ^ i ≤ 1000000 := Nat.pow_le_pow_right (n := 10) (by decide) (show i ≤ 6 by omega)
      have q9 : n < 1000000 := Nat.lt_of_lt_of_le hn h10
      have q8 := dig_room n b.toNat i hn c'.2
      clear h10 hn
      have e1 : wrap64 (wrap64 (wrap64 (10 * (n : Int)) + wrap64 (b.toNat : Int)) - 48) = ((10 * n + (b.toNat - 48) : Nat) : Int) := by
        rw [wrap_id (n := 10 * (n : Int)) (by omega) (by omega), wrap_id (n := (b.toNat : Int)) (by omega) (by omega), wrap_id (n := 10 * (n : Int) + (b.toNat : Int)) (by omega) (by omega), wrap_id (by omega) (by omega)]
        omega
      have e2 : wrap64 ((i : Int) + 1) = ((i + 1 : Nat) : Int) := by rw [wrap_id (by omega) (by omega)]; omega
      rw [e1, e2]
      have h := ih (i + 1) (10 * n + (b.toNat - 48)) (by omega) q8
      have ec : (∀ b' ∈ b :: s.data.toList.drop (i + 1), isD b') ↔ ∀ b' ∈ s.data.toList.drop (i + 1), isD b' := by simp [c]
      simp only [ec]
      exact h
    · rw [if_neg (fun h => c (h b (List.mem_cons_self ..)))]
      have c' : b.toNat < 48 ∨ 57 < b.toNat := by unfold isD at c; omega
      by_cases c1 : b.toNat < 48
      · exact ev_pos (by omega) (Ev.now _)
      · exact ev_neg (by omega) (ev_pos (by omega) (Ev.now _))
open Classical in
theorem rnum_ev (s : ByteArray) (hs : s.size ≤ 100000) : Ev (fun k => penumbraref44_Number.f k s) (if (numL s.data.toList).2 = true then (((numL s.data.toList).1 : Nat) : Int) else -1) := by
  have hz : s.data.toList.length = s.size := Array.length_toList
  have hT : Ev (fun k => penumbraref44_Number.j0 k s true) (-1) := Ev.step (fun k => by rw [penumbraref44_Number.j0]) (ev_pos rfl (Ev.now _))
  have hsp := numL_spec s.data.toList
  unfold penumbraref44_Number.f
  by_cases c0 : s.size = 0
  · rw [if_neg (fun h => (hsp.mp h).1 (List.eq_nil_of_length_eq_zero (by omega)))]
    exact ev_pos (by omega) hT
  · refine ev_neg (by omega) ?_
    by_cases c6 : 6 < s.size
    · rw [if_neg (fun h => by have := (hsp.mp h).2.1; omega)]
      exact ev_pos (by omega) hT
    · refine ev_neg (by omega) ?_
      have hne : s.data.toList ≠ [] := fun e => c0 (by rw [← hz, e]; rfl)
      have main : ¬ (1 < s.data.toList.length ∧ ∃ t, s.data.toList = 48 :: t) → Ev (fun k => penumbraref44_Number.j0 k s false) (if (numL s.data.toList).2 = true then (((numL s.data.toList).1 : Nat) : Int) else -1) := by
        intro hn
        refine Ev.step (fun k => by rw [penumbraref44_Number.j0]) (ev_neg (by decide) ?_)
        have h := rnum_go s (by omega) s.size 0 0 (by omega) (by decide)
        rw [List.drop_zero] at h
        by_cases hd : ∀ b ∈ s.data.toList, isD b
        · have ht : (numL s.data.toList).2 = true := hsp.mpr ⟨hne, by omega, hn, hd⟩
          rw [if_pos ht, (numL_val _ ht).1]
          rw [if_pos hd] at h
          exact h
        · rw [if_neg (fun h => hd (hsp.mp h).2.2.2)]
          rw [if_neg hd] at h
          exact h
      by_cases c1 : 1 < s.size
      · refine ev_pos (by omega) (ev_pos (by omega) ?_)
        have h0 := bt_get s 0 (by omega)
        rw [show ((0 : Nat) : Int) = 0 from rfl] at h0
        rw [h0]
        by_cases ch : s.data.toList[0]'(by omega) = 48
        · have hcons : s.data.toList = s.data.toList[0]'(by omega) :: s.data.toList.drop 1 := by have h := List.drop_eq_getElem_cons (l := s.data.toList) (i := 0) (by omega); rw [List.drop_zero] at h; exact h
          rw [ch] at hcons
          rw [ch, if_neg (fun h => (hsp.mp h).2.2.1 ⟨by omega, _, hcons⟩)]
          exact hT
        · rw [show (((s.data.toList[0]'(by omega)).toNat : Int) == 48) = false from beq_eq_false_iff_ne.mpr (fun e => ch (UInt8.toNat_inj.mp (by have e48 : (48 : UInt8).toNat = 48 := rfl; rw [e48]; omega)))]
          refine main ?_
          rintro ⟨_, t, e⟩
          exact ch (by simp [e])
      · refine ev_neg (by omega) (main (fun h => by omega))
end Go.Proofs.Ytmpbjmjphapnoaa.Gv
