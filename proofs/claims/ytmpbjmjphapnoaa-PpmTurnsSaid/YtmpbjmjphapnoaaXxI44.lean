-- written by xprint.py (a program of this session, over the kit's print)
import Derived.Test.YtmpbjmjphapnoaaXx0
namespace Go.Proofs.Ytmpbjmjphapnoaa.X
open Go.RowKit Go.Proofs.YtmpbjmjphapnoaaW.PrintWords Go.Proofs.YtmpbjmjphapnoaaW.PrintLast Go.Proofs.YtmpbjmjphapnoaaW.PrintMore
attribute [local go_sem] max2_int min2_int max_two min_two max_three min_three max_four min_four   -- for this text's walks alone
set_option linter.unusedVariables false
set_option linter.unusedSimpArgs false

/-! ### ppm_check: function 17 -/
def ppm_check.j0 : Nat → Int → Int → Int → Bool → Option (Int)
  | 0, _, _, _, _ => none
  | k + 1, x0, x1, x2, x7 => if x7 = true then (some 12) else (if (wrap64 (x0 * x1)) > 65536 then (some 4) else (if x2 = (wrap64 ((wrap64 (3 * x0)) * x1)) then (some 0) else (some 14)))
def ppm_check.f (k : Nat) (a0 : Int) (a1 : Int) (a2 : Int) : Option (Int) := if (mn a0 a1) < 1 then (ppm_check.j0 k a0 a1 a2 true) else (ppm_check.j0 k a0 a1 a2 (decide ((mx a0 a1) > 8192)))
theorem ppm_check.mono_l : ∀ k, (∀ y0 y1 y2 y3, LeO (ppm_check.j0 k y0 y1 y2 y3) (ppm_check.j0 (k + 1) y0 y1 y2 y3))
  | 0 => fun _ _ _ _ r h => by simp [ppm_check.j0] at h
  | k + 1 => by
    have ih0 := ppm_check.mono_l k
    · intro y0 y1 y2 y3
      unfold ppm_check.j0
      repeat' first
      | (with_reducible exact ih0 _ _ _ _)
      | (with_reducible exact LeO.refl _)
      | (with_reducible exact LeO.none _)
      | (with_reducible refine LeO.ite ?_ ?_)
      | (with_reducible refine LeO.bind ?_ (fun _ => ?_))
      | exact ih0 _ _ _ _
      | exact LeO.none _
      | refine LeO.ite ?_ ?_
      | refine LeO.bind ?_ (fun _ => ?_)
theorem ppm_check.mono : ∀ a0 a1 a2 k, LeO (ppm_check.f k a0 a1 a2) (ppm_check.f (k + 1) a0 a1 a2) := by
  intro a0 a1 a2 k
  have ih0 := ppm_check.mono_l k
  unfold ppm_check.f
  repeat' first
      | (with_reducible exact ih0 _ _ _ _)
      | (with_reducible exact LeO.refl _)
      | (with_reducible exact LeO.none _)
      | (with_reducible refine LeO.ite ?_ ?_)
      | (with_reducible refine LeO.bind ?_ (fun _ => ?_))
      | exact ih0 _ _ _ _
      | exact LeO.none _
      | refine LeO.ite ?_ ?_
      | refine LeO.bind ?_ (fun _ => ?_)
set_option maxHeartbeats 8000000 in
set_option maxRecDepth 100000 in
theorem ppm_check.calls (k : Nat) (a0 : Int) (a1 : Int) (a2 : Int) (r : Int) (w : World) (h : ppm_check.f k a0 a1 a2 = some r) :
    Calls Try.prog 17 #[.int .i64 a0, .int .i64 a1, .int .i64 a2] w fun e w' => e = .returned (.int .i64 r) ∧ Below w.heap.size w w' := by
  have HB := Aside0.mk (Below.refl w.heap.size w)
  have H : (if (mn a0 a1) < 1 then (ppm_check.j0 k a0 a1 a2 true) else (ppm_check.j0 k a0 a1 a2 (decide ((mx a0 a1) > 8192)))) = some r := h
  clear h
  have HC4 := Aside0.mk H
  clear H
  go_enter Try.func17, Try.ntmps17
  go_upto_region 1 with (fail)
  go_cut [7] (fun v7 wc => ∃ (kq : Nat) (x7_3 : Bool), v7 = .bool x7_3 ∧ Aside0 (ppm_check.j0 kq a0 a1 a2 x7_3 = some r) ∧ Aside0 (kq ≤ k) ∧ Aside0 (Below w.heap.size w wc))
  case first =>
    have H := HC4.out
    clear HC4
    obtain ⟨ji5, hji5⟩ : ∃ j_ : Int, (mn a0 a1) = j_ := ⟨_, rfl⟩
    replace H : (if (ji5) < 1 then (ppm_check.j0 k a0 a1 a2 true) else (ppm_check.j0 k a0 a1 a2 (decide ((mx a0 a1) > 8192)))) = some r := by first | (rw [hji5] at H; exact H) | (simp only [hji5] at H ⊢; exact H)
    have hji5_ : (if a1 < a0 then a1 else a0) = ji5 := hji5
    by_cases c6 : (ji5) < 1
    · rw [if_pos c6] at H
      have c6b0 : decide ((ji5) < 1) = true := decide_eq_true c6
      clear c6
      (first | rw [c6b0] | (simp only [i64_w, i32_w]; rw [c6b0]) | skip)
      have H' := Aside0.mk H
      clear H
      go_wp2
      go_meet
      case rel => exact ⟨_, (true), (by first | rfl | (simp; done) | (simp [*]; done)), H', ⟨by first | omega | exact Nat.le_refl _⟩, ⟨by repeat (first | (with_reducible first | exact HB.out | apply below_alloc | apply pw_below_drewN | apply below_drew1) | exact HB.out)⟩⟩
    · rw [if_neg c6] at H
      have c6b0 : decide ((ji5) < 1) = false := decide_eq_false c6
      clear c6
      (first | rw [c6b0] | (simp only [i64_w, i32_w]; rw [c6b0]) | skip)
      obtain ⟨ji7, hji7⟩ : ∃ j_ : Int, (mx a0 a1) = j_ := ⟨_, rfl⟩
      replace H : (ppm_check.j0 k a0 a1 a2 (decide ((ji7) > 8192))) = some r := by first | (rw [hji7] at H; exact H) | (simp only [hji7] at H ⊢; exact H)
      have hji7_ : (if a0 < a1 then a1 else a0) = ji7 := hji7
      have H' := Aside0.mk H
      clear H
      go_wp2
      go_meet
      case rel => exact ⟨_, (decide ((ji7) > 8192)), (by first | rfl | (simp; done) | (simp only [← hji7] <;> (first | rfl | simp)) | (simp [*]; done)), H', ⟨by first | omega | exact Nat.le_refl _⟩, ⟨by repeat (first | (with_reducible first | exact HB.out | apply below_alloc | apply pw_below_drewN | apply below_drew1) | exact HB.out)⟩⟩
  case rest =>
    clear HC4
    try clear c1
    try clear p2
    try clear c6
    try clear c6b0
    obtain ⟨kq, x7_3, rfl, HA, HJ3, HB⟩ := hcut
    cases kq with
    | zero => exact absurd HA.out (by simp [ppm_check.j0])
    | succ kj3 =>
      have H := HA.out
      clear HA
      simp only [ppm_check.j0] at H
      by_cases c8 : x7_3 = true
      · subst c8
        have H1 : (some 12) = some r := by rw [if_pos rfl] at H; exact H
        clear H
        have H := H1
        clear H1
        obtain rfl := Option.some.inj H
        go_wp2
        go_ret
        exact ⟨by first | rfl | (simp [errW_none, errW_some] <;> rfl) | (simp [*, errW_none, errW_some] <;> rfl), by repeat (first | (with_reducible first | exact HB.out | apply below_alloc | apply pw_below_drewN | apply below_drew1) | exact HB.out)⟩
      · replace c8 := Bool.eq_false_iff.mpr c8
        subst c8
        have H1 : (if (wrap64 (a0 * a1)) > 65536 then (some 4) else (if a2 = (wrap64 ((wrap64 (3 * a0)) * a1)) then (some 0) else (some 14))) = some r := by rw [if_neg (show ¬ (false = true) by decide)] at H; exact H
        clear H
        have H := H1
        clear H1
        by_cases c9 : (wrap64 (a0 * a1)) > 65536
        · rw [if_pos c9] at H
          have c9b0 : decide (65536 < (wrap64 (a0 * a1))) = true := decide_eq_true c9
          clear c9
          obtain rfl := Option.some.inj H
          go_wp2
          go_ret
          exact ⟨by first | rfl | (simp [errW_none, errW_some] <;> rfl) | (simp [*, errW_none, errW_some] <;> rfl), by repeat (first | (with_reducible first | exact HB.out | apply below_alloc | apply pw_below_drewN | apply below_drew1) | exact HB.out)⟩
        · rw [if_neg c9] at H
          have c9b0 : decide (65536 < (wrap64 (a0 * a1))) = false := decide_eq_false c9
          clear c9
          by_cases c10 : a2 = (wrap64 ((wrap64 (3 * a0)) * a1))
          · rw [if_pos c10] at H
            have c10b0 : (a2 == (wrap64 ((wrap64 (3 * a0)) * a1))) = true := beq_iff_eq.mpr c10
            have c10b1 : (a2 != (wrap64 ((wrap64 (3 * a0)) * a1))) = false := bne_eq_false_iff_eq.mpr c10
            clear c10
            obtain rfl := Option.some.inj H
            go_wp2
            go_ret
            exact ⟨by first | rfl | (simp [errW_none, errW_some] <;> rfl) | (simp [*, errW_none, errW_some] <;> rfl), by repeat (first | (with_reducible first | exact HB.out | apply below_alloc | apply pw_below_drewN | apply below_drew1) | exact HB.out)⟩
          · rw [if_neg c10] at H
            have c10b0 : (a2 == (wrap64 ((wrap64 (3 * a0)) * a1))) = false := beq_eq_false_iff_ne.mpr c10
            have c10b1 : (a2 != (wrap64 ((wrap64 (3 * a0)) * a1))) = true := bne_iff_ne.mpr c10
            obtain rfl := Option.some.inj H
            go_wp2
            go_ret
            exact ⟨by first | rfl | (simp [errW_none, errW_some] <;> rfl) | (simp [*, errW_none, errW_some] <;> rfl), by repeat (first | (with_reducible first | exact HB.out | apply below_alloc | apply pw_below_drewN | apply below_drew1) | exact HB.out)⟩

/-! ### ppm_digits: function 18 -/
def ppm_digits.f : Nat → Int → Option (ByteArray)
  | 0, _ => none
  | k + 1, a0 => if a0 < 10 then (if 0 ≤ a0 then (if a0 ≤ (wrap64 (a0 + 1)) then (if (wrap64 (a0 + 1)) ≤ 10 then (some ((⟨#[48, 49, 50, 51, 52, 53, 54, 55, 56, 57]⟩ : ByteArray).extract (a0 : Int).toNat ((wrap64 (a0 + 1)) : Int).toNat)) else (none)) else (none)) else (none)) else ((ppm_digits.f k (wrap64 (Int.tdiv a0 10))).bind fun t101 => (if 0 ≤ (Int.tmod a0 10) then (if (Int.tmod a0 10) ≤ (wrap64 ((Int.tmod a0 10) + 1)) then (if (wrap64 ((Int.tmod a0 10) + 1)) ≤ 10 then (if t101.size + ((⟨#[48, 49, 50, 51, 52, 53, 54, 55, 56, 57]⟩ : ByteArray).extract ((Int.tmod a0 10) : Int).toNat ((wrap64 ((Int.tmod a0 10) + 1)) : Int).toNat).size ≤ 9223372036854775807 then (some (t101 ++ ((⟨#[48, 49, 50, 51, 52, 53, 54, 55, 56, 57]⟩ : ByteArray).extract ((Int.tmod a0 10) : Int).toNat ((wrap64 ((Int.tmod a0 10) + 1)) : Int).toNat))) else (none)) else (none)) else (none)) else (none)))
theorem ppm_digits.mono_l : ∀ k, (∀ y0, LeO (ppm_digits.f k y0) (ppm_digits.f (k + 1) y0))
  | 0 => fun _ r h => by simp [ppm_digits.f] at h
  | k + 1 => by
    have ih0 := ppm_digits.mono_l k
    · intro y0
      unfold ppm_digits.f
      repeat' first
      | (with_reducible exact ih0 _)
      | (with_reducible exact LeO.refl _)
      | (with_reducible exact LeO.none _)
      | (with_reducible refine LeO.ite ?_ ?_)
      | (with_reducible refine LeO.bind ?_ (fun _ => ?_))
      | exact ih0 _
      | exact LeO.none _
      | refine LeO.ite ?_ ?_
      | refine LeO.bind ?_ (fun _ => ?_)
theorem ppm_digits.mono : ∀ a0 k, LeO (ppm_digits.f k a0) (ppm_digits.f (k + 1) a0) := by
  intro a0 k
  have ih0 := ppm_digits.mono_l k
  exact ih0 a0
def ppm_digits.T3 : Bool × List (List Nat × List Nat) := (true, [([], []), ([0], [0]), ([1], [1]), ([], []), ([3], [3]), ([], []), ([5], [5]), ([6], [6]), ([4, 7], [4, 7]), ([2, 8], [2, 8]), ([9, 2, 0, 1, 2, 3, 4, 5, 6, 7, 8, 9], [9])])
def ppm_digits.B3 : List Nat := [0, 1, 3, 0, 8, 0, 32, 96, 248, 511, 1023]
theorem ppm_digits.tab3 : rtab .any (opsOf Try.f18 3) = ppm_digits.T3 := by kernel_rfl
theorem ppm_digits.bits3 : waitsOk ppm_digits.T3.2 ppm_digits.B3 = true := by kernel_rfl
set_option maxHeartbeats 8000000 in
set_option maxRecDepth 100000 in
theorem ppm_digits.calls (k : Nat) : ∀ (a0 : Int) (r : ByteArray) (w : World) (h : ppm_digits.f k a0 = some r),
    Calls Try.prog 18 #[.int .i64 a0] w fun e w' => e = .returned (.string r) ∧ Below w.heap.size w w' := by
  induction k using Nat.strongRecOn with
  | _ k ih =>
  intro a0 r w h
  cases k with
  | zero => exact absurd h (by simp [ppm_digits.f])
  | succ k =>
  simp only [ppm_digits.f] at h
  have HB := Aside0.mk (Below.refl w.heap.size w)
  have H : (if a0 < 10 then (if 0 ≤ a0 then (if a0 ≤ (wrap64 (a0 + 1)) then (if (wrap64 (a0 + 1)) ≤ 10 then (some ((⟨#[48, 49, 50, 51, 52, 53, 54, 55, 56, 57]⟩ : ByteArray).extract (a0 : Int).toNat ((wrap64 (a0 + 1)) : Int).toNat)) else (none)) else (none)) else (none)) else ((ppm_digits.f k (wrap64 (Int.tdiv a0 10))).bind fun t101 => (if 0 ≤ (Int.tmod a0 10) then (if (Int.tmod a0 10) ≤ (wrap64 ((Int.tmod a0 10) + 1)) then (if (wrap64 ((Int.tmod a0 10) + 1)) ≤ 10 then (if t101.size + ((⟨#[48, 49, 50, 51, 52, 53, 54, 55, 56, 57]⟩ : ByteArray).extract ((Int.tmod a0 10) : Int).toNat ((wrap64 ((Int.tmod a0 10) + 1)) : Int).toNat).size ≤ 9223372036854775807 then (some (t101 ++ ((⟨#[48, 49, 50, 51, 52, 53, 54, 55, 56, 57]⟩ : ByteArray).extract ((Int.tmod a0 10) : Int).toNat ((wrap64 ((Int.tmod a0 10) + 1)) : Int).toNat))) else (none)) else (none)) else (none)) else (none)))) = some r := h
  clear h
  by_cases c2 : a0 < 10
  · rw [if_pos c2] at H
    have c2b0 : decide (a0 < 10) = true := decide_eq_true c2
    clear c2
    by_cases c3 : 0 ≤ a0
    · rw [if_pos c3] at H
      have c3b0 := eq_true c3
      have c3b1 : decide (0 ≤ a0) = true := decide_eq_true c3
      clear c3
      by_cases c4 : a0 ≤ (wrap64 (a0 + 1))
      · rw [if_pos c4] at H
        have c4b0 := eq_true c4
        have c4b1 : decide (a0 ≤ (wrap64 (a0 + 1))) = true := decide_eq_true c4
        by_cases c5 : (wrap64 (a0 + 1)) ≤ 10
        · rw [if_pos c5] at H
          have c5b0 := eq_true c5
          have c5b1 : decide ((wrap64 (a0 + 1)) ≤ 10) = true := decide_eq_true c5
          obtain rfl := Option.some.inj H
          go_enter Try.func18, Try.ntmps18
          go_wp2
          go_ret
          exact ⟨by first | rfl | (simp [errW_none, errW_some] <;> rfl) | (simp [*, errW_none, errW_some] <;> rfl), by repeat (first | (with_reducible first | exact HB.out | apply below_alloc | apply pw_below_drewN | apply below_drew1) | exact HB.out)⟩
        · rw [if_neg c5] at H
          exact absurd H (by simp)
      · rw [if_neg c4] at H
        exact absurd H (by simp)
    · rw [if_neg c3] at H
      exact absurd H (by simp)
  · rw [if_neg c2] at H
    have c2b0 : decide (a0 < 10) = false := decide_eq_false c2
    clear c2
    replace H := Option.bind_eq_some_iff.mp H
    obtain ⟨t101, A60, H⟩ := H
    replace H : (if 0 ≤ (Int.tmod a0 10) then (if (Int.tmod a0 10) ≤ (wrap64 ((Int.tmod a0 10) + 1)) then (if (wrap64 ((Int.tmod a0 10) + 1)) ≤ 10 then (if t101.size + ((⟨#[48, 49, 50, 51, 52, 53, 54, 55, 56, 57]⟩ : ByteArray).extract ((Int.tmod a0 10) : Int).toNat ((wrap64 ((Int.tmod a0 10) + 1)) : Int).toNat).size ≤ 9223372036854775807 then (some (t101 ++ ((⟨#[48, 49, 50, 51, 52, 53, 54, 55, 56, 57]⟩ : ByteArray).extract ((Int.tmod a0 10) : Int).toNat ((wrap64 ((Int.tmod a0 10) + 1)) : Int).toNat))) else (none)) else (none)) else (none)) else (none)) = some r := H
    have A6 := Aside0.mk A60
    clear A60
    obtain ⟨ji7, hji7⟩ : ∃ j_ : Int, (Int.tmod a0 10) = j_ := ⟨_, rfl⟩
    replace H : (if 0 ≤ (ji7) then (if (ji7) ≤ (wrap64 ((ji7) + 1)) then (if (wrap64 ((ji7) + 1)) ≤ 10 then (if t101.size + ((⟨#[48, 49, 50, 51, 52, 53, 54, 55, 56, 57]⟩ : ByteArray).extract ((ji7) : Int).toNat ((wrap64 ((ji7) + 1)) : Int).toNat).size ≤ 9223372036854775807 then (some (t101 ++ ((⟨#[48, 49, 50, 51, 52, 53, 54, 55, 56, 57]⟩ : ByteArray).extract ((ji7) : Int).toNat ((wrap64 ((ji7) + 1)) : Int).toNat))) else (none)) else (none)) else (none)) else (none)) = some r := by first | (rw [hji7] at H; exact H) | (simp only [hji7] at H ⊢; exact H)
    (try rw [hji7] at A6)
    by_cases c8 : 0 ≤ (ji7)
    · rw [if_pos c8] at H
      have c8b0 := eq_true c8
      have c8b1 : decide (0 ≤ (ji7)) = true := decide_eq_true c8
      clear c8
      by_cases c9 : (ji7) ≤ (wrap64 ((ji7) + 1))
      · rw [if_pos c9] at H
        have c9b0 := eq_true c9
        have c9b1 : decide ((ji7) ≤ (wrap64 ((ji7) + 1))) = true := decide_eq_true c9
        by_cases c10 : (wrap64 ((ji7) + 1)) ≤ 10
        · rw [if_pos c10] at H
          have c10b0 := eq_true c10
          have c10b1 : decide ((wrap64 ((ji7) + 1)) ≤ 10) = true := decide_eq_true c10
          by_cases c11 : t101.size + ((⟨#[48, 49, 50, 51, 52, 53, 54, 55, 56, 57]⟩ : ByteArray).extract ((ji7) : Int).toNat ((wrap64 ((ji7) + 1)) : Int).toNat).size ≤ 9223372036854775807
          · rw [if_pos c11] at H
            have c11b0 := eq_true c11
            have c11b1 : decide (t101.size + ((⟨#[48, 49, 50, 51, 52, 53, 54, 55, 56, 57]⟩ : ByteArray).extract ((ji7) : Int).toNat ((wrap64 ((ji7) + 1)) : Int).toNat).size ≤ 9223372036854775807) = true := decide_eq_true c11
            try have c11b2 : (9223372036854775807 < t101.size + ((⟨#[48, 49, 50, 51, 52, 53, 54, 55, 56, 57]⟩ : ByteArray).extract ((ji7) : Int).toNat ((wrap64 ((ji7) + 1)) : Int).toNat).size) = False := eq_false (Nat.not_lt.2 c11)
            have jz_ : (9223372036854775807 < t101.size + ((wrap64 (ji7 + 1)).toNat - ji7.toNat)) = False := eq_false (by (have jy_ := c11; rw [ByteArray.size_extract] at jy_; have jx_ : min (wrap64 (ji7 + 1)).toNat (⟨#[48, 49, 50, 51, 52, 53, 54, 55, 56, 57]⟩ : ByteArray).size = (wrap64 (ji7 + 1)).toNat := Nat.min_eq_left (show (wrap64 (ji7 + 1)).toNat ≤ 10 from by omega); rw [jx_] at jy_; omega))
            obtain rfl := Option.some.inj H
            go_enter Try.func18, Try.ntmps18
            try go_wp2
            have n0_ := Aside0.mk (below_drew1 HB.out)
            clear HB
            have HB := n0_
            clear n0_
            refine start_ (n := 11) (S := fun w' => True) (ds := []) #[false, false, false, false, false, false, false, false, false, false, false] (by kernel_rfl) rfl rfl trivial (fun hHeld => ?_); refine with_tabW ppm_digits.tab3 ppm_digits.bits3 (fun HT_ HW_ => ?_)
            generalize w.drew = w12 at HB hHeld ⊢
            refine pure_ (i := 0) (N := some 9) (v := ?_) (a' := ?_) #[true, false, false, false, false, false, false, false, false, false, false] rfl rfl (any_of HT_.out (by kernel_rfl)) (fun _ _ _ h => h) (Or.inl ⟨by rfl, ?_⟩) ?_ ?_
            rotate_left
            · intro w'
              go_simp
              with_reducible rfl
            rotate_left
            · simp only [Act.put, List.setIfInBounds_toArray, List.set_cons_zero, List.set_cons_succ, i64_w, i32_w]
              rfl
            refine pure_ (i := 1) (N := some 10) (v := ?_) (a' := ?_) #[true, true, false, false, false, false, false, false, false, false, false] rfl rfl (any_of HT_.out (by kernel_rfl)) (fun _ _ _ h => h) (Or.inl ⟨by rfl, ?_⟩) ?_ ?_
            rotate_left
            · intro w'
              go_simp
              with_reducible rfl
            rotate_left
            · simp only [Act.put, List.setIfInBounds_toArray, List.set_cons_zero, List.set_cons_succ, i64_w, i32_w]
              rfl
            refine pure_ (i := 3) (N := some 12) (v := ?_) (a' := ?_) #[true, true, false, true, false, false, false, false, false, false, false] rfl rfl (any_of HT_.out (by kernel_rfl)) (fun _ _ _ h => h) (Or.inl ⟨by rfl, ?_⟩) ?_ ?_
            rotate_left
            · intro w'
              go_simp
              with_reducible rfl
            rotate_left
            · simp only [Act.put, List.setIfInBounds_toArray, List.set_cons_zero, List.set_cons_succ, i64_w, i32_w]
              rfl
            refine pure_ (i := 4) (N := some 13) (v := ?_) (a' := ?_) #[true, true, false, true, true, false, false, false, false, false, false] rfl rfl (any_of HT_.out (by kernel_rfl)) (fun _ _ _ h => h) (Or.inl ⟨by rfl, ?_⟩) ?_ ?_
            rotate_left
            · intro w'
              go_simp
              with_reducible rfl
            rotate_left
            · simp only [Act.put, List.setIfInBounds_toArray, List.set_cons_zero, List.set_cons_succ, i64_w, i32_w]
              rfl
            refine pure_ (i := 5) (N := some 14) (v := ?_) (a' := ?_) #[true, true, false, true, true, true, false, false, false, false, false] rfl rfl (any_of HT_.out (by kernel_rfl)) (fun _ _ _ h => h) (Or.inl ⟨by rfl, ?_⟩) ?_ ?_
            rotate_left
            · intro w'
              go_simp
              with_reducible rfl
            rotate_left
            · simp only [Act.put, List.setIfInBounds_toArray, List.set_cons_zero, List.set_cons_succ, i64_w, i32_w]
              rfl
            refine pure_ (i := 6) (N := some 15) (v := ?_) (a' := ?_) #[true, true, false, true, true, true, true, false, false, false, false] rfl rfl (any_of HT_.out (by kernel_rfl)) (fun _ _ _ h => h) (Or.inl ⟨by rfl, ?_⟩) ?_ ?_
            rotate_left
            · intro w'
              go_simp
              with_reducible rfl
            rotate_left
            · simp only [Act.put, List.setIfInBounds_toArray, List.set_cons_zero, List.set_cons_succ, i64_w, i32_w]
              rfl
            refine pure_ (i := 7) (N := some 16) (v := ?_) (a' := ?_) #[true, true, false, true, true, true, true, true, false, false, false] rfl rfl (any_of HT_.out (by kernel_rfl)) (fun _ _ _ h => h) (Or.inl ⟨by rfl, ?_⟩) ?_ ?_
            rotate_left
            · intro w'
              go_simp
              with_reducible rfl
            rotate_left
            · simp only [Act.put, List.setIfInBounds_toArray, List.set_cons_zero, List.set_cons_succ, i64_w, i32_w]
              rfl
            refine pure_ (i := 8) (N := some 17) (v := ?_) (a' := ?_) #[true, true, false, true, true, true, true, true, true, false, false] rfl rfl (any_of HT_.out (by kernel_rfl)) (fun _ _ _ h => h) (Or.inl ⟨by rfl, ?_⟩) ?_ ?_
            rotate_left
            · intro w'
              go_simp
              with_reducible rfl
            rotate_left
            · simp only [Act.put, List.setIfInBounds_toArray, List.set_cons_zero, List.set_cons_succ, i64_w, i32_w]
              rfl
            refine one_ (i := 2) (N := some 11) #[true, true, true, true, true, true, true, true, true, false, false] rfl rfl (one_of HT_.out (by kernel_rfl)) (by decide) (fun K hK => ?_)
            refine goes_ Try.func18 (by kernel_rfl) rfl #[.int .i64 (wrap64 (Int.tdiv a0 10))] (by rfl) rfl rfl (by (try simp only [List.map_toArray, List.map_cons, List.map_nil]); first | done | rfl | (simp only [List.length_drop, List.length_take]; rfl)) ?_
            with_reducible refine (ih k (by omega) (wrap64 (Int.tdiv a0 10)) t101 _ A6.out).mono ?_
            rintro e w13 ⟨rfl, hb⟩
            refine ⟨_, rfl, ?_⟩
            have n0_ := Aside0.mk (below_step (by repeat (first | (with_reducible first | exact HB.out | apply below_alloc | apply pw_below_drewN | apply below_drew1) | exact HB.out)) hb)
            clear HB
            have HB := n0_
            clear n0_
            (try clear hb)
            (try clear hb2)
            (try clear hk)
            (try clear hi)
            refine hK.out _ _ trivial (fun hHeld => ?_)
            clear hK K
            refine norm_ (a' := ?_) ?_ ?_
            rotate_left
            · show Act.put _ (some 11) _ = _
              simp only [Act.put, List.setIfInBounds_toArray, List.set_cons_zero, List.set_cons_succ, i64_w, i32_w]
              rfl
            refine pure_ (i := 9) (N := some 18) (v := ?_) (a' := ?_) #[true, true, true, true, true, true, true, true, true, true, false] rfl rfl (any_of HT_.out (by kernel_rfl)) (fun _ _ _ h => h) (Or.inl ⟨by rfl, ?_⟩) ?_ ?_
            rotate_left
            · intro w'
              go_simp
              with_reducible rfl
            rotate_left
            · simp only [Act.put, List.setIfInBounds_toArray, List.set_cons_zero, List.set_cons_succ, i64_w, i32_w]
              rfl
            refine pure_ (i := 10) (N := some 2) (v := ?_) (a' := ?_) #[true, true, true, true, true, true, true, true, true, true, true] rfl rfl (any_of HT_.out (by kernel_rfl)) (fun _ _ _ h => h) (Or.inl ⟨by rfl, ?_⟩) ?_ ?_
            rotate_left
            · intro w'
              go_simp
              with_reducible rfl
            rotate_left
            · simp only [Act.put, List.setIfInBounds_toArray, List.set_cons_zero, List.set_cons_succ, i64_w, i32_w]
              rfl
            refine done_ (done_of HT_.out (by kernel_rfl)) ?_
            try go_wp2
            go_ret
            exact ⟨by first | rfl | (simp [errW_none, errW_some] <;> rfl) | (simp only [← hji7]; first | rfl | (simp [errW_none, errW_some] <;> rfl)) | (simp [*, errW_none, errW_some] <;> rfl), by repeat (first | (with_reducible first | exact HB.out | apply below_alloc | apply pw_below_drewN | apply below_drew1) | exact HB.out)⟩
          · rw [if_neg c11] at H
            exact absurd H (by simp)
        · rw [if_neg c10] at H
          exact absurd H (by simp)
      · rw [if_neg c9] at H
        exact absurd H (by simp)
    · rw [if_neg c8] at H
      exact absurd H (by simp)

/-! ### ppm_Encode: function 8 -/
def ppm_Encode.f (k : Nat) (a0 : Int) (a1 : Int) (l2 : List Int) : Option (ByteArray × Int) := (ppm_check.f k a0 a1 (l2.length : Int)).bind fun t101 => (if t101 = 0 then ((ppm_digits.f k a0).bind fun t102 => (if 3 + t102.size ≤ 9223372036854775807 then (if ((⟨#[80, 54, 10]⟩ : ByteArray) ++ t102).size + 1 ≤ 9223372036854775807 then ((ppm_digits.f k a1).bind fun t103 => (if (((⟨#[80, 54, 10]⟩ : ByteArray) ++ t102) ++ (⟨#[32]⟩ : ByteArray)).size + t103.size ≤ 9223372036854775807 then (if ((((⟨#[80, 54, 10]⟩ : ByteArray) ++ t102) ++ (⟨#[32]⟩ : ByteArray)) ++ t103).size + 1 ≤ 9223372036854775807 then (if (((((⟨#[80, 54, 10]⟩ : ByteArray) ++ t102) ++ (⟨#[32]⟩ : ByteArray)) ++ t103) ++ (⟨#[10]⟩ : ByteArray)).size + 3 ≤ 9223372036854775807 then (if ((((((⟨#[80, 54, 10]⟩ : ByteArray) ++ t102) ++ (⟨#[32]⟩ : ByteArray)) ++ t103) ++ (⟨#[10]⟩ : ByteArray)) ++ (⟨#[50, 53, 53]⟩ : ByteArray)).size + 1 ≤ 9223372036854775807 then (if (((((((⟨#[80, 54, 10]⟩ : ByteArray) ++ t102) ++ (⟨#[32]⟩ : ByteArray)) ++ t103) ++ (⟨#[10]⟩ : ByteArray)) ++ (⟨#[50, 53, 53]⟩ : ByteArray)) ++ (⟨#[10]⟩ : ByteArray)).size + (strOfNums l2).size ≤ 9223372036854775807 then (some ((((((((⟨#[80, 54, 10]⟩ : ByteArray) ++ t102) ++ (⟨#[32]⟩ : ByteArray)) ++ t103) ++ (⟨#[10]⟩ : ByteArray)) ++ (⟨#[50, 53, 53]⟩ : ByteArray)) ++ (⟨#[10]⟩ : ByteArray)) ++ (strOfNums l2), 0)) else (none)) else (none)) else (none)) else (none)) else (none))) else (none)) else (none))) else (some ((⟨#[]⟩ : ByteArray), t101)))
theorem ppm_Encode.mono : ∀ a0 a1 a2 k, LeO (ppm_Encode.f k a0 a1 a2) (ppm_Encode.f (k + 1) a0 a1 a2) := by
  intro a0 a1 a2 k
  unfold ppm_Encode.f
  repeat' first
      | (with_reducible exact ppm_check.mono _ _ _ _)
      | (with_reducible exact ppm_digits.mono _ _)
      | (with_reducible exact LeO.refl _)
      | (with_reducible exact LeO.none _)
      | (with_reducible refine LeO.ite ?_ ?_)
      | (with_reducible refine LeO.bind ?_ (fun _ => ?_))
      | exact ppm_check.mono _ _ _ _
      | exact ppm_digits.mono _ _
      | exact LeO.none _
      | refine LeO.ite ?_ ?_
      | refine LeO.bind ?_ (fun _ => ?_)
def ppm_Encode.T4 : Bool × List (List Nat × List Nat) := (true, [([], []), ([0], [0]), ([1], [1]), ([2], [2]), ([], []), ([4, 1], [4]), ([3, 5], [3, 5]), ([6], [6]), ([7], [7]), ([8], [8]), ([], []), ([10], [10]), ([9, 11], [9, 11]), ([12, 5, 0, 1, 2, 3, 4, 5, 6, 7, 8, 9, 10, 11, 12], [12]), ([13, 0, 1, 2, 3, 4, 5, 6, 7, 8, 9, 10, 11, 12, 13], [])])
def ppm_Encode.B4 : List Nat := [0, 1, 3, 7, 0, 19, 63, 127, 255, 511, 0, 1024, 4095, 8191, 16383]
theorem ppm_Encode.tab4 : rtab .any (opsOf Try.f8 4) = ppm_Encode.T4 := by kernel_rfl
theorem ppm_Encode.bits4 : waitsOk ppm_Encode.T4.2 ppm_Encode.B4 = true := by kernel_rfl
set_option maxHeartbeats 8000000 in
set_option maxRecDepth 100000 in
theorem ppm_Encode.calls (k : Nat) (a0 : Int) (a1 : Int) (A2 : Option Addr) (c2 : Nat) (l2 : List Int) (r1 : ByteArray) (r2 : Int) (w : World) (hr2 : Kd.C (Kd.int .u8) w A2 l2.length l2) (hc2 : l2.length ≤ c2) (h : ppm_Encode.f k a0 a1 l2 = some (r1, r2)) :
    Calls Try.prog 8 #[.int .i64 a0, .int .i64 a1, .slice A2 l2.length c2] w fun e w' => e = .returned (.tuple #[.string r1, .int .i64 r2]) ∧ Below w.heap.size w w' := by
  have HR2 := Aside0.mk hr2
  have HC2 := Aside0.mk hc2
  clear hr2 hc2
  have HB := Aside0.mk (Below.refl w.heap.size w)
  have H : ((ppm_check.f k a0 a1 (l2.length : Int)).bind fun t101 => (if t101 = 0 then ((ppm_digits.f k a0).bind fun t102 => (if 3 + t102.size ≤ 9223372036854775807 then (if ((⟨#[80, 54, 10]⟩ : ByteArray) ++ t102).size + 1 ≤ 9223372036854775807 then ((ppm_digits.f k a1).bind fun t103 => (if (((⟨#[80, 54, 10]⟩ : ByteArray) ++ t102) ++ (⟨#[32]⟩ : ByteArray)).size + t103.size ≤ 9223372036854775807 then (if ((((⟨#[80, 54, 10]⟩ : ByteArray) ++ t102) ++ (⟨#[32]⟩ : ByteArray)) ++ t103).size + 1 ≤ 9223372036854775807 then (if (((((⟨#[80, 54, 10]⟩ : ByteArray) ++ t102) ++ (⟨#[32]⟩ : ByteArray)) ++ t103) ++ (⟨#[10]⟩ : ByteArray)).size + 3 ≤ 9223372036854775807 then (if ((((((⟨#[80, 54, 10]⟩ : ByteArray) ++ t102) ++ (⟨#[32]⟩ : ByteArray)) ++ t103) ++ (⟨#[10]⟩ : ByteArray)) ++ (⟨#[50, 53, 53]⟩ : ByteArray)).size + 1 ≤ 9223372036854775807 then (if (((((((⟨#[80, 54, 10]⟩ : ByteArray) ++ t102) ++ (⟨#[32]⟩ : ByteArray)) ++ t103) ++ (⟨#[10]⟩ : ByteArray)) ++ (⟨#[50, 53, 53]⟩ : ByteArray)) ++ (⟨#[10]⟩ : ByteArray)).size + (strOfNums l2).size ≤ 9223372036854775807 then (some ((((((((⟨#[80, 54, 10]⟩ : ByteArray) ++ t102) ++ (⟨#[32]⟩ : ByteArray)) ++ t103) ++ (⟨#[10]⟩ : ByteArray)) ++ (⟨#[50, 53, 53]⟩ : ByteArray)) ++ (⟨#[10]⟩ : ByteArray)) ++ (strOfNums l2), 0)) else (none)) else (none)) else (none)) else (none)) else (none))) else (none)) else (none))) else (some ((⟨#[]⟩ : ByteArray), t101)))) = some (r1, r2) := h
  clear h
  replace H := Option.bind_eq_some_iff.mp H
  obtain ⟨t101, A40, H⟩ := H
  replace H : (if t101 = 0 then ((ppm_digits.f k a0).bind fun t102 => (if 3 + t102.size ≤ 9223372036854775807 then (if ((⟨#[80, 54, 10]⟩ : ByteArray) ++ t102).size + 1 ≤ 9223372036854775807 then ((ppm_digits.f k a1).bind fun t103 => (if (((⟨#[80, 54, 10]⟩ : ByteArray) ++ t102) ++ (⟨#[32]⟩ : ByteArray)).size + t103.size ≤ 9223372036854775807 then (if ((((⟨#[80, 54, 10]⟩ : ByteArray) ++ t102) ++ (⟨#[32]⟩ : ByteArray)) ++ t103).size + 1 ≤ 9223372036854775807 then (if (((((⟨#[80, 54, 10]⟩ : ByteArray) ++ t102) ++ (⟨#[32]⟩ : ByteArray)) ++ t103) ++ (⟨#[10]⟩ : ByteArray)).size + 3 ≤ 9223372036854775807 then (if ((((((⟨#[80, 54, 10]⟩ : ByteArray) ++ t102) ++ (⟨#[32]⟩ : ByteArray)) ++ t103) ++ (⟨#[10]⟩ : ByteArray)) ++ (⟨#[50, 53, 53]⟩ : ByteArray)).size + 1 ≤ 9223372036854775807 then (if (((((((⟨#[80, 54, 10]⟩ : ByteArray) ++ t102) ++ (⟨#[32]⟩ : ByteArray)) ++ t103) ++ (⟨#[10]⟩ : ByteArray)) ++ (⟨#[50, 53, 53]⟩ : ByteArray)) ++ (⟨#[10]⟩ : ByteArray)).size + (strOfNums l2).size ≤ 9223372036854775807 then (some ((((((((⟨#[80, 54, 10]⟩ : ByteArray) ++ t102) ++ (⟨#[32]⟩ : ByteArray)) ++ t103) ++ (⟨#[10]⟩ : ByteArray)) ++ (⟨#[50, 53, 53]⟩ : ByteArray)) ++ (⟨#[10]⟩ : ByteArray)) ++ (strOfNums l2), 0)) else (none)) else (none)) else (none)) else (none)) else (none))) else (none)) else (none))) else (some ((⟨#[]⟩ : ByteArray), t101))) = some (r1, r2) := H
  have A4 := Aside0.mk A40
  clear A40
  by_cases c5 : t101 = 0
  · rw [if_pos c5] at H
    have c5b0 : (t101 == 0) = true := beq_iff_eq.mpr c5
    have c5b1 : (t101 != 0) = false := bne_eq_false_iff_eq.mpr c5
    clear c5
    replace H := Option.bind_eq_some_iff.mp H
    obtain ⟨t102, A60, H⟩ := H
    replace H : (if 3 + t102.size ≤ 9223372036854775807 then (if ((⟨#[80, 54, 10]⟩ : ByteArray) ++ t102).size + 1 ≤ 9223372036854775807 then ((ppm_digits.f k a1).bind fun t103 => (if (((⟨#[80, 54, 10]⟩ : ByteArray) ++ t102) ++ (⟨#[32]⟩ : ByteArray)).size + t103.size ≤ 9223372036854775807 then (if ((((⟨#[80, 54, 10]⟩ : ByteArray) ++ t102) ++ (⟨#[32]⟩ : ByteArray)) ++ t103).size + 1 ≤ 9223372036854775807 then (if (((((⟨#[80, 54, 10]⟩ : ByteArray) ++ t102) ++ (⟨#[32]⟩ : ByteArray)) ++ t103) ++ (⟨#[10]⟩ : ByteArray)).size + 3 ≤ 9223372036854775807 then (if ((((((⟨#[80, 54, 10]⟩ : ByteArray) ++ t102) ++ (⟨#[32]⟩ : ByteArray)) ++ t103) ++ (⟨#[10]⟩ : ByteArray)) ++ (⟨#[50, 53, 53]⟩ : ByteArray)).size + 1 ≤ 9223372036854775807 then (if (((((((⟨#[80, 54, 10]⟩ : ByteArray) ++ t102) ++ (⟨#[32]⟩ : ByteArray)) ++ t103) ++ (⟨#[10]⟩ : ByteArray)) ++ (⟨#[50, 53, 53]⟩ : ByteArray)) ++ (⟨#[10]⟩ : ByteArray)).size + (strOfNums l2).size ≤ 9223372036854775807 then (some ((((((((⟨#[80, 54, 10]⟩ : ByteArray) ++ t102) ++ (⟨#[32]⟩ : ByteArray)) ++ t103) ++ (⟨#[10]⟩ : ByteArray)) ++ (⟨#[50, 53, 53]⟩ : ByteArray)) ++ (⟨#[10]⟩ : ByteArray)) ++ (strOfNums l2), 0)) else (none)) else (none)) else (none)) else (none)) else (none))) else (none)) else (none)) = some (r1, r2) := H
    have A6 := Aside0.mk A60
    clear A60
    by_cases c7 : 3 + t102.size ≤ 9223372036854775807
    · rw [if_pos c7] at H
      have c7b0 := eq_true c7
      have c7b1 : decide (3 + t102.size ≤ 9223372036854775807) = true := decide_eq_true c7
      try have c7b2 : (9223372036854775807 < 3 + t102.size) = False := eq_false (Nat.not_lt.2 c7)
      by_cases c8 : ((⟨#[80, 54, 10]⟩ : ByteArray) ++ t102).size + 1 ≤ 9223372036854775807
      · rw [if_pos c8] at H
        have c8b0 := eq_true c8
        have c8b1 : decide (((⟨#[80, 54, 10]⟩ : ByteArray) ++ t102).size + 1 ≤ 9223372036854775807) = true := decide_eq_true c8
        try have c8b2 : (9223372036854775807 < ((⟨#[80, 54, 10]⟩ : ByteArray) ++ t102).size + 1) = False := eq_false (Nat.not_lt.2 c8)
        replace H := Option.bind_eq_some_iff.mp H
        obtain ⟨t103, A90, H⟩ := H
        replace H : (if (((⟨#[80, 54, 10]⟩ : ByteArray) ++ t102) ++ (⟨#[32]⟩ : ByteArray)).size + t103.size ≤ 9223372036854775807 then (if ((((⟨#[80, 54, 10]⟩ : ByteArray) ++ t102) ++ (⟨#[32]⟩ : ByteArray)) ++ t103).size + 1 ≤ 9223372036854775807 then (if (((((⟨#[80, 54, 10]⟩ : ByteArray) ++ t102) ++ (⟨#[32]⟩ : ByteArray)) ++ t103) ++ (⟨#[10]⟩ : ByteArray)).size + 3 ≤ 9223372036854775807 then (if ((((((⟨#[80, 54, 10]⟩ : ByteArray) ++ t102) ++ (⟨#[32]⟩ : ByteArray)) ++ t103) ++ (⟨#[10]⟩ : ByteArray)) ++ (⟨#[50, 53, 53]⟩ : ByteArray)).size + 1 ≤ 9223372036854775807 then (if (((((((⟨#[80, 54, 10]⟩ : ByteArray) ++ t102) ++ (⟨#[32]⟩ : ByteArray)) ++ t103) ++ (⟨#[10]⟩ : ByteArray)) ++ (⟨#[50, 53, 53]⟩ : ByteArray)) ++ (⟨#[10]⟩ : ByteArray)).size + (strOfNums l2).size ≤ 9223372036854775807 then (some ((((((((⟨#[80, 54, 10]⟩ : ByteArray) ++ t102) ++ (⟨#[32]⟩ : ByteArray)) ++ t103) ++ (⟨#[10]⟩ : ByteArray)) ++ (⟨#[50, 53, 53]⟩ : ByteArray)) ++ (⟨#[10]⟩ : ByteArray)) ++ (strOfNums l2), 0)) else (none)) else (none)) else (none)) else (none)) else (none)) = some (r1, r2) := H
        have A9 := Aside0.mk A90
        clear A90
        by_cases c10 : (((⟨#[80, 54, 10]⟩ : ByteArray) ++ t102) ++ (⟨#[32]⟩ : ByteArray)).size + t103.size ≤ 9223372036854775807
        · rw [if_pos c10] at H
          have c10b0 := eq_true c10
          have c10b1 : decide ((((⟨#[80, 54, 10]⟩ : ByteArray) ++ t102) ++ (⟨#[32]⟩ : ByteArray)).size + t103.size ≤ 9223372036854775807) = true := decide_eq_true c10
          try have c10b2 : (9223372036854775807 < (((⟨#[80, 54, 10]⟩ : ByteArray) ++ t102) ++ (⟨#[32]⟩ : ByteArray)).size + t103.size) = False := eq_false (Nat.not_lt.2 c10)
          by_cases c11 : ((((⟨#[80, 54, 10]⟩ : ByteArray) ++ t102) ++ (⟨#[32]⟩ : ByteArray)) ++ t103).size + 1 ≤ 9223372036854775807
          · rw [if_pos c11] at H
            have c11b0 := eq_true c11
            have c11b1 : decide (((((⟨#[80, 54, 10]⟩ : ByteArray) ++ t102) ++ (⟨#[32]⟩ : ByteArray)) ++ t103).size + 1 ≤ 9223372036854775807) = true := decide_eq_true c11
            try have c11b2 : (9223372036854775807 < ((((⟨#[80, 54, 10]⟩ : ByteArray) ++ t102) ++ (⟨#[32]⟩ : ByteArray)) ++ t103).size + 1) = False := eq_false (Nat.not_lt.2 c11)
            by_cases c12 : (((((⟨#[80, 54, 10]⟩ : ByteArray) ++ t102) ++ (⟨#[32]⟩ : ByteArray)) ++ t103) ++ (⟨#[10]⟩ : ByteArray)).size + 3 ≤ 9223372036854775807
            · rw [if_pos c12] at H
              have c12b0 := eq_true c12
              have c12b1 : decide ((((((⟨#[80, 54, 10]⟩ : ByteArray) ++ t102) ++ (⟨#[32]⟩ : ByteArray)) ++ t103) ++ (⟨#[10]⟩ : ByteArray)).size + 3 ≤ 9223372036854775807) = true := decide_eq_true c12
              try have c12b2 : (9223372036854775807 < (((((⟨#[80, 54, 10]⟩ : ByteArray) ++ t102) ++ (⟨#[32]⟩ : ByteArray)) ++ t103) ++ (⟨#[10]⟩ : ByteArray)).size + 3) = False := eq_false (Nat.not_lt.2 c12)
              by_cases c13 : ((((((⟨#[80, 54, 10]⟩ : ByteArray) ++ t102) ++ (⟨#[32]⟩ : ByteArray)) ++ t103) ++ (⟨#[10]⟩ : ByteArray)) ++ (⟨#[50, 53, 53]⟩ : ByteArray)).size + 1 ≤ 9223372036854775807
              · rw [if_pos c13] at H
                have c13b0 := eq_true c13
                have c13b1 : decide (((((((⟨#[80, 54, 10]⟩ : ByteArray) ++ t102) ++ (⟨#[32]⟩ : ByteArray)) ++ t103) ++ (⟨#[10]⟩ : ByteArray)) ++ (⟨#[50, 53, 53]⟩ : ByteArray)).size + 1 ≤ 9223372036854775807) = true := decide_eq_true c13
                try have c13b2 : (9223372036854775807 < ((((((⟨#[80, 54, 10]⟩ : ByteArray) ++ t102) ++ (⟨#[32]⟩ : ByteArray)) ++ t103) ++ (⟨#[10]⟩ : ByteArray)) ++ (⟨#[50, 53, 53]⟩ : ByteArray)).size + 1) = False := eq_false (Nat.not_lt.2 c13)
                by_cases c14 : (((((((⟨#[80, 54, 10]⟩ : ByteArray) ++ t102) ++ (⟨#[32]⟩ : ByteArray)) ++ t103) ++ (⟨#[10]⟩ : ByteArray)) ++ (⟨#[50, 53, 53]⟩ : ByteArray)) ++ (⟨#[10]⟩ : ByteArray)).size + (strOfNums l2).size ≤ 9223372036854775807
                · rw [if_pos c14] at H
                  have c14b0 := eq_true c14
                  have c14b1 : decide ((((((((⟨#[80, 54, 10]⟩ : ByteArray) ++ t102) ++ (⟨#[32]⟩ : ByteArray)) ++ t103) ++ (⟨#[10]⟩ : ByteArray)) ++ (⟨#[50, 53, 53]⟩ : ByteArray)) ++ (⟨#[10]⟩ : ByteArray)).size + (strOfNums l2).size ≤ 9223372036854775807) = true := decide_eq_true c14
                  try have c14b2 : (9223372036854775807 < (((((((⟨#[80, 54, 10]⟩ : ByteArray) ++ t102) ++ (⟨#[32]⟩ : ByteArray)) ++ t103) ++ (⟨#[10]⟩ : ByteArray)) ++ (⟨#[50, 53, 53]⟩ : ByteArray)) ++ (⟨#[10]⟩ : ByteArray)).size + (strOfNums l2).size) = False := eq_false (Nat.not_lt.2 c14)
                  have jz_ : 3 + t102.size + 1 + t103.size + 1 + 3 + 1 + (strOfNums l2).size ≤ 9223372036854775807 := by (have jy_ := c14; simp only [ByteArray.size_append] at jy_; exact jy_)
                  have jm2_ : (9223372036854775807 < 3 + t102.size) = False := eq_false (by omega)
                  have jm3_ : (9223372036854775807 < 3 + t102.size + 1) = False := eq_false (by omega)
                  have jm4_ : (9223372036854775807 < 3 + t102.size + 1 + t103.size) = False := eq_false (by omega)
                  have jm5_ : (9223372036854775807 < 3 + t102.size + 1 + t103.size + 1) = False := eq_false (by omega)
                  have jm6_ : (9223372036854775807 < 3 + t102.size + 1 + t103.size + 1 + 3) = False := eq_false (by omega)
                  have jm7_ : (9223372036854775807 < 3 + t102.size + 1 + t103.size + 1 + 3 + 1) = False := eq_false (by omega)
                  have jm8_ : (9223372036854775807 < 3 + t102.size + 1 + t103.size + 1 + 3 + 1 + (strOfNums l2).size) = False := eq_false (by omega)
                  have jl_ : (9223372036854775807 < 3 + t102.size + 1 + t103.size + 1 + 3 + 1 + l2.length) = False := eq_false (by (rw [strOfNums_size] at jz_; omega))
                  simp only [Option.some.injEq, Prod.mk.injEq] at H
                  obtain ⟨rfl, rfl⟩ := H
                  go_enter Try.func8, Try.ntmps8
                  try go_wp2_with (first | ((with_reducible refine gate_callee (f := 17) rfl ?_); refine goesL_ (some 13) rfl rfl Try.func17 (by kernel_rfl) rfl #[.int .i64 a0, .int .i64 a1, .int .i64 (l2.length : Int)] rfl (by (try simp only [List.map_toArray, List.map_cons, List.map_nil]); first | done | rfl | (simp only [List.length_drop, List.length_take]; rfl)) ?_; (with_reducible refine (ppm_check.calls k a0 a1 (l2.length : Int) t101 _ A4.out).mono ?_); rintro e w15 ⟨rfl, hb⟩; refine ⟨_, rfl, ?_⟩; have n0_ := Aside0.mk (below_step (by repeat (first | (with_reducible first | exact HB.out | apply below_alloc | apply pw_below_drewN | apply below_drew1) | exact HB.out)) hb); clear HB; have HB := n0_; clear n0_; (try clear hb); (try clear hb2); (try clear hk); (try clear hi)))
                  have n0_ := Aside0.mk (below_drew1 HB.out)
                  clear HB
                  have HB := n0_
                  clear n0_
                  refine start_ (n := 15) (S := fun w' => Kd.C (Kd.int .u8) w' A2 l2.length l2) (ds := []) #[false, false, false, false, false, false, false, false, false, false, false, false, false, false, false] (by kernel_rfl) rfl (by kernel_rfl) (Kd.C_below HR2.out HB.out) (fun hHeld => ?_); refine with_tabW ppm_Encode.tab4 ppm_Encode.bits4 (fun HT_ HW_ => ?_)
                  generalize w15.drew = w16 at HB hHeld ⊢
                  refine pure_ (i := 0) (N := some 17) (v := ?_) (a' := ?_) #[true, false, false, false, false, false, false, false, false, false, false, false, false, false, false] rfl rfl (any_of HT_.out (by kernel_rfl)) (fun _ _ _ h => h) (Or.inl ⟨by rfl, ?_⟩) ?_ ?_
                  rotate_left
                  · intro w'
                    go_simp
                    with_reducible rfl
                  rotate_left
                  · simp only [Act.put, List.setIfInBounds_toArray, List.set_cons_zero, List.set_cons_succ, i64_w, i32_w]
                    rfl
                  refine pure_ (i := 4) (N := some 21) (v := ?_) (a' := ?_) #[true, false, false, false, true, false, false, false, false, false, false, false, false, false, false] rfl rfl (any_of HT_.out (by kernel_rfl)) (fun _ _ _ h => h) (Or.inl ⟨by rfl, ?_⟩) ?_ ?_
                  rotate_left
                  · intro w'
                    go_simp
                    with_reducible rfl
                  rotate_left
                  · simp only [Act.put, List.setIfInBounds_toArray, List.set_cons_zero, List.set_cons_succ, i64_w, i32_w]
                    rfl
                  refine pure_ (i := 10) (N := some 27) (v := ?_) (a' := ?_) #[true, false, false, false, true, false, false, false, false, false, true, false, false, false, false] rfl rfl (any_of HT_.out (by kernel_rfl)) (fun _ _ _ h => h) (Or.inl ⟨by rfl, ?_⟩) ?_ ?_
                  rotate_left
                  · intro w'
                    go_simp
                    with_reducible rfl
                  rotate_left
                  · simp only [Act.put, List.setIfInBounds_toArray, List.set_cons_zero, List.set_cons_succ, i64_w, i32_w]
                    rfl
                  refine take_ (i := 11) (N := some 28) (v := ?_) (a' := ?_) #[true, false, false, false, true, false, false, false, false, false, true, true, false, false, false] rfl rfl (take_ofW HT_.out HW_.out (by kernel_rfl)) (fun _ _ _ h => h) (Or.inl ⟨by rfl, ?_⟩) hHeld ?_ ?_
                  rotate_left
                  · intro w' hS_
                    have hcv_ := Kd.C_string (P := Try.prog) (A := A2) (c := c2) Try.underlying22 Try.underlying5 Try.underlying9 hS_
                    go_simp
                    with_reducible rfl
                  rotate_left
                  · simp only [Act.put, List.setIfInBounds_toArray, List.set_cons_zero, List.set_cons_succ, i64_w, i32_w]
                    rfl
                  refine one_ (i := 1) (N := some 18) #[true, true, false, false, true, false, false, false, false, false, true, true, false, false, false] rfl rfl (one_of HT_.out (by kernel_rfl)) (by decide) (fun K hK => ?_)
                  refine goes_ Try.func18 (by kernel_rfl) rfl #[.int .i64 a0] (by rfl) rfl rfl (by (try simp only [List.map_toArray, List.map_cons, List.map_nil]); first | done | rfl | (simp only [List.length_drop, List.length_take]; rfl)) ?_
                  with_reducible refine (ppm_digits.calls k a0 t102 _ A6.out).mono ?_
                  rintro e w17 ⟨rfl, hb⟩
                  refine ⟨_, rfl, ?_⟩
                  have n0_ := Aside0.mk (below_step (by repeat (first | (with_reducible first | exact HB.out | apply below_alloc | apply pw_below_drewN | apply below_drew1) | exact HB.out)) hb)
                  clear HB
                  have HB := n0_
                  clear n0_
                  (try clear hb)
                  (try clear hb2)
                  (try clear hk)
                  (try clear hi)
                  refine hK.out _ _ (Kd.C_below HR2.out HB.out) (fun hHeld => ?_)
                  clear hK K
                  refine norm_ (a' := ?_) ?_ ?_
                  rotate_left
                  · show Act.put _ (some 18) _ = _
                    simp only [Act.put, List.setIfInBounds_toArray, List.set_cons_zero, List.set_cons_succ, i64_w, i32_w]
                    rfl
                  refine pure_ (i := 2) (N := some 19) (v := ?_) (a' := ?_) #[true, true, true, false, true, false, false, false, false, false, true, true, false, false, false] rfl rfl (any_of HT_.out (by kernel_rfl)) (fun _ _ _ h => h) (Or.inl ⟨by rfl, ?_⟩) ?_ ?_
                  rotate_left
                  · intro w'
                    go_simp
                    with_reducible rfl
                  rotate_left
                  · simp only [Act.put, List.setIfInBounds_toArray, List.set_cons_zero, List.set_cons_succ, i64_w, i32_w]
                    rfl
                  refine pure_ (i := 3) (N := some 20) (v := ?_) (a' := ?_) #[true, true, true, true, true, false, false, false, false, false, true, true, false, false, false] rfl rfl (any_of HT_.out (by kernel_rfl)) (fun _ _ _ h => h) (Or.inl ⟨by rfl, ?_⟩) ?_ ?_
                  rotate_left
                  · intro w'
                    go_simp
                    with_reducible rfl
                  rotate_left
                  · simp only [Act.put, List.setIfInBounds_toArray, List.set_cons_zero, List.set_cons_succ, i64_w, i32_w]
                    rfl
                  refine one_ (i := 5) (N := some 22) #[true, true, true, true, true, true, false, false, false, false, true, true, false, false, false] rfl rfl (one_of HT_.out (by kernel_rfl)) (by decide) (fun K hK => ?_)
                  refine goes_ Try.func18 (by kernel_rfl) rfl #[.int .i64 a1] (by rfl) rfl rfl (by (try simp only [List.map_toArray, List.map_cons, List.map_nil]); first | done | rfl | (simp only [List.length_drop, List.length_take]; rfl)) ?_
                  with_reducible refine (ppm_digits.calls k a1 t103 _ A9.out).mono ?_
                  rintro e w18 ⟨rfl, hb⟩
                  refine ⟨_, rfl, ?_⟩
                  have n0_ := Aside0.mk (below_step (by repeat (first | (with_reducible first | exact HB.out | apply below_alloc | apply pw_below_drewN | apply below_drew1) | exact HB.out)) hb)
                  clear HB
                  have HB := n0_
                  clear n0_
                  (try clear hb)
                  (try clear hb2)
                  (try clear hk)
                  (try clear hi)
                  have hcv19 := Kd.C_string (P := Try.prog) (A := A2) (c := c2) Try.underlying22 Try.underlying5 Try.underlying9 (Kd.C_below HR2.out HB.out)
                  refine hK.out _ _ (Kd.C_below HR2.out HB.out) (fun hHeld => ?_)
                  clear hK K
                  refine norm_ (a' := ?_) ?_ ?_
                  rotate_left
                  · show Act.put _ (some 22) _ = _
                    simp only [Act.put, List.setIfInBounds_toArray, List.set_cons_zero, List.set_cons_succ, i64_w, i32_w]
                    rfl
                  refine pure_ (i := 6) (N := some 23) (v := ?_) (a' := ?_) #[true, true, true, true, true, true, true, false, false, false, true, true, false, false, false] rfl rfl (any_of HT_.out (by kernel_rfl)) (fun _ _ _ h => h) (Or.inl ⟨by rfl, ?_⟩) ?_ ?_
                  rotate_left
                  · intro w'
                    go_simp
                    with_reducible rfl
                  rotate_left
                  · simp only [Act.put, List.setIfInBounds_toArray, List.set_cons_zero, List.set_cons_succ, i64_w, i32_w]
                    rfl
                  refine pure_ (i := 7) (N := some 24) (v := ?_) (a' := ?_) #[true, true, true, true, true, true, true, true, false, false, true, true, false, false, false] rfl rfl (any_of HT_.out (by kernel_rfl)) (fun _ _ _ h => h) (Or.inl ⟨by rfl, ?_⟩) ?_ ?_
                  rotate_left
                  · intro w'
                    go_simp
                    with_reducible rfl
                  rotate_left
                  · simp only [Act.put, List.setIfInBounds_toArray, List.set_cons_zero, List.set_cons_succ, i64_w, i32_w]
                    rfl
                  refine pure_ (i := 8) (N := some 25) (v := ?_) (a' := ?_) #[true, true, true, true, true, true, true, true, true, false, true, true, false, false, false] rfl rfl (any_of HT_.out (by kernel_rfl)) (fun _ _ _ h => h) (Or.inl ⟨by rfl, ?_⟩) ?_ ?_
                  rotate_left
                  · intro w'
                    go_simp
                    with_reducible rfl
                  rotate_left
                  · simp only [Act.put, List.setIfInBounds_toArray, List.set_cons_zero, List.set_cons_succ, i64_w, i32_w]
                    rfl
                  refine pure_ (i := 9) (N := some 26) (v := ?_) (a' := ?_) #[true, true, true, true, true, true, true, true, true, true, true, true, false, false, false] rfl rfl (any_of HT_.out (by kernel_rfl)) (fun _ _ _ h => h) (Or.inl ⟨by rfl, ?_⟩) ?_ ?_
                  rotate_left
                  · intro w'
                    go_simp
                    with_reducible rfl
                  rotate_left
                  · simp only [Act.put, List.setIfInBounds_toArray, List.set_cons_zero, List.set_cons_succ, i64_w, i32_w]
                    rfl
                  refine pure_ (i := 12) (N := some 29) (v := ?_) (a' := ?_) #[true, true, true, true, true, true, true, true, true, true, true, true, true, false, false] rfl rfl (any_of HT_.out (by kernel_rfl)) (fun _ _ _ h => h) (Or.inl ⟨by rfl, ?_⟩) ?_ ?_
                  rotate_left
                  · intro w'
                    go_simp
                    with_reducible rfl
                  rotate_left
                  · simp only [Act.put, List.setIfInBounds_toArray, List.set_cons_zero, List.set_cons_succ, i64_w, i32_w]
                    rfl
                  refine pure_ (i := 13) (N := some 6) (v := ?_) (a' := ?_) #[true, true, true, true, true, true, true, true, true, true, true, true, true, true, false] rfl rfl (any_of HT_.out (by kernel_rfl)) (fun _ _ _ h => h) (Or.inl ⟨by rfl, ?_⟩) ?_ ?_
                  rotate_left
                  · intro w'
                    go_simp
                    with_reducible rfl
                  rotate_left
                  · simp only [Act.put, List.setIfInBounds_toArray, List.set_cons_zero, List.set_cons_succ, i64_w, i32_w]
                    rfl
                  refine pure_ (i := 14) (N := some 7) (v := ?_) (a' := ?_) #[true, true, true, true, true, true, true, true, true, true, true, true, true, true, true] rfl rfl (any_of HT_.out (by kernel_rfl)) (fun _ _ _ h => h) (Or.inl ⟨by rfl, ?_⟩) ?_ ?_
                  rotate_left
                  · intro w'
                    go_simp
                    with_reducible rfl
                  rotate_left
                  · simp only [Act.put, List.setIfInBounds_toArray, List.set_cons_zero, List.set_cons_succ, i64_w, i32_w]
                    rfl
                  refine done_ (done_of HT_.out (by kernel_rfl)) ?_
                  try go_wp2
                  go_ret2
                  exact ⟨by first | rfl | (simp [errW_none, errW_some] <;> rfl) | (simp [*, errW_none, errW_some] <;> rfl), by repeat (first | (with_reducible first | exact HB.out | apply below_alloc | apply pw_below_drewN | apply below_drew1) | exact HB.out)⟩
                · rw [if_neg c14] at H
                  exact absurd H (by simp)
              · rw [if_neg c13] at H
                exact absurd H (by simp)
            · rw [if_neg c12] at H
              exact absurd H (by simp)
          · rw [if_neg c11] at H
            exact absurd H (by simp)
        · rw [if_neg c10] at H
          exact absurd H (by simp)
      · rw [if_neg c8] at H
        exact absurd H (by simp)
    · rw [if_neg c7] at H
      exact absurd H (by simp)
  · rw [if_neg c5] at H
    have c5b0 : (t101 == 0) = false := beq_eq_false_iff_ne.mpr c5
    have c5b1 : (t101 != 0) = true := bne_iff_ne.mpr c5
    simp only [Option.some.injEq, Prod.mk.injEq] at H
    obtain ⟨rfl, rfl⟩ := H
    go_enter Try.func8, Try.ntmps8
    go_wp2_with (first | ((with_reducible refine gate_callee (f := 17) rfl ?_); refine goesL_ (some 13) rfl rfl Try.func17 (by kernel_rfl) rfl #[.int .i64 a0, .int .i64 a1, .int .i64 (l2.length : Int)] rfl (by (try simp only [List.map_toArray, List.map_cons, List.map_nil]); first | done | rfl | (simp only [List.length_drop, List.length_take]; rfl)) ?_; (with_reducible refine (ppm_check.calls k a0 a1 (l2.length : Int) t101 _ A4.out).mono ?_); rintro e w21 ⟨rfl, hb⟩; refine ⟨_, rfl, ?_⟩; have n0_ := Aside0.mk (below_step (by repeat (first | (with_reducible first | exact HB.out | apply below_alloc | apply pw_below_drewN | apply below_drew1) | exact HB.out)) hb); clear HB; have HB := n0_; clear n0_; (try clear hb); (try clear hb2); (try clear hk); (try clear hi)))
    go_ret2
    exact ⟨by first | rfl | (simp [errW_none, errW_some] <;> rfl) | (simp [*, errW_none, errW_some] <;> rfl), by repeat (first | (with_reducible first | exact HB.out | apply below_alloc | apply pw_below_drewN | apply below_drew1) | exact HB.out)⟩

/-! ### ppm_Size: function 11 -/
def ppm_Size.f (k : Nat) (a0 : Int) (a1 : Int) : Option (Int) := (ppm_check.f k a0 a1 0).bind fun t101 => (if t101 = 14 then ((ppm_digits.f k a0).bind fun t102 => (if 3 + t102.size ≤ 9223372036854775807 then (if ((⟨#[80, 54, 10]⟩ : ByteArray) ++ t102).size + 1 ≤ 9223372036854775807 then ((ppm_digits.f k a1).bind fun t103 => (if (((⟨#[80, 54, 10]⟩ : ByteArray) ++ t102) ++ (⟨#[32]⟩ : ByteArray)).size + t103.size ≤ 9223372036854775807 then (if ((((⟨#[80, 54, 10]⟩ : ByteArray) ++ t102) ++ (⟨#[32]⟩ : ByteArray)) ++ t103).size + 1 ≤ 9223372036854775807 then (if (((((⟨#[80, 54, 10]⟩ : ByteArray) ++ t102) ++ (⟨#[32]⟩ : ByteArray)) ++ t103) ++ (⟨#[10]⟩ : ByteArray)).size + 3 ≤ 9223372036854775807 then (if ((((((⟨#[80, 54, 10]⟩ : ByteArray) ++ t102) ++ (⟨#[32]⟩ : ByteArray)) ++ t103) ++ (⟨#[10]⟩ : ByteArray)) ++ (⟨#[50, 53, 53]⟩ : ByteArray)).size + 1 ≤ 9223372036854775807 then (some (wrap64 (((((((((⟨#[80, 54, 10]⟩ : ByteArray) ++ t102) ++ (⟨#[32]⟩ : ByteArray)) ++ t103) ++ (⟨#[10]⟩ : ByteArray)) ++ (⟨#[50, 53, 53]⟩ : ByteArray)) ++ (⟨#[10]⟩ : ByteArray)).size : Int) + (wrap64 ((wrap64 (3 * a0)) * a1))))) else (none)) else (none)) else (none)) else (none))) else (none)) else (none))) else (some 0))
theorem ppm_Size.mono : ∀ a0 a1 k, LeO (ppm_Size.f k a0 a1) (ppm_Size.f (k + 1) a0 a1) := by
  intro a0 a1 k
  unfold ppm_Size.f
  repeat' first
      | (with_reducible exact ppm_check.mono _ _ _ _)
      | (with_reducible exact ppm_digits.mono _ _)
      | (with_reducible exact LeO.refl _)
      | (with_reducible exact LeO.none _)
      | (with_reducible refine LeO.ite ?_ ?_)
      | (with_reducible refine LeO.bind ?_ (fun _ => ?_))
      | exact ppm_check.mono _ _ _ _
      | exact ppm_digits.mono _ _
      | exact LeO.none _
      | refine LeO.ite ?_ ?_
      | refine LeO.bind ?_ (fun _ => ?_)
set_option maxHeartbeats 8000000 in
set_option maxRecDepth 100000 in
theorem ppm_Size.calls (k : Nat) (a0 : Int) (a1 : Int) (r : Int) (w : World) (h : ppm_Size.f k a0 a1 = some r) :
    Calls Try.prog 11 #[.int .i64 a0, .int .i64 a1] w fun e w' => e = .returned (.int .i64 r) ∧ Below w.heap.size w w' := by
  have HB := Aside0.mk (Below.refl w.heap.size w)
  have H : ((ppm_check.f k a0 a1 0).bind fun t101 => (if t101 = 14 then ((ppm_digits.f k a0).bind fun t102 => (if 3 + t102.size ≤ 9223372036854775807 then (if ((⟨#[80, 54, 10]⟩ : ByteArray) ++ t102).size + 1 ≤ 9223372036854775807 then ((ppm_digits.f k a1).bind fun t103 => (if (((⟨#[80, 54, 10]⟩ : ByteArray) ++ t102) ++ (⟨#[32]⟩ : ByteArray)).size + t103.size ≤ 9223372036854775807 then (if ((((⟨#[80, 54, 10]⟩ : ByteArray) ++ t102) ++ (⟨#[32]⟩ : ByteArray)) ++ t103).size + 1 ≤ 9223372036854775807 then (if (((((⟨#[80, 54, 10]⟩ : ByteArray) ++ t102) ++ (⟨#[32]⟩ : ByteArray)) ++ t103) ++ (⟨#[10]⟩ : ByteArray)).size + 3 ≤ 9223372036854775807 then (if ((((((⟨#[80, 54, 10]⟩ : ByteArray) ++ t102) ++ (⟨#[32]⟩ : ByteArray)) ++ t103) ++ (⟨#[10]⟩ : ByteArray)) ++ (⟨#[50, 53, 53]⟩ : ByteArray)).size + 1 ≤ 9223372036854775807 then (some (wrap64 (((((((((⟨#[80, 54, 10]⟩ : ByteArray) ++ t102) ++ (⟨#[32]⟩ : ByteArray)) ++ t103) ++ (⟨#[10]⟩ : ByteArray)) ++ (⟨#[50, 53, 53]⟩ : ByteArray)) ++ (⟨#[10]⟩ : ByteArray)).size : Int) + (wrap64 ((wrap64 (3 * a0)) * a1))))) else (none)) else (none)) else (none)) else (none))) else (none)) else (none))) else (some 0))) = some r := h
  clear h
  replace H := Option.bind_eq_some_iff.mp H
  obtain ⟨t101, A30, H⟩ := H
  replace H : (if t101 = 14 then ((ppm_digits.f k a0).bind fun t102 => (if 3 + t102.size ≤ 9223372036854775807 then (if ((⟨#[80, 54, 10]⟩ : ByteArray) ++ t102).size + 1 ≤ 9223372036854775807 then ((ppm_digits.f k a1).bind fun t103 => (if (((⟨#[80, 54, 10]⟩ : ByteArray) ++ t102) ++ (⟨#[32]⟩ : ByteArray)).size + t103.size ≤ 9223372036854775807 then (if ((((⟨#[80, 54, 10]⟩ : ByteArray) ++ t102) ++ (⟨#[32]⟩ : ByteArray)) ++ t103).size + 1 ≤ 9223372036854775807 then (if (((((⟨#[80, 54, 10]⟩ : ByteArray) ++ t102) ++ (⟨#[32]⟩ : ByteArray)) ++ t103) ++ (⟨#[10]⟩ : ByteArray)).size + 3 ≤ 9223372036854775807 then (if ((((((⟨#[80, 54, 10]⟩ : ByteArray) ++ t102) ++ (⟨#[32]⟩ : ByteArray)) ++ t103) ++ (⟨#[10]⟩ : ByteArray)) ++ (⟨#[50, 53, 53]⟩ : ByteArray)).size + 1 ≤ 9223372036854775807 then (some (wrap64 (((((((((⟨#[80, 54, 10]⟩ : ByteArray) ++ t102) ++ (⟨#[32]⟩ : ByteArray)) ++ t103) ++ (⟨#[10]⟩ : ByteArray)) ++ (⟨#[50, 53, 53]⟩ : ByteArray)) ++ (⟨#[10]⟩ : ByteArray)).size : Int) + (wrap64 ((wrap64 (3 * a0)) * a1))))) else (none)) else (none)) else (none)) else (none))) else (none)) else (none))) else (some 0)) = some r := H
  have A3 := Aside0.mk A30
  clear A30
  by_cases c4 : t101 = 14
  · rw [if_pos c4] at H
    have c4b0 : (t101 == 14) = true := beq_iff_eq.mpr c4
    have c4b1 : (t101 != 14) = false := bne_eq_false_iff_eq.mpr c4
    clear c4
    replace H := Option.bind_eq_some_iff.mp H
    obtain ⟨t102, A50, H⟩ := H
    replace H : (if 3 + t102.size ≤ 9223372036854775807 then (if ((⟨#[80, 54, 10]⟩ : ByteArray) ++ t102).size + 1 ≤ 9223372036854775807 then ((ppm_digits.f k a1).bind fun t103 => (if (((⟨#[80, 54, 10]⟩ : ByteArray) ++ t102) ++ (⟨#[32]⟩ : ByteArray)).size + t103.size ≤ 9223372036854775807 then (if ((((⟨#[80, 54, 10]⟩ : ByteArray) ++ t102) ++ (⟨#[32]⟩ : ByteArray)) ++ t103).size + 1 ≤ 9223372036854775807 then (if (((((⟨#[80, 54, 10]⟩ : ByteArray) ++ t102) ++ (⟨#[32]⟩ : ByteArray)) ++ t103) ++ (⟨#[10]⟩ : ByteArray)).size + 3 ≤ 9223372036854775807 then (if ((((((⟨#[80, 54, 10]⟩ : ByteArray) ++ t102) ++ (⟨#[32]⟩ : ByteArray)) ++ t103) ++ (⟨#[10]⟩ : ByteArray)) ++ (⟨#[50, 53, 53]⟩ : ByteArray)).size + 1 ≤ 9223372036854775807 then (some (wrap64 (((((((((⟨#[80, 54, 10]⟩ : ByteArray) ++ t102) ++ (⟨#[32]⟩ : ByteArray)) ++ t103) ++ (⟨#[10]⟩ : ByteArray)) ++ (⟨#[50, 53, 53]⟩ : ByteArray)) ++ (⟨#[10]⟩ : ByteArray)).size : Int) + (wrap64 ((wrap64 (3 * a0)) * a1))))) else (none)) else (none)) else (none)) else (none))) else (none)) else (none)) = some r := H
    have A5 := Aside0.mk A50
    clear A50
    by_cases c6 : 3 + t102.size ≤ 9223372036854775807
    · rw [if_pos c6] at H
      have c6b0 := eq_true c6
      have c6b1 : decide (3 + t102.size ≤ 9223372036854775807) = true := decide_eq_true c6
      try have c6b2 : (9223372036854775807 < 3 + t102.size) = False := eq_false (Nat.not_lt.2 c6)
      by_cases c7 : ((⟨#[80, 54, 10]⟩ : ByteArray) ++ t102).size + 1 ≤ 9223372036854775807
      · rw [if_pos c7] at H
        have c7b0 := eq_true c7
        have c7b1 : decide (((⟨#[80, 54, 10]⟩ : ByteArray) ++ t102).size + 1 ≤ 9223372036854775807) = true := decide_eq_true c7
        try have c7b2 : (9223372036854775807 < ((⟨#[80, 54, 10]⟩ : ByteArray) ++ t102).size + 1) = False := eq_false (Nat.not_lt.2 c7)
        replace H := Option.bind_eq_some_iff.mp H
        obtain ⟨t103, A80, H⟩ := H
        replace H : (if (((⟨#[80, 54, 10]⟩ : ByteArray) ++ t102) ++ (⟨#[32]⟩ : ByteArray)).size + t103.size ≤ 9223372036854775807 then (if ((((⟨#[80, 54, 10]⟩ : ByteArray) ++ t102) ++ (⟨#[32]⟩ : ByteArray)) ++ t103).size + 1 ≤ 9223372036854775807 then (if (((((⟨#[80, 54, 10]⟩ : ByteArray) ++ t102) ++ (⟨#[32]⟩ : ByteArray)) ++ t103) ++ (⟨#[10]⟩ : ByteArray)).size + 3 ≤ 9223372036854775807 then (if ((((((⟨#[80, 54, 10]⟩ : ByteArray) ++ t102) ++ (⟨#[32]⟩ : ByteArray)) ++ t103) ++ (⟨#[10]⟩ : ByteArray)) ++ (⟨#[50, 53, 53]⟩ : ByteArray)).size + 1 ≤ 9223372036854775807 then (some (wrap64 (((((((((⟨#[80, 54, 10]⟩ : ByteArray) ++ t102) ++ (⟨#[32]⟩ : ByteArray)) ++ t103) ++ (⟨#[10]⟩ : ByteArray)) ++ (⟨#[50, 53, 53]⟩ : ByteArray)) ++ (⟨#[10]⟩ : ByteArray)).size : Int) + (wrap64 ((wrap64 (3 * a0)) * a1))))) else (none)) else (none)) else (none)) else (none)) = some r := H
        have A8 := Aside0.mk A80
        clear A80
        by_cases c9 : (((⟨#[80, 54, 10]⟩ : ByteArray) ++ t102) ++ (⟨#[32]⟩ : ByteArray)).size + t103.size ≤ 9223372036854775807
        · rw [if_pos c9] at H
          have c9b0 := eq_true c9
          have c9b1 : decide ((((⟨#[80, 54, 10]⟩ : ByteArray) ++ t102) ++ (⟨#[32]⟩ : ByteArray)).size + t103.size ≤ 9223372036854775807) = true := decide_eq_true c9
          try have c9b2 : (9223372036854775807 < (((⟨#[80, 54, 10]⟩ : ByteArray) ++ t102) ++ (⟨#[32]⟩ : ByteArray)).size + t103.size) = False := eq_false (Nat.not_lt.2 c9)
          by_cases c10 : ((((⟨#[80, 54, 10]⟩ : ByteArray) ++ t102) ++ (⟨#[32]⟩ : ByteArray)) ++ t103).size + 1 ≤ 9223372036854775807
          · rw [if_pos c10] at H
            have c10b0 := eq_true c10
            have c10b1 : decide (((((⟨#[80, 54, 10]⟩ : ByteArray) ++ t102) ++ (⟨#[32]⟩ : ByteArray)) ++ t103).size + 1 ≤ 9223372036854775807) = true := decide_eq_true c10
            try have c10b2 : (9223372036854775807 < ((((⟨#[80, 54, 10]⟩ : ByteArray) ++ t102) ++ (⟨#[32]⟩ : ByteArray)) ++ t103).size + 1) = False := eq_false (Nat.not_lt.2 c10)
            by_cases c11 : (((((⟨#[80, 54, 10]⟩ : ByteArray) ++ t102) ++ (⟨#[32]⟩ : ByteArray)) ++ t103) ++ (⟨#[10]⟩ : ByteArray)).size + 3 ≤ 9223372036854775807
            · rw [if_pos c11] at H
              have c11b0 := eq_true c11
              have c11b1 : decide ((((((⟨#[80, 54, 10]⟩ : ByteArray) ++ t102) ++ (⟨#[32]⟩ : ByteArray)) ++ t103) ++ (⟨#[10]⟩ : ByteArray)).size + 3 ≤ 9223372036854775807) = true := decide_eq_true c11
              try have c11b2 : (9223372036854775807 < (((((⟨#[80, 54, 10]⟩ : ByteArray) ++ t102) ++ (⟨#[32]⟩ : ByteArray)) ++ t103) ++ (⟨#[10]⟩ : ByteArray)).size + 3) = False := eq_false (Nat.not_lt.2 c11)
              by_cases c12 : ((((((⟨#[80, 54, 10]⟩ : ByteArray) ++ t102) ++ (⟨#[32]⟩ : ByteArray)) ++ t103) ++ (⟨#[10]⟩ : ByteArray)) ++ (⟨#[50, 53, 53]⟩ : ByteArray)).size + 1 ≤ 9223372036854775807
              · rw [if_pos c12] at H
                have c12b0 := eq_true c12
                have c12b1 : decide (((((((⟨#[80, 54, 10]⟩ : ByteArray) ++ t102) ++ (⟨#[32]⟩ : ByteArray)) ++ t103) ++ (⟨#[10]⟩ : ByteArray)) ++ (⟨#[50, 53, 53]⟩ : ByteArray)).size + 1 ≤ 9223372036854775807) = true := decide_eq_true c12
                try have c12b2 : (9223372036854775807 < ((((((⟨#[80, 54, 10]⟩ : ByteArray) ++ t102) ++ (⟨#[32]⟩ : ByteArray)) ++ t103) ++ (⟨#[10]⟩ : ByteArray)) ++ (⟨#[50, 53, 53]⟩ : ByteArray)).size + 1) = False := eq_false (Nat.not_lt.2 c12)
                have jz_ : 3 + t102.size + 1 + t103.size + 1 + 3 + 1 ≤ 9223372036854775807 := by (have jy_ := c12; simp only [ByteArray.size_append] at jy_; exact jy_)
                have jm2_ : (9223372036854775807 < 3 + t102.size) = False := eq_false (by omega)
                have jm3_ : (9223372036854775807 < 3 + t102.size + 1) = False := eq_false (by omega)
                have jm4_ : (9223372036854775807 < 3 + t102.size + 1 + t103.size) = False := eq_false (by omega)
                have jm5_ : (9223372036854775807 < 3 + t102.size + 1 + t103.size + 1) = False := eq_false (by omega)
                have jm6_ : (9223372036854775807 < 3 + t102.size + 1 + t103.size + 1 + 3) = False := eq_false (by omega)
                have jm7_ : (9223372036854775807 < 3 + t102.size + 1 + t103.size + 1 + 3 + 1) = False := eq_false (by omega)
                obtain rfl := Option.some.inj H
                go_enter Try.func11, Try.ntmps11
                go_wp2_with (first | ((with_reducible refine gate_callee (f := 17) rfl ?_); refine goesL_ (some 7) rfl rfl Try.func17 (by kernel_rfl) rfl #[.int .i64 a0, .int .i64 a1, .int .i64 0] rfl (by (try simp only [List.map_toArray, List.map_cons, List.map_nil]); first | done | rfl | (simp only [List.length_drop, List.length_take]; rfl)) ?_; (with_reducible refine (ppm_check.calls k a0 a1 0 t101 _ A3.out).mono ?_); rintro e w13 ⟨rfl, hb⟩; refine ⟨_, rfl, ?_⟩; have n0_ := Aside0.mk (below_step (by repeat (first | (with_reducible first | exact HB.out | apply below_alloc | apply pw_below_drewN | apply below_drew1) | exact HB.out)) hb); clear HB; have HB := n0_; clear n0_; (try clear hb); (try clear hb2); (try clear hk); (try clear hi)) | ((with_reducible refine gate_callee (f := 18) rfl ?_); refine goesL_ (some 10) rfl rfl Try.func18 (by kernel_rfl) rfl #[.int .i64 a0] rfl (by (try simp only [List.map_toArray, List.map_cons, List.map_nil]); first | done | rfl | (simp only [List.length_drop, List.length_take]; rfl)) ?_; (with_reducible refine (ppm_digits.calls k a0 t102 _ A5.out).mono ?_); rintro e w14 ⟨rfl, hb⟩; refine ⟨_, rfl, ?_⟩; have n0_ := Aside0.mk (below_step (by repeat (first | (with_reducible first | exact HB.out | apply below_alloc | apply pw_below_drewN | apply below_drew1) | exact HB.out)) hb); clear HB; have HB := n0_; clear n0_; (try clear hb); (try clear hb2); (try clear hk); (try clear hi)) | ((with_reducible refine gate_callee (f := 18) rfl ?_); refine goesL_ (some 14) rfl rfl Try.func18 (by kernel_rfl) rfl #[.int .i64 a1] rfl (by (try simp only [List.map_toArray, List.map_cons, List.map_nil]); first | done | rfl | (simp only [List.length_drop, List.length_take]; rfl)) ?_; (with_reducible refine (ppm_digits.calls k a1 t103 _ A8.out).mono ?_); rintro e w15 ⟨rfl, hb⟩; refine ⟨_, rfl, ?_⟩; have n0_ := Aside0.mk (below_step (by repeat (first | (with_reducible first | exact HB.out | apply below_alloc | apply pw_below_drewN | apply below_drew1) | exact HB.out)) hb); clear HB; have HB := n0_; clear n0_; (try clear hb); (try clear hb2); (try clear hk); (try clear hi)))
                go_ret
                exact ⟨by first | rfl | (simp [errW_none, errW_some] <;> rfl) | (simp [*, errW_none, errW_some] <;> rfl), by repeat (first | (with_reducible first | exact HB.out | apply below_alloc | apply pw_below_drewN | apply below_drew1) | exact HB.out)⟩
              · rw [if_neg c12] at H
                exact absurd H (by simp)
            · rw [if_neg c11] at H
              exact absurd H (by simp)
          · rw [if_neg c10] at H
            exact absurd H (by simp)
        · rw [if_neg c9] at H
          exact absurd H (by simp)
      · rw [if_neg c7] at H
        exact absurd H (by simp)
    · rw [if_neg c6] at H
      exact absurd H (by simp)
  · rw [if_neg c4] at H
    have c4b0 : (t101 == 14) = false := beq_eq_false_iff_ne.mpr c4
    have c4b1 : (t101 != 14) = true := bne_iff_ne.mpr c4
    obtain rfl := Option.some.inj H
    go_enter Try.func11, Try.ntmps11
    go_wp2_with (first | ((with_reducible refine gate_callee (f := 17) rfl ?_); refine goesL_ (some 7) rfl rfl Try.func17 (by kernel_rfl) rfl #[.int .i64 a0, .int .i64 a1, .int .i64 0] rfl (by (try simp only [List.map_toArray, List.map_cons, List.map_nil]); first | done | rfl | (simp only [List.length_drop, List.length_take]; rfl)) ?_; (with_reducible refine (ppm_check.calls k a0 a1 0 t101 _ A3.out).mono ?_); rintro e w16 ⟨rfl, hb⟩; refine ⟨_, rfl, ?_⟩; have n0_ := Aside0.mk (below_step (by repeat (first | (with_reducible first | exact HB.out | apply below_alloc | apply pw_below_drewN | apply below_drew1) | exact HB.out)) hb); clear HB; have HB := n0_; clear n0_; (try clear hb); (try clear hb2); (try clear hk); (try clear hi)))
    go_ret
    exact ⟨by first | rfl | (simp [errW_none, errW_some] <;> rfl) | (simp [*, errW_none, errW_some] <;> rfl), by repeat (first | (with_reducible first | exact HB.out | apply below_alloc | apply pw_below_drewN | apply below_drew1) | exact HB.out)⟩

/-! ### ppm_number: function 22 -/
def ppm_number.l0 : Nat → ByteArray → Int → Int → Int → Option (Int × Bool)
  | 0, _, _, _, _ => none
  | k + 1, x0, x4, x7, x8 => if x8 < x7 then (if 0 ≤ x8 then (if x8 < (x0.size : Int) then (if (bt x0 x8) < 48 then (some (0, false)) else (if (bt x0 x8) > 57 then (some (0, false)) else (if x8 ≥ 6 then (some (0, false)) else (ppm_number.l0 k x0 (wrap64 ((wrap64 (10 * x4)) + (((bt x0 x8) - 48) % 256))) x7 (wrap64 (x8 + 1)))))) else (none)) else (none)) else (if x0.toList = ([] : List UInt8) then (some (x4, false)) else ((ppm_digits.f k x4).bind fun t101 => (some (x4, (t101.toList == x0.toList)))))
def ppm_number.f (k : Nat) (a0 : ByteArray) : Option (Int × Bool) := ppm_number.l0 k a0 0 (a0.size : Int) 0
theorem ppm_number.mono_l : ∀ k, (∀ y0 y1 y2 y3, LeO (ppm_number.l0 k y0 y1 y2 y3) (ppm_number.l0 (k + 1) y0 y1 y2 y3))
  | 0 => fun _ _ _ _ r h => by simp [ppm_number.l0] at h
  | k + 1 => by
    have ih0 := ppm_number.mono_l k
    · intro y0 y1 y2 y3
      unfold ppm_number.l0
      repeat' first
      | (with_reducible exact ih0 _ _ _ _)
      | (with_reducible exact ppm_digits.mono _ _)
      | (with_reducible exact LeO.refl _)
      | (with_reducible exact LeO.none _)
      | (with_reducible refine LeO.ite ?_ ?_)
      | (with_reducible refine LeO.bind ?_ (fun _ => ?_))
      | exact ih0 _ _ _ _
      | exact ppm_digits.mono _ _
      | exact LeO.none _
      | refine LeO.ite ?_ ?_
      | refine LeO.bind ?_ (fun _ => ?_)
theorem ppm_number.mono : ∀ a0 k, LeO (ppm_number.f k a0) (ppm_number.f (k + 1) a0) := by
  intro a0 k
  have ih0 := ppm_number.mono_l k
  unfold ppm_number.f
  repeat' first
      | (with_reducible exact ih0 _ _ _ _)
      | (with_reducible exact ppm_digits.mono _ _)
      | (with_reducible exact LeO.refl _)
      | (with_reducible exact LeO.none _)
      | (with_reducible refine LeO.ite ?_ ?_)
      | (with_reducible refine LeO.bind ?_ (fun _ => ?_))
      | exact ih0 _ _ _ _
      | exact ppm_digits.mono _ _
      | exact LeO.none _
      | refine LeO.ite ?_ ?_
      | refine LeO.bind ?_ (fun _ => ?_)
set_option maxHeartbeats 8000000 in
set_option maxRecDepth 100000 in
theorem ppm_number.calls (k : Nat) (a0 : ByteArray) (r1 : Int) (r2 : Bool) (w : World) (h : ppm_number.f k a0 = some (r1, r2)) :
    Calls Try.prog 22 #[.string a0] w fun e w' => e = .returned (.tuple #[.int .i64 r1, .bool r2]) ∧ Below w.heap.size w w' := by
  have HB := Aside0.mk (Below.refl w.heap.size w)
  have H : (ppm_number.l0 k a0 0 (a0.size : Int) 0) = some (r1, r2) := h
  clear h
  have H' := Aside0.mk H
  clear H
  go_enter Try.func22, Try.ntmps22
  go_wp2
  go_loopg [4, 8] k (fun kq v4 v8 w' => ∃ (x4_1 : Int) (x8_1 : Int), v4 = .int .i64 x4_1 ∧ v8 = .int .i64 x8_1 ∧ Aside0 (ppm_number.l0 kq a0 x4_1 (a0.size : Int) x8_1 = some (r1, r2)) ∧ Aside0 (kq ≤ k) ∧ Aside0 (Below w.heap.size w w'))
  case atStart => exact ⟨(0), (0), (by first | rfl | (simp; done) | (simp [*]; done)), (by first | rfl | (simp; done) | (simp [*]; done)), H', ⟨Nat.le_refl _⟩, ⟨by repeat (first | (with_reducible first | exact HB.out | apply below_alloc | apply pw_below_drewN | apply below_drew1) | exact HB.out)⟩⟩
  case round =>
    clear H'
    obtain ⟨x4_1, x8_1, rfl, rfl, HA, HK1, HB⟩ := hrel
    cases gk with
    | zero => exact absurd HA.out (by simp [ppm_number.l0])
    | succ k1 =>
      have H := HA.out
      clear HA
      simp only [ppm_number.l0] at H
      by_cases c2 : x8_1 < (a0.size : Int)
      · rw [if_pos c2] at H
        have c2b0 : decide (x8_1 < (a0.size : Int)) = true := decide_eq_true c2
        clear c2
        by_cases c3 : 0 ≤ x8_1
        · rw [if_pos c3] at H
          have c3b0 : decide (0 ≤ x8_1) = true := decide_eq_true c3
          clear c3
          by_cases c4 : x8_1 < (a0.size : Int)
          · rw [if_pos c4] at H
            have c4b0 : decide (x8_1 < (a0.size : Int)) = true := decide_eq_true c4
            clear c4
            by_cases c6 : (bt a0 x8_1) < 48
            · rw [if_pos c6] at H
              have c6b0 : decide ((bt a0 x8_1) < 48) = true := decide_eq_true c6
              clear c6
              simp only [Option.some.injEq, Prod.mk.injEq] at H
              obtain ⟨rfl, rfl⟩ := H
              have p5 : 0 ≤ (x8_1 : Int) := of_decide_eq_true (by first | (with_reducible assumption) | assumption)
              have q5 : x8_1 < (a0.size : Int) := of_decide_eq_true (by first | (with_reducible assumption) | assumption)
              have hx5 := bt_at a0 x8_1
              replace p5 := eq_true p5
              replace q5 := eq_true q5
              go_wp2
              go_ret2
              exact ⟨by first | rfl | (simp [errW_none, errW_some] <;> rfl) | (simp [*, errW_none, errW_some] <;> rfl), by repeat (first | (with_reducible first | exact HB.out | apply below_alloc | apply pw_below_drewN | apply below_drew1) | exact HB.out)⟩
            · rw [if_neg c6] at H
              have c6b0 : decide ((bt a0 x8_1) < 48) = false := decide_eq_false c6
              clear c6
              by_cases c8 : (bt a0 x8_1) > 57
              · rw [if_pos c8] at H
                have c8b0 : decide (57 < (bt a0 x8_1)) = true := decide_eq_true c8
                clear c8
                simp only [Option.some.injEq, Prod.mk.injEq] at H
                obtain ⟨rfl, rfl⟩ := H
                have p5 : 0 ≤ (x8_1 : Int) := of_decide_eq_true (by first | (with_reducible assumption) | assumption)
                have q5 : x8_1 < (a0.size : Int) := of_decide_eq_true (by first | (with_reducible assumption) | assumption)
                have hx5 := bt_at a0 x8_1
                replace p5 := eq_true p5
                replace q5 := eq_true q5
                have p7 : 0 ≤ (x8_1 : Int) := of_decide_eq_true (by first | (with_reducible assumption) | assumption)
                have q7 : x8_1 < (a0.size : Int) := of_decide_eq_true (by first | (with_reducible assumption) | assumption)
                have hx7 := bt_at a0 x8_1
                replace p7 := eq_true p7
                replace q7 := eq_true q7
                go_wp2
                go_ret2
                exact ⟨by first | rfl | (simp [errW_none, errW_some] <;> rfl) | (simp [*, errW_none, errW_some] <;> rfl), by repeat (first | (with_reducible first | exact HB.out | apply below_alloc | apply pw_below_drewN | apply below_drew1) | exact HB.out)⟩
              · rw [if_neg c8] at H
                have c8b0 : decide (57 < (bt a0 x8_1)) = false := decide_eq_false c8
                clear c8
                by_cases c9 : x8_1 ≥ 6
                · rw [if_pos c9] at H
                  have c9b0 : decide (6 ≤ x8_1) = true := decide_eq_true c9
                  clear c9
                  simp only [Option.some.injEq, Prod.mk.injEq] at H
                  obtain ⟨rfl, rfl⟩ := H
                  have p5 : 0 ≤ (x8_1 : Int) := of_decide_eq_true (by first | (with_reducible assumption) | assumption)
                  have q5 : x8_1 < (a0.size : Int) := of_decide_eq_true (by first | (with_reducible assumption) | assumption)
                  have hx5 := bt_at a0 x8_1
                  replace p5 := eq_true p5
                  replace q5 := eq_true q5
                  have p7 : 0 ≤ (x8_1 : Int) := of_decide_eq_true (by first | (with_reducible assumption) | assumption)
                  have q7 : x8_1 < (a0.size : Int) := of_decide_eq_true (by first | (with_reducible assumption) | assumption)
                  have hx7 := bt_at a0 x8_1
                  replace p7 := eq_true p7
                  replace q7 := eq_true q7
                  go_wp2
                  go_ret2
                  exact ⟨by first | rfl | (simp [errW_none, errW_some] <;> rfl) | (simp [*, errW_none, errW_some] <;> rfl), by repeat (first | (with_reducible first | exact HB.out | apply below_alloc | apply pw_below_drewN | apply below_drew1) | exact HB.out)⟩
                · rw [if_neg c9] at H
                  have c9b0 : decide (6 ≤ x8_1) = false := decide_eq_false c9
                  clear c9
                  have H' := Aside0.mk H
                  clear H
                  have p5 : 0 ≤ (x8_1 : Int) := of_decide_eq_true (by first | (with_reducible assumption) | assumption)
                  have q5 : x8_1 < (a0.size : Int) := of_decide_eq_true (by first | (with_reducible assumption) | assumption)
                  have hx5 := bt_at a0 x8_1
                  replace p5 := eq_true p5
                  replace q5 := eq_true q5
                  have p7 : 0 ≤ (x8_1 : Int) := of_decide_eq_true (by first | (with_reducible assumption) | assumption)
                  have q7 : x8_1 < (a0.size : Int) := of_decide_eq_true (by first | (with_reducible assumption) | assumption)
                  have hx7 := bt_at a0 x8_1
                  replace p7 := eq_true p7
                  replace q7 := eq_true q7
                  have p10 : 0 ≤ (x8_1 : Int) := of_decide_eq_true (by first | (with_reducible assumption) | assumption)
                  have q10 : x8_1 < (a0.size : Int) := of_decide_eq_true (by first | (with_reducible assumption) | assumption)
                  have hx10 := bt_at a0 x8_1
                  replace p10 := eq_true p10
                  replace q10 := eq_true q10
                  go_wp2
                  go_roundg k1
                  case measure => have := HK1.out; omega
                  case rel => exact ⟨(wrap64 ((wrap64 (10 * x4_1)) + (((bt a0 x8_1) - 48) % 256))), (wrap64 (x8_1 + 1)), (by first | rfl | (simp; done) | (simp [*]; done)), (by first | rfl | (simp; done) | (simp [*]; done)), H', ⟨by have := HK1.out; omega⟩, ⟨by repeat (first | (with_reducible first | exact HB.out | apply below_alloc | apply pw_below_drewN | apply below_drew1) | exact HB.out)⟩⟩
          · rw [if_neg c4] at H
            exact absurd H (by simp)
        · rw [if_neg c3] at H
          exact absurd H (by simp)
      · rw [if_neg c2] at H
        have c2b0 : decide (x8_1 < (a0.size : Int)) = false := decide_eq_false c2
        clear c2
        by_cases c11 : a0.toList = ([] : List UInt8)
        · rw [if_pos c11] at H
          have c11b0 : (a0.toList == ([] : List UInt8)) = true := beq_iff_eq.mpr c11
          have c11b1 : (a0.toList != ([] : List UInt8)) = false := bne_eq_false_iff_eq.mpr c11
          clear c11
          simp only [Option.some.injEq, Prod.mk.injEq] at H
          obtain ⟨rfl, rfl⟩ := H
          go_wp2
          go_ret2
          exact ⟨by first | rfl | (simp [errW_none, errW_some] <;> rfl) | (simp [*, errW_none, errW_some] <;> rfl), by repeat (first | (with_reducible first | exact HB.out | apply below_alloc | apply pw_below_drewN | apply below_drew1) | exact HB.out)⟩
        · rw [if_neg c11] at H
          have c11b0 : (a0.toList == ([] : List UInt8)) = false := beq_eq_false_iff_ne.mpr c11
          have c11b1 : (a0.toList != ([] : List UInt8)) = true := bne_iff_ne.mpr c11
          replace H := Option.bind_eq_some_iff.mp H
          obtain ⟨t101, A120, H⟩ := H
          replace H : (some (x4_1, (t101.toList == a0.toList))) = some (r1, r2) := H
          have A12 := Aside0.mk A120
          clear A120
          simp only [Option.some.injEq, Prod.mk.injEq] at H
          obtain ⟨rfl, rfl⟩ := H
          go_wp2_with (first | (go_at_call 18; (with_reducible refine (ppm_digits.calls k1 x4_1 t101 _ A12.out).mono ?_); rintro e w13 ⟨rfl, hb⟩; have n0_ := Aside0.mk (below_step (by repeat (first | (with_reducible first | exact HB.out | apply below_alloc | apply pw_below_drewN | apply below_drew1) | exact HB.out)) hb); clear HB; have HB := n0_; clear n0_; (try clear hb); (try clear hb2); (try clear hk); (try clear hi)))
          go_ret2
          exact ⟨by first | rfl | (simp [errW_none, errW_some] <;> rfl) | (simp [*, errW_none, errW_some] <;> rfl), by repeat (first | (with_reducible first | exact HB.out | apply below_alloc | apply pw_below_drewN | apply below_drew1) | exact HB.out)⟩

/-! ### penumbraref44_Check: function 9 -/
def penumbraref44_Check.j0 : Nat → Int → Int → List Int → Bool → Option (Int)
  | 0, _, _, _, _ => none
  | k + 1, x0, x1, x2, x20 => if x20 = true then (some 12) else (if (wrap64 (x0 * x1)) > 65536 then (some 4) else (if (x2.length : Int) = (wrap64 ((wrap64 (3 * x0)) * x1)) then (some 0) else (some 14)))
def penumbraref44_Check.f (k : Nat) (a0 : Int) (a1 : Int) (l2 : List Int) : Option (Int) := if a0 < 1 then (penumbraref44_Check.j0 k a0 a1 l2 true) else (if a1 < 1 then (penumbraref44_Check.j0 k a0 a1 l2 true) else (if a0 > 8192 then (penumbraref44_Check.j0 k a0 a1 l2 true) else (penumbraref44_Check.j0 k a0 a1 l2 (decide (a1 > 8192)))))
theorem penumbraref44_Check.mono_l : ∀ k, (∀ y0 y1 y2 y3, LeO (penumbraref44_Check.j0 k y0 y1 y2 y3) (penumbraref44_Check.j0 (k + 1) y0 y1 y2 y3))
  | 0 => fun _ _ _ _ r h => by simp [penumbraref44_Check.j0] at h
  | k + 1 => by
    have ih0 := penumbraref44_Check.mono_l k
    · intro y0 y1 y2 y3
      unfold penumbraref44_Check.j0
      repeat' first
      | (with_reducible exact ih0 _ _ _ _)
      | (with_reducible exact LeO.refl _)
      | (with_reducible exact LeO.none _)
      | (with_reducible refine LeO.ite ?_ ?_)
      | (with_reducible refine LeO.bind ?_ (fun _ => ?_))
      | exact ih0 _ _ _ _
      | exact LeO.none _
      | refine LeO.ite ?_ ?_
      | refine LeO.bind ?_ (fun _ => ?_)
theorem penumbraref44_Check.mono : ∀ a0 a1 a2 k, LeO (penumbraref44_Check.f k a0 a1 a2) (penumbraref44_Check.f (k + 1) a0 a1 a2) := by
  intro a0 a1 a2 k
  have ih0 := penumbraref44_Check.mono_l k
  unfold penumbraref44_Check.f
  repeat' first
      | (with_reducible exact ih0 _ _ _ _)
      | (with_reducible exact LeO.refl _)
      | (with_reducible exact LeO.none _)
      | (with_reducible refine LeO.ite ?_ ?_)
      | (with_reducible refine LeO.bind ?_ (fun _ => ?_))
      | exact ih0 _ _ _ _
      | exact LeO.none _
      | refine LeO.ite ?_ ?_
      | refine LeO.bind ?_ (fun _ => ?_)
set_option maxHeartbeats 8000000 in
set_option maxRecDepth 100000 in
theorem penumbraref44_Check.calls (k : Nat) (a0 : Int) (a1 : Int) (A2 : Option Addr) (c2 : Nat) (l2 : List Int) (r : Int) (w : World) (hr2 : Kd.C (Kd.int .u8) w A2 l2.length l2) (hc2 : l2.length ≤ c2) (h : penumbraref44_Check.f k a0 a1 l2 = some r) :
    Calls Try.prog 9 #[.int .i64 a0, .int .i64 a1, .slice A2 l2.length c2] w fun e w' => e = .returned (.int .i64 r) ∧ Drawn0 w w' := by
  have HR2 := Aside0.mk hr2
  have HC2 := Aside0.mk hc2
  clear hr2 hc2
  have H : (if a0 < 1 then (penumbraref44_Check.j0 k a0 a1 l2 true) else (if a1 < 1 then (penumbraref44_Check.j0 k a0 a1 l2 true) else (if a0 > 8192 then (penumbraref44_Check.j0 k a0 a1 l2 true) else (penumbraref44_Check.j0 k a0 a1 l2 (decide (a1 > 8192)))))) = some r := h
  clear h
  have HC4 := Aside0.mk H
  clear H
  go_enter Try.func9, Try.ntmps9
  go_upto_region 1 with (fail)
  go_cut [20] (fun v20 wc => ∃ (kq : Nat) (x20_3 : Bool), v20 = .bool x20_3 ∧ Aside0 (penumbraref44_Check.j0 kq a0 a1 l2 x20_3 = some r) ∧ Aside0 (kq ≤ k) ∧ Drawn0 w wc)
  case first =>
    have H := HC4.out
    clear HC4
    by_cases c5 : a0 < 1
    · rw [if_pos c5] at H
      have c5b0 : decide (a0 < 1) = true := decide_eq_true c5
      clear c5
      (first | rw [c5b0] | (simp only [i64_w, i32_w]; rw [c5b0]) | skip)
      have H' := Aside0.mk H
      clear H
      go_wp2
      go_meet
      case rel => exact ⟨_, (true), (by first | rfl | (simp; done) | (simp [*]; done)), H', ⟨by first | omega | exact Nat.le_refl _⟩, by repeat (first | exact Drawn0.refl _ | apply Drawn0.step)⟩
    · rw [if_neg c5] at H
      have c5b0 : decide (a0 < 1) = false := decide_eq_false c5
      clear c5
      (first | rw [c5b0] | (simp only [i64_w, i32_w]; rw [c5b0]) | skip)
      by_cases c6 : a1 < 1
      · rw [if_pos c6] at H
        have c6b0 : decide (a1 < 1) = true := decide_eq_true c6
        clear c6
        have H' := Aside0.mk H
        clear H
        go_wp2
        go_meet
        case rel => exact ⟨_, (true), (by first | rfl | (simp; done) | (simp [*]; done)), H', ⟨by first | omega | exact Nat.le_refl _⟩, by repeat (first | exact Drawn0.refl _ | apply Drawn0.step)⟩
      · rw [if_neg c6] at H
        have c6b0 : decide (a1 < 1) = false := decide_eq_false c6
        clear c6
        by_cases c7 : a0 > 8192
        · rw [if_pos c7] at H
          have c7b0 : decide (8192 < a0) = true := decide_eq_true c7
          clear c7
          have H' := Aside0.mk H
          clear H
          go_wp2
          go_meet
          case rel => exact ⟨_, (true), (by first | rfl | (simp; done) | (simp [*]; done)), H', ⟨by first | omega | exact Nat.le_refl _⟩, by repeat (first | exact Drawn0.refl _ | apply Drawn0.step)⟩
        · rw [if_neg c7] at H
          have c7b0 : decide (8192 < a0) = false := decide_eq_false c7
          clear c7
          have H' := Aside0.mk H
          clear H
          go_wp2
          go_meet
          case rel => exact ⟨_, (decide (a1 > 8192)), (by first | rfl | (simp; done) | (simp [*]; done)), H', ⟨by first | omega | exact Nat.le_refl _⟩, by repeat (first | exact Drawn0.refl _ | apply Drawn0.step)⟩
  case rest =>
    clear HC4
    try clear c2
    try clear p2
    try clear c5
    try clear c5b0
    try clear c6
    try clear c6b0
    try clear c7
    try clear c7b0
    obtain ⟨kq, x20_3, rfl, HA, HJ3, ⟨mc3, rfl⟩⟩ := hcut
    cases kq with
    | zero => exact absurd HA.out (by simp [penumbraref44_Check.j0])
    | succ kj3 =>
      have H := HA.out
      clear HA
      simp only [penumbraref44_Check.j0] at H
      by_cases c8 : x20_3 = true
      · subst c8
        have H1 : (some 12) = some r := by rw [if_pos rfl] at H; exact H
        clear H
        have H := H1
        clear H1
        obtain rfl := Option.some.inj H
        go_wp2
        go_ret
        exact ⟨by first | rfl | (simp; done) | (simp [*]; done), by repeat (first | exact Drawn0.refl _ | apply Drawn0.step)⟩
      · replace c8 := Bool.eq_false_iff.mpr c8
        subst c8
        have H1 : (if (wrap64 (a0 * a1)) > 65536 then (some 4) else (if (l2.length : Int) = (wrap64 ((wrap64 (3 * a0)) * a1)) then (some 0) else (some 14))) = some r := by rw [if_neg (show ¬ (false = true) by decide)] at H; exact H
        clear H
        have H := H1
        clear H1
        by_cases c9 : (wrap64 (a0 * a1)) > 65536
        · rw [if_pos c9] at H
          have c9b0 : decide (65536 < (wrap64 (a0 * a1))) = true := decide_eq_true c9
          clear c9
          obtain rfl := Option.some.inj H
          go_wp2
          go_ret
          exact ⟨by first | rfl | (simp; done) | (simp [*]; done), by repeat (first | exact Drawn0.refl _ | apply Drawn0.step)⟩
        · rw [if_neg c9] at H
          have c9b0 : decide (65536 < (wrap64 (a0 * a1))) = false := decide_eq_false c9
          clear c9
          by_cases c10 : (l2.length : Int) = (wrap64 ((wrap64 (3 * a0)) * a1))
          · rw [if_pos c10] at H
            have c10b0 : ((l2.length : Int) == (wrap64 ((wrap64 (3 * a0)) * a1))) = true := beq_iff_eq.mpr c10
            have c10b1 : ((l2.length : Int) != (wrap64 ((wrap64 (3 * a0)) * a1))) = false := bne_eq_false_iff_eq.mpr c10
            clear c10
            obtain rfl := Option.some.inj H
            go_wp2
            go_ret
            exact ⟨by first | rfl | (simp; done) | (simp [*]; done), by repeat (first | exact Drawn0.refl _ | apply Drawn0.step)⟩
          · rw [if_neg c10] at H
            have c10b0 : ((l2.length : Int) == (wrap64 ((wrap64 (3 * a0)) * a1))) = false := beq_eq_false_iff_ne.mpr c10
            have c10b1 : ((l2.length : Int) != (wrap64 ((wrap64 (3 * a0)) * a1))) = true := bne_iff_ne.mpr c10
            obtain rfl := Option.some.inj H
            go_wp2
            go_ret
            exact ⟨by first | rfl | (simp; done) | (simp [*]; done), by repeat (first | exact Drawn0.refl _ | apply Drawn0.step)⟩

/-! ### penumbraref23_Digits: function 19 -/
def penumbraref23_Digits.f : Nat → Int → Option (ByteArray)
  | 0, _ => none
  | k + 1, a0 => if a0 < 10 then (if 0 ≤ a0 then (if a0 ≤ (wrap64 (a0 + 1)) then (if (wrap64 (a0 + 1)) ≤ 10 then (some ((⟨#[48, 49, 50, 51, 52, 53, 54, 55, 56, 57]⟩ : ByteArray).extract (a0 : Int).toNat ((wrap64 (a0 + 1)) : Int).toNat)) else (none)) else (none)) else (none)) else ((penumbraref23_Digits.f k (wrap64 (Int.tdiv a0 10))).bind fun t101 => ((penumbraref23_Digits.f k (Int.tmod a0 10)).bind fun t102 => (if t101.size + t102.size ≤ 9223372036854775807 then (some (t101 ++ t102)) else (none))))
theorem penumbraref23_Digits.mono_l : ∀ k, (∀ y0, LeO (penumbraref23_Digits.f k y0) (penumbraref23_Digits.f (k + 1) y0))
  | 0 => fun _ r h => by simp [penumbraref23_Digits.f] at h
  | k + 1 => by
    have ih0 := penumbraref23_Digits.mono_l k
    · intro y0
      unfold penumbraref23_Digits.f
      repeat' first
      | (with_reducible exact ih0 _)
      | (with_reducible exact LeO.refl _)
      | (with_reducible exact LeO.none _)
      | (with_reducible refine LeO.ite ?_ ?_)
      | (with_reducible refine LeO.bind ?_ (fun _ => ?_))
      | exact ih0 _
      | exact LeO.none _
      | refine LeO.ite ?_ ?_
      | refine LeO.bind ?_ (fun _ => ?_)
theorem penumbraref23_Digits.mono : ∀ a0 k, LeO (penumbraref23_Digits.f k a0) (penumbraref23_Digits.f (k + 1) a0) := by
  intro a0 k
  have ih0 := penumbraref23_Digits.mono_l k
  exact ih0 a0
set_option maxHeartbeats 8000000 in
set_option maxRecDepth 100000 in
theorem penumbraref23_Digits.calls (k : Nat) : ∀ (a0 : Int) (r : ByteArray) (w : World) (h : penumbraref23_Digits.f k a0 = some r),
    Calls Try.prog 19 #[.int .i64 a0] w fun e w' => e = .returned (.string r) ∧ Drawn0 w w' := by
  induction k using Nat.strongRecOn with
  | _ k ih =>
  intro a0 r w h
  cases k with
  | zero => exact absurd h (by simp [penumbraref23_Digits.f])
  | succ k =>
  simp only [penumbraref23_Digits.f] at h
  have H : (if a0 < 10 then (if 0 ≤ a0 then (if a0 ≤ (wrap64 (a0 + 1)) then (if (wrap64 (a0 + 1)) ≤ 10 then (some ((⟨#[48, 49, 50, 51, 52, 53, 54, 55, 56, 57]⟩ : ByteArray).extract (a0 : Int).toNat ((wrap64 (a0 + 1)) : Int).toNat)) else (none)) else (none)) else (none)) else ((penumbraref23_Digits.f k (wrap64 (Int.tdiv a0 10))).bind fun t101 => ((penumbraref23_Digits.f k (Int.tmod a0 10)).bind fun t102 => (if t101.size + t102.size ≤ 9223372036854775807 then (some (t101 ++ t102)) else (none))))) = some r := h
  clear h
  by_cases c2 : a0 < 10
  · rw [if_pos c2] at H
    have c2b0 : decide (a0 < 10) = true := decide_eq_true c2
    clear c2
    by_cases c3 : 0 ≤ a0
    · rw [if_pos c3] at H
      have c3b0 := eq_true c3
      have c3b1 : decide (0 ≤ a0) = true := decide_eq_true c3
      clear c3
      by_cases c4 : a0 ≤ (wrap64 (a0 + 1))
      · rw [if_pos c4] at H
        have c4b0 := eq_true c4
        have c4b1 : decide (a0 ≤ (wrap64 (a0 + 1))) = true := decide_eq_true c4
        by_cases c5 : (wrap64 (a0 + 1)) ≤ 10
        · rw [if_pos c5] at H
          have c5b0 := eq_true c5
          have c5b1 : decide ((wrap64 (a0 + 1)) ≤ 10) = true := decide_eq_true c5
          obtain rfl := Option.some.inj H
          go_enter Try.func19, Try.ntmps19
          go_wp2
          go_ret
          exact ⟨by first | rfl | (simp; done) | (simp [*]; done), by repeat (first | exact Drawn0.refl _ | apply Drawn0.step)⟩
        · rw [if_neg c5] at H
          exact absurd H (by simp)
      · rw [if_neg c4] at H
        exact absurd H (by simp)
    · rw [if_neg c3] at H
      exact absurd H (by simp)
  · rw [if_neg c2] at H
    have c2b0 : decide (a0 < 10) = false := decide_eq_false c2
    clear c2
    replace H := Option.bind_eq_some_iff.mp H
    obtain ⟨t101, A60, H⟩ := H
    replace H : ((penumbraref23_Digits.f k (Int.tmod a0 10)).bind fun t102 => (if t101.size + t102.size ≤ 9223372036854775807 then (some (t101 ++ t102)) else (none))) = some r := H
    have A6 := Aside0.mk A60
    clear A60
    replace H := Option.bind_eq_some_iff.mp H
    obtain ⟨t102, A70, H⟩ := H
    replace H : (if t101.size + t102.size ≤ 9223372036854775807 then (some (t101 ++ t102)) else (none)) = some r := H
    have A7 := Aside0.mk A70
    clear A70
    by_cases c8 : t101.size + t102.size ≤ 9223372036854775807
    · rw [if_pos c8] at H
      have c8b0 := eq_true c8
      have c8b1 : decide (t101.size + t102.size ≤ 9223372036854775807) = true := decide_eq_true c8
      try have c8b2 : (9223372036854775807 < t101.size + t102.size) = False := eq_false (Nat.not_lt.2 c8)
      obtain rfl := Option.some.inj H
      go_enter Try.func19, Try.ntmps19
      go_wp2_with (first | ((with_reducible refine gate_callee (f := 19) rfl ?_); refine goesL_ (some 11) rfl rfl Try.func19 (by kernel_rfl) rfl #[.int .i64 (wrap64 (Int.tdiv a0 10))] rfl (by (try simp only [List.map_toArray, List.map_cons, List.map_nil]); first | done | rfl | (simp only [List.length_drop, List.length_take]; rfl)) ?_; (with_reducible refine (ih k (by omega) (wrap64 (Int.tdiv a0 10)) t101 _ A6.out).mono ?_); rintro e w' ⟨rfl, ⟨nd, rfl⟩⟩; refine ⟨_, rfl, ?_⟩) | ((with_reducible refine gate_callee (f := 19) rfl ?_); refine goesL_ (some 14) rfl rfl Try.func19 (by kernel_rfl) rfl #[.int .i64 (Int.tmod a0 10)] rfl (by (try simp only [List.map_toArray, List.map_cons, List.map_nil]); first | done | rfl | (simp only [List.length_drop, List.length_take]; rfl)) ?_; (with_reducible refine (ih k (by omega) (Int.tmod a0 10) t102 _ A7.out).mono ?_); rintro e w' ⟨rfl, ⟨nd, rfl⟩⟩; refine ⟨_, rfl, ?_⟩))
      go_ret
      exact ⟨by first | rfl | (simp; done) | (simp [*]; done), by repeat (first | exact Drawn0.refl _ | apply Drawn0.step)⟩
    · rw [if_neg c8] at H
      exact absurd H (by simp)

/-! ### penumbraref44_Encode: function 10 -/
def penumbraref44_Encode.f (k : Nat) (a0 : Int) (a1 : Int) (l2 : List Int) : Option (ByteArray) := (penumbraref23_Digits.f k a0).bind fun t101 => (if 3 + t101.size ≤ 9223372036854775807 then (if ((⟨#[80, 54, 10]⟩ : ByteArray) ++ t101).size + 1 ≤ 9223372036854775807 then ((penumbraref23_Digits.f k a1).bind fun t102 => (if (((⟨#[80, 54, 10]⟩ : ByteArray) ++ t101) ++ (⟨#[32]⟩ : ByteArray)).size + t102.size ≤ 9223372036854775807 then (if ((((⟨#[80, 54, 10]⟩ : ByteArray) ++ t101) ++ (⟨#[32]⟩ : ByteArray)) ++ t102).size + 5 ≤ 9223372036854775807 then (if (((((⟨#[80, 54, 10]⟩ : ByteArray) ++ t101) ++ (⟨#[32]⟩ : ByteArray)) ++ t102) ++ (⟨#[10, 50, 53, 53, 10]⟩ : ByteArray)).size + (strOfNums l2).size ≤ 9223372036854775807 then (some ((((((⟨#[80, 54, 10]⟩ : ByteArray) ++ t101) ++ (⟨#[32]⟩ : ByteArray)) ++ t102) ++ (⟨#[10, 50, 53, 53, 10]⟩ : ByteArray)) ++ (strOfNums l2))) else (none)) else (none)) else (none))) else (none)) else (none))
theorem penumbraref44_Encode.mono : ∀ a0 a1 a2 k, LeO (penumbraref44_Encode.f k a0 a1 a2) (penumbraref44_Encode.f (k + 1) a0 a1 a2) := by
  intro a0 a1 a2 k
  unfold penumbraref44_Encode.f
  repeat' first
      | (with_reducible exact penumbraref23_Digits.mono _ _)
      | (with_reducible exact LeO.refl _)
      | (with_reducible exact LeO.none _)
      | (with_reducible refine LeO.ite ?_ ?_)
      | (with_reducible refine LeO.bind ?_ (fun _ => ?_))
      | exact penumbraref23_Digits.mono _ _
      | exact LeO.none _
      | refine LeO.ite ?_ ?_
      | refine LeO.bind ?_ (fun _ => ?_)
set_option maxHeartbeats 8000000 in
set_option maxRecDepth 100000 in
theorem penumbraref44_Encode.calls (k : Nat) (a0 : Int) (a1 : Int) (A2 : Option Addr) (c2 : Nat) (l2 : List Int) (r : ByteArray) (w : World) (hr2 : Kd.C (Kd.int .u8) w A2 l2.length l2) (hc2 : l2.length ≤ c2) (h : penumbraref44_Encode.f k a0 a1 l2 = some r) :
    Calls Try.prog 10 #[.int .i64 a0, .int .i64 a1, .slice A2 l2.length c2] w fun e w' => e = .returned (.string r) ∧ Drawn0 w w' := by
  have HR2 := Aside0.mk hr2
  have HC2 := Aside0.mk hc2
  clear hr2 hc2
  have H : ((penumbraref23_Digits.f k a0).bind fun t101 => (if 3 + t101.size ≤ 9223372036854775807 then (if ((⟨#[80, 54, 10]⟩ : ByteArray) ++ t101).size + 1 ≤ 9223372036854775807 then ((penumbraref23_Digits.f k a1).bind fun t102 => (if (((⟨#[80, 54, 10]⟩ : ByteArray) ++ t101) ++ (⟨#[32]⟩ : ByteArray)).size + t102.size ≤ 9223372036854775807 then (if ((((⟨#[80, 54, 10]⟩ : ByteArray) ++ t101) ++ (⟨#[32]⟩ : ByteArray)) ++ t102).size + 5 ≤ 9223372036854775807 then (if (((((⟨#[80, 54, 10]⟩ : ByteArray) ++ t101) ++ (⟨#[32]⟩ : ByteArray)) ++ t102) ++ (⟨#[10, 50, 53, 53, 10]⟩ : ByteArray)).size + (strOfNums l2).size ≤ 9223372036854775807 then (some ((((((⟨#[80, 54, 10]⟩ : ByteArray) ++ t101) ++ (⟨#[32]⟩ : ByteArray)) ++ t102) ++ (⟨#[10, 50, 53, 53, 10]⟩ : ByteArray)) ++ (strOfNums l2))) else (none)) else (none)) else (none))) else (none)) else (none))) = some r := h
  clear h
  replace H := Option.bind_eq_some_iff.mp H
  obtain ⟨t101, A40, H⟩ := H
  replace H : (if 3 + t101.size ≤ 9223372036854775807 then (if ((⟨#[80, 54, 10]⟩ : ByteArray) ++ t101).size + 1 ≤ 9223372036854775807 then ((penumbraref23_Digits.f k a1).bind fun t102 => (if (((⟨#[80, 54, 10]⟩ : ByteArray) ++ t101) ++ (⟨#[32]⟩ : ByteArray)).size + t102.size ≤ 9223372036854775807 then (if ((((⟨#[80, 54, 10]⟩ : ByteArray) ++ t101) ++ (⟨#[32]⟩ : ByteArray)) ++ t102).size + 5 ≤ 9223372036854775807 then (if (((((⟨#[80, 54, 10]⟩ : ByteArray) ++ t101) ++ (⟨#[32]⟩ : ByteArray)) ++ t102) ++ (⟨#[10, 50, 53, 53, 10]⟩ : ByteArray)).size + (strOfNums l2).size ≤ 9223372036854775807 then (some ((((((⟨#[80, 54, 10]⟩ : ByteArray) ++ t101) ++ (⟨#[32]⟩ : ByteArray)) ++ t102) ++ (⟨#[10, 50, 53, 53, 10]⟩ : ByteArray)) ++ (strOfNums l2))) else (none)) else (none)) else (none))) else (none)) else (none)) = some r := H
  have A4 := Aside0.mk A40
  clear A40
  by_cases c5 : 3 + t101.size ≤ 9223372036854775807
  · rw [if_pos c5] at H
    have c5b0 := eq_true c5
    have c5b1 : decide (3 + t101.size ≤ 9223372036854775807) = true := decide_eq_true c5
    try have c5b2 : (9223372036854775807 < 3 + t101.size) = False := eq_false (Nat.not_lt.2 c5)
    by_cases c6 : ((⟨#[80, 54, 10]⟩ : ByteArray) ++ t101).size + 1 ≤ 9223372036854775807
    · rw [if_pos c6] at H
      have c6b0 := eq_true c6
      have c6b1 : decide (((⟨#[80, 54, 10]⟩ : ByteArray) ++ t101).size + 1 ≤ 9223372036854775807) = true := decide_eq_true c6
      try have c6b2 : (9223372036854775807 < ((⟨#[80, 54, 10]⟩ : ByteArray) ++ t101).size + 1) = False := eq_false (Nat.not_lt.2 c6)
      replace H := Option.bind_eq_some_iff.mp H
      obtain ⟨t102, A70, H⟩ := H
      replace H : (if (((⟨#[80, 54, 10]⟩ : ByteArray) ++ t101) ++ (⟨#[32]⟩ : ByteArray)).size + t102.size ≤ 9223372036854775807 then (if ((((⟨#[80, 54, 10]⟩ : ByteArray) ++ t101) ++ (⟨#[32]⟩ : ByteArray)) ++ t102).size + 5 ≤ 9223372036854775807 then (if (((((⟨#[80, 54, 10]⟩ : ByteArray) ++ t101) ++ (⟨#[32]⟩ : ByteArray)) ++ t102) ++ (⟨#[10, 50, 53, 53, 10]⟩ : ByteArray)).size + (strOfNums l2).size ≤ 9223372036854775807 then (some ((((((⟨#[80, 54, 10]⟩ : ByteArray) ++ t101) ++ (⟨#[32]⟩ : ByteArray)) ++ t102) ++ (⟨#[10, 50, 53, 53, 10]⟩ : ByteArray)) ++ (strOfNums l2))) else (none)) else (none)) else (none)) = some r := H
      have A7 := Aside0.mk A70
      clear A70
      by_cases c8 : (((⟨#[80, 54, 10]⟩ : ByteArray) ++ t101) ++ (⟨#[32]⟩ : ByteArray)).size + t102.size ≤ 9223372036854775807
      · rw [if_pos c8] at H
        have c8b0 := eq_true c8
        have c8b1 : decide ((((⟨#[80, 54, 10]⟩ : ByteArray) ++ t101) ++ (⟨#[32]⟩ : ByteArray)).size + t102.size ≤ 9223372036854775807) = true := decide_eq_true c8
        try have c8b2 : (9223372036854775807 < (((⟨#[80, 54, 10]⟩ : ByteArray) ++ t101) ++ (⟨#[32]⟩ : ByteArray)).size + t102.size) = False := eq_false (Nat.not_lt.2 c8)
        by_cases c9 : ((((⟨#[80, 54, 10]⟩ : ByteArray) ++ t101) ++ (⟨#[32]⟩ : ByteArray)) ++ t102).size + 5 ≤ 9223372036854775807
        · rw [if_pos c9] at H
          have c9b0 := eq_true c9
          have c9b1 : decide (((((⟨#[80, 54, 10]⟩ : ByteArray) ++ t101) ++ (⟨#[32]⟩ : ByteArray)) ++ t102).size + 5 ≤ 9223372036854775807) = true := decide_eq_true c9
          try have c9b2 : (9223372036854775807 < ((((⟨#[80, 54, 10]⟩ : ByteArray) ++ t101) ++ (⟨#[32]⟩ : ByteArray)) ++ t102).size + 5) = False := eq_false (Nat.not_lt.2 c9)
          by_cases c10 : (((((⟨#[80, 54, 10]⟩ : ByteArray) ++ t101) ++ (⟨#[32]⟩ : ByteArray)) ++ t102) ++ (⟨#[10, 50, 53, 53, 10]⟩ : ByteArray)).size + (strOfNums l2).size ≤ 9223372036854775807
          · rw [if_pos c10] at H
            have c10b0 := eq_true c10
            have c10b1 : decide ((((((⟨#[80, 54, 10]⟩ : ByteArray) ++ t101) ++ (⟨#[32]⟩ : ByteArray)) ++ t102) ++ (⟨#[10, 50, 53, 53, 10]⟩ : ByteArray)).size + (strOfNums l2).size ≤ 9223372036854775807) = true := decide_eq_true c10
            try have c10b2 : (9223372036854775807 < (((((⟨#[80, 54, 10]⟩ : ByteArray) ++ t101) ++ (⟨#[32]⟩ : ByteArray)) ++ t102) ++ (⟨#[10, 50, 53, 53, 10]⟩ : ByteArray)).size + (strOfNums l2).size) = False := eq_false (Nat.not_lt.2 c10)
            have jz_ : 3 + t101.size + 1 + t102.size + 5 + (strOfNums l2).size ≤ 9223372036854775807 := by (have jy_ := c10; simp only [ByteArray.size_append] at jy_; exact jy_)
            have jm2_ : (9223372036854775807 < 3 + t101.size) = False := eq_false (by omega)
            have jm3_ : (9223372036854775807 < 3 + t101.size + 1) = False := eq_false (by omega)
            have jm4_ : (9223372036854775807 < 3 + t101.size + 1 + t102.size) = False := eq_false (by omega)
            have jm5_ : (9223372036854775807 < 3 + t101.size + 1 + t102.size + 5) = False := eq_false (by omega)
            have jm6_ : (9223372036854775807 < 3 + t101.size + 1 + t102.size + 5 + (strOfNums l2).size) = False := eq_false (by omega)
            have jl_ : (9223372036854775807 < 3 + t101.size + 1 + t102.size + 5 + l2.length) = False := eq_false (by (rw [strOfNums_size] at jz_; omega))
            have hcvq_ : ∀ n_ : Nat, (convert 22 9 (.slice A2 l2.length c2)).run Try.prog (w.drewN n_) = .ok (.string (strOfNums l2)) (w.drewN n_) := fun n_ => Kd.C_string (P := Try.prog) (A := A2) (c := c2) Try.underlying22 Try.underlying5 Try.underlying9 (Kd.C_below HR2.out (pw_below_drewN (Below.refl w.heap.size w) n_))
            obtain rfl := Option.some.inj H
            go_enter Try.func10, Try.ntmps10
            go_wp2_with (first | (go_at_call 19; (with_reducible refine (penumbraref23_Digits.calls k a0 t101 _ A4.out).mono ?_); rintro e w' ⟨rfl, ⟨nd, rfl⟩⟩; (try first | exact ⟨rfl, _, World.drewN_drewN _ _ _⟩ | exact ⟨rfl, _, Eq.trans (World.drewN_drewN _ _ _) (congrArg (World.drewN _) (Nat.add_assoc _ _ _))⟩)) | (go_at_call 19; (with_reducible refine (penumbraref23_Digits.calls k a1 t102 _ A7.out).mono ?_); rintro e w' ⟨rfl, ⟨nd, rfl⟩⟩; (try first | exact ⟨rfl, _, World.drewN_drewN _ _ _⟩ | exact ⟨rfl, _, Eq.trans (World.drewN_drewN _ _ _) (congrArg (World.drewN _) (Nat.add_assoc _ _ _))⟩); have hcv11 := Kd.C_string (P := Try.prog) (A := A2) (c := c2) Try.underlying22 Try.underlying5 Try.underlying9 HR2.out))
            repeat (go_quiet (first | (go_at_call 19; (with_reducible refine (penumbraref23_Digits.calls k a0 t101 _ A4.out).mono ?_); rintro e w' ⟨rfl, ⟨nd, rfl⟩⟩; (try first | exact ⟨rfl, _, World.drewN_drewN _ _ _⟩ | exact ⟨rfl, _, Eq.trans (World.drewN_drewN _ _ _) (congrArg (World.drewN _) (Nat.add_assoc _ _ _))⟩)) | (go_at_call 19; (with_reducible refine (penumbraref23_Digits.calls k a1 t102 _ A7.out).mono ?_); rintro e w' ⟨rfl, ⟨nd, rfl⟩⟩; (try first | exact ⟨rfl, _, World.drewN_drewN _ _ _⟩ | exact ⟨rfl, _, Eq.trans (World.drewN_drewN _ _ _) (congrArg (World.drewN _) (Nat.add_assoc _ _ _))⟩); have hcv11 := Kd.C_string (P := Try.prog) (A := A2) (c := c2) Try.underlying22 Try.underlying5 Try.underlying9 HR2.out)); try go_wp2_with (first | (go_at_call 19; (with_reducible refine (penumbraref23_Digits.calls k a0 t101 _ A4.out).mono ?_); rintro e w' ⟨rfl, ⟨nd, rfl⟩⟩; (try first | exact ⟨rfl, _, World.drewN_drewN _ _ _⟩ | exact ⟨rfl, _, Eq.trans (World.drewN_drewN _ _ _) (congrArg (World.drewN _) (Nat.add_assoc _ _ _))⟩)) | (go_at_call 19; (with_reducible refine (penumbraref23_Digits.calls k a1 t102 _ A7.out).mono ?_); rintro e w' ⟨rfl, ⟨nd, rfl⟩⟩; (try first | exact ⟨rfl, _, World.drewN_drewN _ _ _⟩ | exact ⟨rfl, _, Eq.trans (World.drewN_drewN _ _ _) (congrArg (World.drewN _) (Nat.add_assoc _ _ _))⟩); have hcv11 := Kd.C_string (P := Try.prog) (A := A2) (c := c2) Try.underlying22 Try.underlying5 Try.underlying9 HR2.out)))
            go_ret
            exact ⟨by first | rfl | (simp; done) | (simp [*]; done), by repeat (first | exact Drawn0.refl _ | apply Drawn0.step)⟩
          · rw [if_neg c10] at H
            exact absurd H (by simp)
        · rw [if_neg c9] at H
          exact absurd H (by simp)
      · rw [if_neg c8] at H
        exact absurd H (by simp)
    · rw [if_neg c6] at H
      exact absurd H (by simp)
  · rw [if_neg c5] at H
    exact absurd H (by simp)

/-! ### penumbraref44_Next: function 23 -/
def penumbraref44_Next.l0 : Nat → ByteArray → Int → Int → Int → Option (ByteArray × Int)
  | 0, _, _, _, _ => none
  | k + 1, x0, x1, x2, x8 => if x8 < (x0.size : Int) then (if 0 ≤ x8 then (if (bt x0 x8) = x2 then (if 0 ≤ x1 then (if x1 ≤ x8 then (if x8 ≤ (x0.size : Int) then (some (x0.extract (x1 : Int).toNat (x8 : Int).toNat, wrap64 (x8 + 1))) else (none)) else (none)) else (none)) else (penumbraref44_Next.l0 k x0 x1 x2 (wrap64 (x8 + 1)))) else (none)) else (some ((⟨#[]⟩ : ByteArray), (-1)))
def penumbraref44_Next.f (k : Nat) (a0 : ByteArray) (a1 : Int) (a2 : Int) : Option (ByteArray × Int) := penumbraref44_Next.l0 k a0 a1 a2 a1
theorem penumbraref44_Next.mono_l : ∀ k, (∀ y0 y1 y2 y3, LeO (penumbraref44_Next.l0 k y0 y1 y2 y3) (penumbraref44_Next.l0 (k + 1) y0 y1 y2 y3))
  | 0 => fun _ _ _ _ r h => by simp [penumbraref44_Next.l0] at h
  | k + 1 => by
    have ih0 := penumbraref44_Next.mono_l k
    · intro y0 y1 y2 y3
      unfold penumbraref44_Next.l0
      repeat' first
      | (with_reducible exact ih0 _ _ _ _)
      | (with_reducible exact LeO.refl _)
      | (with_reducible exact LeO.none _)
      | (with_reducible refine LeO.ite ?_ ?_)
      | (with_reducible refine LeO.bind ?_ (fun _ => ?_))
      | exact ih0 _ _ _ _
      | exact LeO.none _
      | refine LeO.ite ?_ ?_
      | refine LeO.bind ?_ (fun _ => ?_)
theorem penumbraref44_Next.mono : ∀ a0 a1 a2 k, LeO (penumbraref44_Next.f k a0 a1 a2) (penumbraref44_Next.f (k + 1) a0 a1 a2) := by
  intro a0 a1 a2 k
  have ih0 := penumbraref44_Next.mono_l k
  unfold penumbraref44_Next.f
  repeat' first
      | (with_reducible exact ih0 _ _ _ _)
      | (with_reducible exact LeO.refl _)
      | (with_reducible exact LeO.none _)
      | (with_reducible refine LeO.ite ?_ ?_)
      | (with_reducible refine LeO.bind ?_ (fun _ => ?_))
      | exact ih0 _ _ _ _
      | exact LeO.none _
      | refine LeO.ite ?_ ?_
      | refine LeO.bind ?_ (fun _ => ?_)
set_option maxHeartbeats 8000000 in
set_option maxRecDepth 100000 in
theorem penumbraref44_Next.calls (k : Nat) (a0 : ByteArray) (a1 : Int) (a2 : Int) (r1 : ByteArray) (r2 : Int) (w : World) (h : penumbraref44_Next.f k a0 a1 a2 = some (r1, r2)) :
    Calls Try.prog 23 #[.string a0, .int .i64 a1, .int .u8 a2] w fun e w' => e = .returned (.tuple #[.string r1, .int .i64 r2]) ∧ Drawn0 w w' := by
  have H : (penumbraref44_Next.l0 k a0 a1 a2 a1) = some (r1, r2) := h
  clear h
  have H' := Aside0.mk H
  clear H
  go_enter Try.func23, Try.ntmps23
  go_wp2
  go_loopg [8] k (fun kq v8 w' => ∃ (x8_1 : Int), v8 = .int .i64 x8_1 ∧ Aside0 (penumbraref44_Next.l0 kq a0 a1 a2 x8_1 = some (r1, r2)) ∧ Aside0 (kq ≤ k) ∧ Drawn0 w w')
  case atStart => exact ⟨(a1), (by first | rfl | (simp; done) | (simp [*]; done)), H', ⟨Nat.le_refl _⟩, by repeat (first | exact Drawn0.refl _ | apply Drawn0.step)⟩
  case round =>
    clear H'
    try clear c2
    try clear p2
    obtain ⟨x8_1, rfl, HA, HK1, ⟨m1, rfl⟩⟩ := hrel
    cases gk with
    | zero => exact absurd HA.out (by simp [penumbraref44_Next.l0])
    | succ k1 =>
      have H := HA.out
      clear HA
      simp only [penumbraref44_Next.l0] at H
      by_cases c4 : x8_1 < (a0.size : Int)
      · rw [if_pos c4] at H
        have c4b0 : decide (x8_1 < (a0.size : Int)) = true := decide_eq_true c4
        clear c4
        by_cases c5 : 0 ≤ x8_1
        · rw [if_pos c5] at H
          have c5b0 : decide (0 ≤ x8_1) = true := decide_eq_true c5
          clear c5
          by_cases c7 : (bt a0 x8_1) = a2
          · rw [if_pos c7] at H
            have c7b0 : ((bt a0 x8_1) == a2) = true := beq_iff_eq.mpr c7
            have c7b1 : ((bt a0 x8_1) != a2) = false := bne_eq_false_iff_eq.mpr c7
            clear c7
            by_cases c8 : 0 ≤ a1
            · rw [if_pos c8] at H
              have c8b0 := eq_true c8
              have c8b1 : decide (0 ≤ a1) = true := decide_eq_true c8
              clear c8
              by_cases c9 : a1 ≤ x8_1
              · rw [if_pos c9] at H
                have c9b0 := eq_true c9
                have c9b1 : decide (a1 ≤ x8_1) = true := decide_eq_true c9
                clear c9
                by_cases c10 : x8_1 ≤ (a0.size : Int)
                · rw [if_pos c10] at H
                  have c10b0 := eq_true c10
                  have c10b1 : decide (x8_1 ≤ (a0.size : Int)) = true := decide_eq_true c10
                  clear c10
                  simp only [Option.some.injEq, Prod.mk.injEq] at H
                  obtain ⟨rfl, rfl⟩ := H
                  have p6 : 0 ≤ (x8_1 : Int) := of_decide_eq_true (by first | (with_reducible assumption) | assumption)
                  have q6 : x8_1 < (a0.size : Int) := of_decide_eq_true (by first | (with_reducible assumption) | assumption)
                  have hx6 := bt_at a0 x8_1
                  replace p6 := eq_true p6
                  replace q6 := eq_true q6
                  go_wp2
                  go_ret2
                  exact ⟨by first | rfl | (simp; done) | (simp [*]; done), by repeat (first | exact Drawn0.refl _ | apply Drawn0.step)⟩
                · rw [if_neg c10] at H
                  exact absurd H (by simp)
              · rw [if_neg c9] at H
                exact absurd H (by simp)
            · rw [if_neg c8] at H
              exact absurd H (by simp)
          · rw [if_neg c7] at H
            have c7b0 : ((bt a0 x8_1) == a2) = false := beq_eq_false_iff_ne.mpr c7
            have c7b1 : ((bt a0 x8_1) != a2) = true := bne_iff_ne.mpr c7
            have H' := Aside0.mk H
            clear H
            have p6 : 0 ≤ (x8_1 : Int) := of_decide_eq_true (by first | (with_reducible assumption) | assumption)
            have q6 : x8_1 < (a0.size : Int) := of_decide_eq_true (by first | (with_reducible assumption) | assumption)
            have hx6 := bt_at a0 x8_1
            replace p6 := eq_true p6
            replace q6 := eq_true q6
            go_wp2
            go_roundg k1
            case measure => have := HK1.out; omega
            case rel => exact ⟨(wrap64 (x8_1 + 1)), (by first | rfl | (simp; done) | (simp [*]; done)), H', ⟨by have := HK1.out; omega⟩, by repeat (first | exact Drawn0.refl _ | apply Drawn0.step)⟩
        · rw [if_neg c5] at H
          exact absurd H (by simp)
      · rw [if_neg c4] at H
        have c4b0 : decide (x8_1 < (a0.size : Int)) = false := decide_eq_false c4
        clear c4
        simp only [Option.some.injEq, Prod.mk.injEq] at H
        obtain ⟨rfl, rfl⟩ := H
        go_wp2
        go_ret2
        exact ⟨by first | rfl | (simp; done) | (simp [*]; done), by repeat (first | exact Drawn0.refl _ | apply Drawn0.step)⟩

/-! ### penumbraref44_Number: function 24 -/
mutual
def penumbraref44_Number.j0 : Nat → ByteArray → Bool → Option (Int)
  | 0, _, _ => none
  | k + 1, x0, x22 => if x22 = true then (some (-1)) else (penumbraref44_Number.l0 k x0 0 0)
def penumbraref44_Number.l0 : Nat → ByteArray → Int → Int → Option (Int)
  | 0, _, _, _ => none
  | k + 1, x0, x3, x4 => if x4 < (x0.size : Int) then (if 0 ≤ x4 then (if (bt x0 x4) < 48 then (some (-1)) else (if (bt x0 x4) > 57 then (some (-1)) else (penumbraref44_Number.l0 k x0 (wrap64 ((wrap64 ((wrap64 (10 * x3)) + (wrap64 (bt x0 x4)))) - 48)) (wrap64 (x4 + 1))))) else (none)) else (some x3)
end
def penumbraref44_Number.f (k : Nat) (a0 : ByteArray) : Option (Int) := if (a0.size : Int) = 0 then (penumbraref44_Number.j0 k a0 true) else (if (a0.size : Int) > 6 then (penumbraref44_Number.j0 k a0 true) else (if (a0.size : Int) > 1 then (if 0 < (a0.size : Int) then (penumbraref44_Number.j0 k a0 ((bt a0 0) == 48)) else (none)) else (penumbraref44_Number.j0 k a0 false)))
theorem penumbraref44_Number.mono_l : ∀ k, (∀ y0 y1, LeO (penumbraref44_Number.j0 k y0 y1) (penumbraref44_Number.j0 (k + 1) y0 y1)) ∧ (∀ y0 y1 y2, LeO (penumbraref44_Number.l0 k y0 y1 y2) (penumbraref44_Number.l0 (k + 1) y0 y1 y2))
  | 0 => ⟨fun _ _ r h => by simp [penumbraref44_Number.j0] at h, fun _ _ _ r h => by simp [penumbraref44_Number.l0] at h⟩
  | k + 1 => by
    obtain ⟨ih0, ih1⟩ := penumbraref44_Number.mono_l k
    refine ⟨?_, ?_⟩
    · intro y0 y1
      unfold penumbraref44_Number.j0
      repeat' first
      | (with_reducible exact ih0 _ _)
      | (with_reducible exact ih1 _ _ _)
      | (with_reducible exact LeO.refl _)
      | (with_reducible exact LeO.none _)
      | (with_reducible refine LeO.ite ?_ ?_)
      | (with_reducible refine LeO.bind ?_ (fun _ => ?_))
      | exact ih0 _ _
      | exact ih1 _ _ _
      | exact LeO.none _
      | refine LeO.ite ?_ ?_
      | refine LeO.bind ?_ (fun _ => ?_)
    · intro y0 y1 y2
      unfold penumbraref44_Number.l0
      repeat' first
      | (with_reducible exact ih0 _ _)
      | (with_reducible exact ih1 _ _ _)
      | (with_reducible exact LeO.refl _)
      | (with_reducible exact LeO.none _)
      | (with_reducible refine LeO.ite ?_ ?_)
      | (with_reducible refine LeO.bind ?_ (fun _ => ?_))
      | exact ih0 _ _
      | exact ih1 _ _ _
      | exact LeO.none _
      | refine LeO.ite ?_ ?_
      | refine LeO.bind ?_ (fun _ => ?_)
theorem penumbraref44_Number.mono : ∀ a0 k, LeO (penumbraref44_Number.f k a0) (penumbraref44_Number.f (k + 1) a0) := by
  intro a0 k
  obtain ⟨ih0, ih1⟩ := penumbraref44_Number.mono_l k
  unfold penumbraref44_Number.f
  repeat' first
      | (with_reducible exact ih0 _ _)
      | (with_reducible exact ih1 _ _ _)
      | (with_reducible exact LeO.refl _)
      | (with_reducible exact LeO.none _)
      | (with_reducible refine LeO.ite ?_ ?_)
      | (with_reducible refine LeO.bind ?_ (fun _ => ?_))
      | exact ih0 _ _
      | exact ih1 _ _ _
      | exact LeO.none _
      | refine LeO.ite ?_ ?_
      | refine LeO.bind ?_ (fun _ => ?_)
set_option maxHeartbeats 8000000 in
set_option maxRecDepth 100000 in
theorem penumbraref44_Number.calls (k : Nat) (a0 : ByteArray) (r : Int) (w : World) (h : penumbraref44_Number.f k a0 = some r) :
    Calls Try.prog 24 #[.string a0] w fun e w' => e = .returned (.int .i64 r) ∧ Drawn0 w w' := by
  have H : (if (a0.size : Int) = 0 then (penumbraref44_Number.j0 k a0 true) else (if (a0.size : Int) > 6 then (penumbraref44_Number.j0 k a0 true) else (if (a0.size : Int) > 1 then (if 0 < (a0.size : Int) then (penumbraref44_Number.j0 k a0 ((bt a0 0) == 48)) else (none)) else (penumbraref44_Number.j0 k a0 false)))) = some r := h
  clear h
  have HC2 := Aside0.mk H
  clear H
  go_enter Try.func24, Try.ntmps24
  go_upto_region 1 with (fail)
  go_cut [22] (fun v22 wc => ∃ (kq : Nat) (x22_1 : Bool), v22 = .bool x22_1 ∧ Aside0 (penumbraref44_Number.j0 kq a0 x22_1 = some r) ∧ Aside0 (kq ≤ k) ∧ Drawn0 w wc)
  case first =>
    have H := HC2.out
    clear HC2
    by_cases c3 : (a0.size : Int) = 0
    · rw [if_pos c3] at H
      have c3b0 : ((a0.size : Int) == 0) = true := beq_iff_eq.mpr c3
      have c3b1 : ((a0.size : Int) != 0) = false := bne_eq_false_iff_eq.mpr c3
      clear c3
      (first | rw [c3b0] | (simp only [i64_w, i32_w]; rw [c3b0]) | skip)
      have H' := Aside0.mk H
      clear H
      go_wp2
      go_meet
      case rel => exact ⟨_, (true), (by first | rfl | (simp; done) | (simp [*]; done)), H', ⟨by first | omega | exact Nat.le_refl _⟩, by repeat (first | exact Drawn0.refl _ | apply Drawn0.step)⟩
    · rw [if_neg c3] at H
      have c3b0 : ((a0.size : Int) == 0) = false := beq_eq_false_iff_ne.mpr c3
      have c3b1 : ((a0.size : Int) != 0) = true := bne_iff_ne.mpr c3
      (first | rw [c3b0] | (simp only [i64_w, i32_w]; rw [c3b0]) | skip)
      by_cases c4 : (a0.size : Int) > 6
      · rw [if_pos c4] at H
        have c4b0 : decide (6 < (a0.size : Int)) = true := decide_eq_true c4
        have c4b1 : decide (6 < a0.size) = true := decide_eq_true (by omega)
        clear c4
        have H' := Aside0.mk H
        clear H
        go_wp2
        go_meet
        case rel => exact ⟨_, (true), (by first | rfl | (simp; done) | (simp [*]; done)), H', ⟨by first | omega | exact Nat.le_refl _⟩, by repeat (first | exact Drawn0.refl _ | apply Drawn0.step)⟩
      · rw [if_neg c4] at H
        have c4b0 : decide (6 < (a0.size : Int)) = false := decide_eq_false c4
        have c4b1 : decide (6 < a0.size) = false := decide_eq_false (by omega)
        clear c4
        by_cases c5 : (a0.size : Int) > 1
        · rw [if_pos c5] at H
          have c5b0 : decide (1 < (a0.size : Int)) = true := decide_eq_true c5
          have c5b1 : decide (1 < a0.size) = true := decide_eq_true (by omega)
          clear c5
          by_cases c6 : 0 < (a0.size : Int)
          · rw [if_pos c6] at H
            have c6b0 : decide (0 < (a0.size : Int)) = true := decide_eq_true c6
            have c6b1 : decide (0 < a0.size) = true := decide_eq_true (by omega)
            clear c6
            have H' := Aside0.mk H
            clear H
            have p7 : 0 ≤ (0 : Int) := (by omega)
            have q7 : 0 < a0.size := (by have : (0 : Int) < (a0.size : Int) := of_decide_eq_true (by first | (with_reducible assumption) | assumption); omega)
            have hx7 : ∀ h : 0 < a0.size, ((a0[0]'h).toNat : Int) = bt a0 0 := bt_at a0 0
            clear p7
            have qi7 : (0 < (a0.size : Int)) = True := eq_true (of_decide_eq_true (by first | (with_reducible assumption) | assumption))
            replace q7 := eq_true q7
            go_wp2
            go_meet
            case rel => exact ⟨_, (((bt a0 0) == 48)), (by first | rfl | (simp; done) | (simp [*]; done)), H', ⟨by first | omega | exact Nat.le_refl _⟩, by repeat (first | exact Drawn0.refl _ | apply Drawn0.step)⟩
          · rw [if_neg c6] at H
            exact absurd H (by simp)
        · rw [if_neg c5] at H
          have c5b0 : decide (1 < (a0.size : Int)) = false := decide_eq_false c5
          have c5b1 : decide (1 < a0.size) = false := decide_eq_false (by omega)
          clear c5
          have H' := Aside0.mk H
          clear H
          go_wp2
          go_meet
          case rel => exact ⟨_, (false), (by first | rfl | (simp; done) | (simp [*]; done)), H', ⟨by first | omega | exact Nat.le_refl _⟩, by repeat (first | exact Drawn0.refl _ | apply Drawn0.step)⟩
  case rest =>
    clear HC2
    try clear c2
    try clear p2
    try clear c3
    try clear c3b0
    try clear c3b1
    try clear c4
    try clear c4b0
    try clear c4b1
    try clear c5
    try clear c5b0
    try clear c5b1
    try clear c6
    try clear c6b0
    try clear c6b1
    try clear p7
    try clear q7
    try clear hx7
    try clear qi7
    try clear p7
    try clear q7
    obtain ⟨kq, x22_1, rfl, HA, HJ1, ⟨mc1, rfl⟩⟩ := hcut
    cases kq with
    | zero => exact absurd HA.out (by simp [penumbraref44_Number.j0])
    | succ kj1 =>
      have H := HA.out
      clear HA
      simp only [penumbraref44_Number.j0] at H
      by_cases c8 : x22_1 = true
      · subst c8
        have H1 : (some (-1)) = some r := by rw [if_pos rfl] at H; exact H
        clear H
        have H := H1
        clear H1
        obtain rfl := Option.some.inj H
        go_wp2
        go_ret
        exact ⟨by first | rfl | (simp; done) | (simp [*]; done), by repeat (first | exact Drawn0.refl _ | apply Drawn0.step)⟩
      · replace c8 := Bool.eq_false_iff.mpr c8
        subst c8
        have H1 : (penumbraref44_Number.l0 kj1 a0 0 0) = some r := by rw [if_neg (show ¬ (false = true) by decide)] at H; exact H
        clear H
        have H := H1
        clear H1
        have H' := Aside0.mk H
        clear H
        go_wp2
        go_loopg [3, 4] kj1 (fun kq v3 v4 w' => ∃ (x3_2 : Int) (x4_2 : Int), v3 = .int .i64 x3_2 ∧ v4 = .int .i64 x4_2 ∧ Aside0 (penumbraref44_Number.l0 kq a0 x3_2 x4_2 = some r) ∧ Aside0 (kq ≤ kj1) ∧ Drawn0 w w')
        case atStart => exact ⟨(0), (0), (by first | rfl | (simp; done) | (simp [*]; done)), (by first | rfl | (simp; done) | (simp [*]; done)), H', ⟨Nat.le_refl _⟩, by repeat (first | exact Drawn0.refl _ | apply Drawn0.step)⟩
        case round =>
          clear H'
          try clear c1
          try clear c2
          try clear p2
          try clear c3
          try clear c3b0
          try clear c3b1
          try clear c4
          try clear c4b0
          try clear c4b1
          try clear c5
          try clear c5b0
          try clear c5b1
          try clear c6
          try clear c6b0
          try clear c6b1
          try clear p7
          try clear q7
          try clear hx7
          try clear qi7
          try clear c8
          try clear p2
          try clear p7
          try clear q7
          obtain ⟨x3_2, x4_2, rfl, rfl, HA, HK2, ⟨m2, rfl⟩⟩ := hrel
          cases gk with
          | zero => exact absurd HA.out (by simp [penumbraref44_Number.l0])
          | succ k2 =>
            have H := HA.out
            clear HA
            simp only [penumbraref44_Number.l0] at H
            by_cases c9 : x4_2 < (a0.size : Int)
            · rw [if_pos c9] at H
              have c9b0 : decide (x4_2 < (a0.size : Int)) = true := decide_eq_true c9
              clear c9
              by_cases c10 : 0 ≤ x4_2
              · rw [if_pos c10] at H
                have c10b0 : decide (0 ≤ x4_2) = true := decide_eq_true c10
                clear c10
                by_cases c12 : (bt a0 x4_2) < 48
                · rw [if_pos c12] at H
                  have c12b0 : decide ((bt a0 x4_2) < 48) = true := decide_eq_true c12
                  clear c12
                  obtain rfl := Option.some.inj H
                  have p11 : 0 ≤ (x4_2 : Int) := of_decide_eq_true (by first | (with_reducible assumption) | assumption)
                  have q11 : x4_2 < (a0.size : Int) := of_decide_eq_true (by first | (with_reducible assumption) | assumption)
                  have hx11 := bt_at a0 x4_2
                  replace p11 := eq_true p11
                  replace q11 := eq_true q11
                  go_wp2
                  go_ret
                  exact ⟨by first | rfl | (simp; done) | (simp [*]; done), by repeat (first | exact Drawn0.refl _ | apply Drawn0.step)⟩
                · rw [if_neg c12] at H
                  have c12b0 : decide ((bt a0 x4_2) < 48) = false := decide_eq_false c12
                  clear c12
                  by_cases c14 : (bt a0 x4_2) > 57
                  · rw [if_pos c14] at H
                    have c14b0 : decide (57 < (bt a0 x4_2)) = true := decide_eq_true c14
                    clear c14
                    obtain rfl := Option.some.inj H
                    have p11 : 0 ≤ (x4_2 : Int) := of_decide_eq_true (by first | (with_reducible assumption) | assumption)
                    have q11 : x4_2 < (a0.size : Int) := of_decide_eq_true (by first | (with_reducible assumption) | assumption)
                    have hx11 := bt_at a0 x4_2
                    replace p11 := eq_true p11
                    replace q11 := eq_true q11
                    have p13 : 0 ≤ (x4_2 : Int) := of_decide_eq_true (by first | (with_reducible assumption) | assumption)
                    have q13 : x4_2 < (a0.size : Int) := of_decide_eq_true (by first | (with_reducible assumption) | assumption)
                    have hx13 := bt_at a0 x4_2
                    replace p13 := eq_true p13
                    replace q13 := eq_true q13
                    go_wp2
                    go_ret
                    exact ⟨by first | rfl | (simp; done) | (simp [*]; done), by repeat (first | exact Drawn0.refl _ | apply Drawn0.step)⟩
                  · rw [if_neg c14] at H
                    have c14b0 : decide (57 < (bt a0 x4_2)) = false := decide_eq_false c14
                    clear c14
                    have H' := Aside0.mk H
                    clear H
                    have p11 : 0 ≤ (x4_2 : Int) := of_decide_eq_true (by first | (with_reducible assumption) | assumption)
                    have q11 : x4_2 < (a0.size : Int) := of_decide_eq_true (by first | (with_reducible assumption) | assumption)
                    have hx11 := bt_at a0 x4_2
                    replace p11 := eq_true p11
                    replace q11 := eq_true q11
                    have p13 : 0 ≤ (x4_2 : Int) := of_decide_eq_true (by first | (with_reducible assumption) | assumption)
                    have q13 : x4_2 < (a0.size : Int) := of_decide_eq_true (by first | (with_reducible assumption) | assumption)
                    have hx13 := bt_at a0 x4_2
                    replace p13 := eq_true p13
                    replace q13 := eq_true q13
                    have p15 : 0 ≤ (x4_2 : Int) := of_decide_eq_true (by first | (with_reducible assumption) | assumption)
                    have q15 : x4_2 < (a0.size : Int) := of_decide_eq_true (by first | (with_reducible assumption) | assumption)
                    have hx15 := bt_at a0 x4_2
                    replace p15 := eq_true p15
                    replace q15 := eq_true q15
                    go_wp2
                    go_roundg k2
                    case measure => have := HJ1.out; have := HK2.out; omega
                    case rel => exact ⟨(wrap64 ((wrap64 ((wrap64 (10 * x3_2)) + (wrap64 (bt a0 x4_2)))) - 48)), (wrap64 (x4_2 + 1)), (by first | rfl | (simp; done) | (simp [*]; done)), (by first | rfl | (simp; done) | (simp [*]; done)), H', ⟨by have := HJ1.out; have := HK2.out; omega⟩, by repeat (first | exact Drawn0.refl _ | apply Drawn0.step)⟩
              · rw [if_neg c10] at H
                exact absurd H (by simp)
            · rw [if_neg c9] at H
              have c9b0 : decide (x4_2 < (a0.size : Int)) = false := decide_eq_false c9
              clear c9
              obtain rfl := Option.some.inj H
              go_wp2
              go_ret
              exact ⟨by first | rfl | (simp; done) | (simp [*]; done), by repeat (first | exact Drawn0.refl _ | apply Drawn0.step)⟩

/-! ### penumbraref44_Decode: function 13 -/
mutual
def penumbraref44_Decode.j0 : Nat → ByteArray → Int → Int → Int → Bool → Option (Int × Int × ByteArray × Int)
  | 0, _, _, _, _, _ => none
  | k + 1, x0, x11, x12, x13, x56 => if x56 = true then (some (0, 0, (⟨#[]⟩ : ByteArray), 6)) else (if x12 < 1 then (penumbraref44_Decode.j1 k x0 x11 x12 x13 true) else (if x13 < 1 then (penumbraref44_Decode.j1 k x0 x11 x12 x13 true) else (if x12 > 8192 then (penumbraref44_Decode.j1 k x0 x11 x12 x13 true) else (if x13 > 8192 then (penumbraref44_Decode.j1 k x0 x11 x12 x13 true) else (penumbraref44_Decode.j1 k x0 x11 x12 x13 (decide ((wrap64 (x12 * x13)) > 65536)))))))
def penumbraref44_Decode.j1 : Nat → ByteArray → Int → Int → Int → Bool → Option (Int × Int × ByteArray × Int)
  | 0, _, _, _, _, _ => none
  | k + 1, x0, x11, x12, x13, x76 => if x76 = true then (some (0, 0, (⟨#[]⟩ : ByteArray), 3)) else (if (wrap64 ((x0.size : Int) - x11)) < (wrap64 ((wrap64 (3 * x12)) * x13)) then (some (0, 0, (⟨#[]⟩ : ByteArray), 5)) else (if (wrap64 ((x0.size : Int) - x11)) > (wrap64 ((wrap64 (3 * x12)) * x13)) then (some (0, 0, (⟨#[]⟩ : ByteArray), 6)) else (if 0 ≤ x11 then (if x11 ≤ (x0.size : Int) then (some (x12, x13, x0.extract (x11 : Int).toNat x0.size, 0)) else (none)) else (none))))
end
def penumbraref44_Decode.f (k : Nat) (a0 : ByteArray) : Option (Int × Int × ByteArray × Int) := if (a0.size : Int) < 3 then (some (0, 0, (⟨#[]⟩ : ByteArray), 5)) else (if 0 ≤ 3 then (if 3 ≤ (a0.size : Int) then (if (a0.extract 0 3).toList = ([80, 54, 10] : List UInt8) then ((penumbraref44_Next.f k a0 3 32).bind fun bt101 => (if bt101.2 < 0 then (some (0, 0, (⟨#[]⟩ : ByteArray), 5)) else ((penumbraref44_Next.f k a0 bt101.2 10).bind fun bt103 => (if bt103.2 < 0 then (some (0, 0, (⟨#[]⟩ : ByteArray), 5)) else ((penumbraref44_Next.f k a0 bt103.2 10).bind fun bt105 => (if bt105.2 < 0 then (some (0, 0, (⟨#[]⟩ : ByteArray), 5)) else ((penumbraref44_Number.f k bt101.1).bind fun t107 => ((penumbraref44_Number.f k bt103.1).bind fun t108 => (if t107 < 0 then (penumbraref44_Decode.j0 k a0 bt105.2 t107 t108 true) else (if t108 < 0 then (penumbraref44_Decode.j0 k a0 bt105.2 t107 t108 true) else (penumbraref44_Decode.j0 k a0 bt105.2 t107 t108 (bt105.1.toList != ([50, 53, 53] : List UInt8))))))))))))) else (some (0, 0, (⟨#[]⟩ : ByteArray), 6))) else (none)) else (none))
theorem penumbraref44_Decode.mono_l : ∀ k, (∀ y0 y1 y2 y3 y4, LeO (penumbraref44_Decode.j0 k y0 y1 y2 y3 y4) (penumbraref44_Decode.j0 (k + 1) y0 y1 y2 y3 y4)) ∧ (∀ y0 y1 y2 y3 y4, LeO (penumbraref44_Decode.j1 k y0 y1 y2 y3 y4) (penumbraref44_Decode.j1 (k + 1) y0 y1 y2 y3 y4))
  | 0 => ⟨fun _ _ _ _ _ r h => by simp [penumbraref44_Decode.j0] at h, fun _ _ _ _ _ r h => by simp [penumbraref44_Decode.j1] at h⟩
  | k + 1 => by
    obtain ⟨ih0, ih1⟩ := penumbraref44_Decode.mono_l k
    refine ⟨?_, ?_⟩
    · intro y0 y1 y2 y3 y4
      unfold penumbraref44_Decode.j0
      repeat' first
      | (with_reducible exact ih0 _ _ _ _ _)
      | (with_reducible exact ih1 _ _ _ _ _)
      | (with_reducible exact penumbraref44_Next.mono _ _ _ _)
      | (with_reducible exact penumbraref44_Number.mono _ _)
      | (with_reducible exact LeO.refl _)
      | (with_reducible exact LeO.none _)
      | (with_reducible refine LeO.ite ?_ ?_)
      | (with_reducible refine LeO.bind ?_ (fun _ => ?_))
      | exact ih0 _ _ _ _ _
      | exact ih1 _ _ _ _ _
      | exact penumbraref44_Next.mono _ _ _ _
      | exact penumbraref44_Number.mono _ _
      | exact LeO.none _
      | refine LeO.ite ?_ ?_
      | refine LeO.bind ?_ (fun _ => ?_)
    · intro y0 y1 y2 y3 y4
      unfold penumbraref44_Decode.j1
      repeat' first
      | (with_reducible exact ih0 _ _ _ _ _)
      | (with_reducible exact ih1 _ _ _ _ _)
      | (with_reducible exact penumbraref44_Next.mono _ _ _ _)
      | (with_reducible exact penumbraref44_Number.mono _ _)
      | (with_reducible exact LeO.refl _)
      | (with_reducible exact LeO.none _)
      | (with_reducible refine LeO.ite ?_ ?_)
      | (with_reducible refine LeO.bind ?_ (fun _ => ?_))
      | exact ih0 _ _ _ _ _
      | exact ih1 _ _ _ _ _
      | exact penumbraref44_Next.mono _ _ _ _
      | exact penumbraref44_Number.mono _ _
      | exact LeO.none _
      | refine LeO.ite ?_ ?_
      | refine LeO.bind ?_ (fun _ => ?_)
theorem penumbraref44_Decode.mono : ∀ a0 k, LeO (penumbraref44_Decode.f k a0) (penumbraref44_Decode.f (k + 1) a0) := by
  intro a0 k
  obtain ⟨ih0, ih1⟩ := penumbraref44_Decode.mono_l k
  unfold penumbraref44_Decode.f
  repeat' first
      | (with_reducible exact ih0 _ _ _ _ _)
      | (with_reducible exact ih1 _ _ _ _ _)
      | (with_reducible exact penumbraref44_Next.mono _ _ _ _)
      | (with_reducible exact penumbraref44_Number.mono _ _)
      | (with_reducible exact LeO.refl _)
      | (with_reducible exact LeO.none _)
      | (with_reducible refine LeO.ite ?_ ?_)
      | (with_reducible refine LeO.bind ?_ (fun _ => ?_))
      | exact ih0 _ _ _ _ _
      | exact ih1 _ _ _ _ _
      | exact penumbraref44_Next.mono _ _ _ _
      | exact penumbraref44_Number.mono _ _
      | exact LeO.none _
      | refine LeO.ite ?_ ?_
      | refine LeO.bind ?_ (fun _ => ?_)
set_option maxHeartbeats 8000000 in
set_option maxRecDepth 100000 in
theorem penumbraref44_Decode.calls (k : Nat) (a0 : ByteArray) (r1 : Int) (r2 : Int) (r3 : ByteArray) (r4 : Int) (w : World) (h : penumbraref44_Decode.f k a0 = some (r1, r2, r3, r4)) :
    Calls Try.prog 13 #[.string a0] w fun e w' => e = .returned (.tuple #[.int .i64 r1, .int .i64 r2, .string r3, .int .i64 r4]) ∧ Drawn0 w w' := by
  have H : (if (a0.size : Int) < 3 then (some (0, 0, (⟨#[]⟩ : ByteArray), 5)) else (if 0 ≤ 3 then (if 3 ≤ (a0.size : Int) then (if (a0.extract 0 3).toList = ([80, 54, 10] : List UInt8) then ((penumbraref44_Next.f k a0 3 32).bind fun bt101 => (if bt101.2 < 0 then (some (0, 0, (⟨#[]⟩ : ByteArray), 5)) else ((penumbraref44_Next.f k a0 bt101.2 10).bind fun bt103 => (if bt103.2 < 0 then (some (0, 0, (⟨#[]⟩ : ByteArray), 5)) else ((penumbraref44_Next.f k a0 bt103.2 10).bind fun bt105 => (if bt105.2 < 0 then (some (0, 0, (⟨#[]⟩ : ByteArray), 5)) else ((penumbraref44_Number.f k bt101.1).bind fun t107 => ((penumbraref44_Number.f k bt103.1).bind fun t108 => (if t107 < 0 then (penumbraref44_Decode.j0 k a0 bt105.2 t107 t108 true) else (if t108 < 0 then (penumbraref44_Decode.j0 k a0 bt105.2 t107 t108 true) else (penumbraref44_Decode.j0 k a0 bt105.2 t107 t108 (bt105.1.toList != ([50, 53, 53] : List UInt8))))))))))))) else (some (0, 0, (⟨#[]⟩ : ByteArray), 6))) else (none)) else (none))) = some (r1, r2, r3, r4) := h
  clear h
  by_cases c2 : (a0.size : Int) < 3
  · rw [if_pos c2] at H
    have c2b0 : decide ((a0.size : Int) < 3) = true := decide_eq_true c2
    have c2b1 : decide (a0.size < 3) = true := decide_eq_true (by omega)
    clear c2
    simp only [Option.some.injEq, Prod.mk.injEq] at H
    obtain ⟨rfl, rfl, rfl, rfl⟩ := H
    go_enter Try.func13, Try.ntmps13
    go_wp2
    repeat (go_quiet (fail); try go_wp2)
    refine bodyPost_ret (results_list (rs := [.tmp 2, .tmp 3, .tmp 4, .tmp 5]) rfl (by simp) (.tmp (.tmp (.tmp (.tmp .nil))))) rfl ?_
    exact ⟨by first | rfl | (simp; done) | (simp [*]; done), by repeat (first | exact Drawn0.refl _ | apply Drawn0.step)⟩
  · rw [if_neg c2] at H
    have c2b0 : decide ((a0.size : Int) < 3) = false := decide_eq_false c2
    have c2b1 : decide (a0.size < 3) = false := decide_eq_false (by omega)
    clear c2
    by_cases c3 : 0 ≤ 3
    · rw [if_pos c3] at H
      have c3b0 := eq_true c3
      have c3b1 : decide (0 ≤ 3) = true := decide_eq_true c3
      clear c3
      by_cases c4 : 3 ≤ (a0.size : Int)
      · rw [if_pos c4] at H
        have c4b0 := eq_true c4
        have c4b1 : decide (3 ≤ (a0.size : Int)) = true := decide_eq_true c4
        clear c4
        by_cases c5 : (a0.extract 0 3).toList = ([80, 54, 10] : List UInt8)
        · rw [if_pos c5] at H
          have c5b0 : ((a0.extract 0 3).toList == ([80, 54, 10] : List UInt8)) = true := beq_iff_eq.mpr c5
          have c5b1 : ((a0.extract 0 3).toList != ([80, 54, 10] : List UInt8)) = false := bne_eq_false_iff_eq.mpr c5
          clear c5
          replace H := Option.bind_eq_some_iff.mp H
          obtain ⟨⟨t101, t102⟩, A60, H⟩ := H
          replace H : (if t102 < 0 then (some (0, 0, (⟨#[]⟩ : ByteArray), 5)) else ((penumbraref44_Next.f k a0 t102 10).bind fun bt103 => (if bt103.2 < 0 then (some (0, 0, (⟨#[]⟩ : ByteArray), 5)) else ((penumbraref44_Next.f k a0 bt103.2 10).bind fun bt105 => (if bt105.2 < 0 then (some (0, 0, (⟨#[]⟩ : ByteArray), 5)) else ((penumbraref44_Number.f k t101).bind fun t107 => ((penumbraref44_Number.f k bt103.1).bind fun t108 => (if t107 < 0 then (penumbraref44_Decode.j0 k a0 bt105.2 t107 t108 true) else (if t108 < 0 then (penumbraref44_Decode.j0 k a0 bt105.2 t107 t108 true) else (penumbraref44_Decode.j0 k a0 bt105.2 t107 t108 (bt105.1.toList != ([50, 53, 53] : List UInt8)))))))))))) = some (r1, r2, r3, r4) := H
          have A6 := Aside0.mk A60
          clear A60
          by_cases c7 : t102 < 0
          · rw [if_pos c7] at H
            have c7b0 : decide (t102 < 0) = true := decide_eq_true c7
            clear c7
            simp only [Option.some.injEq, Prod.mk.injEq] at H
            obtain ⟨rfl, rfl, rfl, rfl⟩ := H
            go_enter Try.func13, Try.ntmps13
            go_wp2_with (first | (go_at_call 23; (with_reducible refine (penumbraref44_Next.calls k a0 3 32 t101 t102 _ A6.out).mono ?_); rintro e w' ⟨rfl, ⟨nd, rfl⟩⟩; (try first | exact ⟨rfl, _, World.drewN_drewN _ _ _⟩ | exact ⟨rfl, _, Eq.trans (World.drewN_drewN _ _ _) (congrArg (World.drewN _) (Nat.add_assoc _ _ _))⟩)))
            repeat (go_quiet (first | (go_at_call 23; (with_reducible refine (penumbraref44_Next.calls k a0 3 32 t101 t102 _ A6.out).mono ?_); rintro e w' ⟨rfl, ⟨nd, rfl⟩⟩; (try first | exact ⟨rfl, _, World.drewN_drewN _ _ _⟩ | exact ⟨rfl, _, Eq.trans (World.drewN_drewN _ _ _) (congrArg (World.drewN _) (Nat.add_assoc _ _ _))⟩))); try go_wp2_with (first | (go_at_call 23; (with_reducible refine (penumbraref44_Next.calls k a0 3 32 t101 t102 _ A6.out).mono ?_); rintro e w' ⟨rfl, ⟨nd, rfl⟩⟩; (try first | exact ⟨rfl, _, World.drewN_drewN _ _ _⟩ | exact ⟨rfl, _, Eq.trans (World.drewN_drewN _ _ _) (congrArg (World.drewN _) (Nat.add_assoc _ _ _))⟩))))
            refine bodyPost_ret (results_list (rs := [.tmp 2, .tmp 3, .tmp 4, .tmp 5]) rfl (by simp) (.tmp (.tmp (.tmp (.tmp .nil))))) rfl ?_
            exact ⟨by first | rfl | (simp; done) | (simp [*]; done), by repeat (first | exact Drawn0.refl _ | apply Drawn0.step)⟩
          · rw [if_neg c7] at H
            have c7b0 : decide (t102 < 0) = false := decide_eq_false c7
            clear c7
            replace H := Option.bind_eq_some_iff.mp H
            obtain ⟨⟨t103, t104⟩, A80, H⟩ := H
            replace H : (if t104 < 0 then (some (0, 0, (⟨#[]⟩ : ByteArray), 5)) else ((penumbraref44_Next.f k a0 t104 10).bind fun bt105 => (if bt105.2 < 0 then (some (0, 0, (⟨#[]⟩ : ByteArray), 5)) else ((penumbraref44_Number.f k t101).bind fun t107 => ((penumbraref44_Number.f k t103).bind fun t108 => (if t107 < 0 then (penumbraref44_Decode.j0 k a0 bt105.2 t107 t108 true) else (if t108 < 0 then (penumbraref44_Decode.j0 k a0 bt105.2 t107 t108 true) else (penumbraref44_Decode.j0 k a0 bt105.2 t107 t108 (bt105.1.toList != ([50, 53, 53] : List UInt8)))))))))) = some (r1, r2, r3, r4) := H
            have A8 := Aside0.mk A80
            clear A80
            by_cases c9 : t104 < 0
            · rw [if_pos c9] at H
              have c9b0 : decide (t104 < 0) = true := decide_eq_true c9
              clear c9
              simp only [Option.some.injEq, Prod.mk.injEq] at H
              obtain ⟨rfl, rfl, rfl, rfl⟩ := H
              go_enter Try.func13, Try.ntmps13
              go_wp2_with (first | (go_at_call 23; (with_reducible refine (penumbraref44_Next.calls k a0 3 32 t101 t102 _ A6.out).mono ?_); rintro e w' ⟨rfl, ⟨nd, rfl⟩⟩; (try first | exact ⟨rfl, _, World.drewN_drewN _ _ _⟩ | exact ⟨rfl, _, Eq.trans (World.drewN_drewN _ _ _) (congrArg (World.drewN _) (Nat.add_assoc _ _ _))⟩)) | (go_at_call 23; (with_reducible refine (penumbraref44_Next.calls k a0 t102 10 t103 t104 _ A8.out).mono ?_); rintro e w' ⟨rfl, ⟨nd, rfl⟩⟩; (try first | exact ⟨rfl, _, World.drewN_drewN _ _ _⟩ | exact ⟨rfl, _, Eq.trans (World.drewN_drewN _ _ _) (congrArg (World.drewN _) (Nat.add_assoc _ _ _))⟩)))
              repeat (go_quiet (first | (go_at_call 23; (with_reducible refine (penumbraref44_Next.calls k a0 3 32 t101 t102 _ A6.out).mono ?_); rintro e w' ⟨rfl, ⟨nd, rfl⟩⟩; (try first | exact ⟨rfl, _, World.drewN_drewN _ _ _⟩ | exact ⟨rfl, _, Eq.trans (World.drewN_drewN _ _ _) (congrArg (World.drewN _) (Nat.add_assoc _ _ _))⟩)) | (go_at_call 23; (with_reducible refine (penumbraref44_Next.calls k a0 t102 10 t103 t104 _ A8.out).mono ?_); rintro e w' ⟨rfl, ⟨nd, rfl⟩⟩; (try first | exact ⟨rfl, _, World.drewN_drewN _ _ _⟩ | exact ⟨rfl, _, Eq.trans (World.drewN_drewN _ _ _) (congrArg (World.drewN _) (Nat.add_assoc _ _ _))⟩))); try go_wp2_with (first | (go_at_call 23; (with_reducible refine (penumbraref44_Next.calls k a0 3 32 t101 t102 _ A6.out).mono ?_); rintro e w' ⟨rfl, ⟨nd, rfl⟩⟩; (try first | exact ⟨rfl, _, World.drewN_drewN _ _ _⟩ | exact ⟨rfl, _, Eq.trans (World.drewN_drewN _ _ _) (congrArg (World.drewN _) (Nat.add_assoc _ _ _))⟩)) | (go_at_call 23; (with_reducible refine (penumbraref44_Next.calls k a0 t102 10 t103 t104 _ A8.out).mono ?_); rintro e w' ⟨rfl, ⟨nd, rfl⟩⟩; (try first | exact ⟨rfl, _, World.drewN_drewN _ _ _⟩ | exact ⟨rfl, _, Eq.trans (World.drewN_drewN _ _ _) (congrArg (World.drewN _) (Nat.add_assoc _ _ _))⟩))))
              refine bodyPost_ret (results_list (rs := [.tmp 2, .tmp 3, .tmp 4, .tmp 5]) rfl (by simp) (.tmp (.tmp (.tmp (.tmp .nil))))) rfl ?_
              exact ⟨by first | rfl | (simp; done) | (simp [*]; done), by repeat (first | exact Drawn0.refl _ | apply Drawn0.step)⟩
            · rw [if_neg c9] at H
              have c9b0 : decide (t104 < 0) = false := decide_eq_false c9
              clear c9
              replace H := Option.bind_eq_some_iff.mp H
              obtain ⟨⟨t105, t106⟩, A100, H⟩ := H
              replace H : (if t106 < 0 then (some (0, 0, (⟨#[]⟩ : ByteArray), 5)) else ((penumbraref44_Number.f k t101).bind fun t107 => ((penumbraref44_Number.f k t103).bind fun t108 => (if t107 < 0 then (penumbraref44_Decode.j0 k a0 t106 t107 t108 true) else (if t108 < 0 then (penumbraref44_Decode.j0 k a0 t106 t107 t108 true) else (penumbraref44_Decode.j0 k a0 t106 t107 t108 (t105.toList != ([50, 53, 53] : List UInt8)))))))) = some (r1, r2, r3, r4) := H
              have A10 := Aside0.mk A100
              clear A100
              by_cases c11 : t106 < 0
              · rw [if_pos c11] at H
                have c11b0 : decide (t106 < 0) = true := decide_eq_true c11
                clear c11
                simp only [Option.some.injEq, Prod.mk.injEq] at H
                obtain ⟨rfl, rfl, rfl, rfl⟩ := H
                go_enter Try.func13, Try.ntmps13
                go_wp2_with (first | (go_at_call 23; (with_reducible refine (penumbraref44_Next.calls k a0 3 32 t101 t102 _ A6.out).mono ?_); rintro e w' ⟨rfl, ⟨nd, rfl⟩⟩; (try first | exact ⟨rfl, _, World.drewN_drewN _ _ _⟩ | exact ⟨rfl, _, Eq.trans (World.drewN_drewN _ _ _) (congrArg (World.drewN _) (Nat.add_assoc _ _ _))⟩)) | (go_at_call 23; (with_reducible refine (penumbraref44_Next.calls k a0 t102 10 t103 t104 _ A8.out).mono ?_); rintro e w' ⟨rfl, ⟨nd, rfl⟩⟩; (try first | exact ⟨rfl, _, World.drewN_drewN _ _ _⟩ | exact ⟨rfl, _, Eq.trans (World.drewN_drewN _ _ _) (congrArg (World.drewN _) (Nat.add_assoc _ _ _))⟩)) | (go_at_call 23; (with_reducible refine (penumbraref44_Next.calls k a0 t104 10 t105 t106 _ A10.out).mono ?_); rintro e w' ⟨rfl, ⟨nd, rfl⟩⟩; (try first | exact ⟨rfl, _, World.drewN_drewN _ _ _⟩ | exact ⟨rfl, _, Eq.trans (World.drewN_drewN _ _ _) (congrArg (World.drewN _) (Nat.add_assoc _ _ _))⟩)))
                repeat (go_quiet (first | (go_at_call 23; (with_reducible refine (penumbraref44_Next.calls k a0 3 32 t101 t102 _ A6.out).mono ?_); rintro e w' ⟨rfl, ⟨nd, rfl⟩⟩; (try first | exact ⟨rfl, _, World.drewN_drewN _ _ _⟩ | exact ⟨rfl, _, Eq.trans (World.drewN_drewN _ _ _) (congrArg (World.drewN _) (Nat.add_assoc _ _ _))⟩)) | (go_at_call 23; (with_reducible refine (penumbraref44_Next.calls k a0 t102 10 t103 t104 _ A8.out).mono ?_); rintro e w' ⟨rfl, ⟨nd, rfl⟩⟩; (try first | exact ⟨rfl, _, World.drewN_drewN _ _ _⟩ | exact ⟨rfl, _, Eq.trans (World.drewN_drewN _ _ _) (congrArg (World.drewN _) (Nat.add_assoc _ _ _))⟩)) | (go_at_call 23; (with_reducible refine (penumbraref44_Next.calls k a0 t104 10 t105 t106 _ A10.out).mono ?_); rintro e w' ⟨rfl, ⟨nd, rfl⟩⟩; (try first | exact ⟨rfl, _, World.drewN_drewN _ _ _⟩ | exact ⟨rfl, _, Eq.trans (World.drewN_drewN _ _ _) (congrArg (World.drewN _) (Nat.add_assoc _ _ _))⟩))); try go_wp2_with (first | (go_at_call 23; (with_reducible refine (penumbraref44_Next.calls k a0 3 32 t101 t102 _ A6.out).mono ?_); rintro e w' ⟨rfl, ⟨nd, rfl⟩⟩; (try first | exact ⟨rfl, _, World.drewN_drewN _ _ _⟩ | exact ⟨rfl, _, Eq.trans (World.drewN_drewN _ _ _) (congrArg (World.drewN _) (Nat.add_assoc _ _ _))⟩)) | (go_at_call 23; (with_reducible refine (penumbraref44_Next.calls k a0 t102 10 t103 t104 _ A8.out).mono ?_); rintro e w' ⟨rfl, ⟨nd, rfl⟩⟩; (try first | exact ⟨rfl, _, World.drewN_drewN _ _ _⟩ | exact ⟨rfl, _, Eq.trans (World.drewN_drewN _ _ _) (congrArg (World.drewN _) (Nat.add_assoc _ _ _))⟩)) | (go_at_call 23; (with_reducible refine (penumbraref44_Next.calls k a0 t104 10 t105 t106 _ A10.out).mono ?_); rintro e w' ⟨rfl, ⟨nd, rfl⟩⟩; (try first | exact ⟨rfl, _, World.drewN_drewN _ _ _⟩ | exact ⟨rfl, _, Eq.trans (World.drewN_drewN _ _ _) (congrArg (World.drewN _) (Nat.add_assoc _ _ _))⟩))))
                refine bodyPost_ret (results_list (rs := [.tmp 2, .tmp 3, .tmp 4, .tmp 5]) rfl (by simp) (.tmp (.tmp (.tmp (.tmp .nil))))) rfl ?_
                exact ⟨by first | rfl | (simp; done) | (simp [*]; done), by repeat (first | exact Drawn0.refl _ | apply Drawn0.step)⟩
              · rw [if_neg c11] at H
                have c11b0 : decide (t106 < 0) = false := decide_eq_false c11
                clear c11
                replace H := Option.bind_eq_some_iff.mp H
                obtain ⟨t107, A120, H⟩ := H
                replace H : ((penumbraref44_Number.f k t103).bind fun t108 => (if t107 < 0 then (penumbraref44_Decode.j0 k a0 t106 t107 t108 true) else (if t108 < 0 then (penumbraref44_Decode.j0 k a0 t106 t107 t108 true) else (penumbraref44_Decode.j0 k a0 t106 t107 t108 (t105.toList != ([50, 53, 53] : List UInt8)))))) = some (r1, r2, r3, r4) := H
                have A12 := Aside0.mk A120
                clear A120
                replace H := Option.bind_eq_some_iff.mp H
                obtain ⟨t108, A130, H⟩ := H
                replace H : (if t107 < 0 then (penumbraref44_Decode.j0 k a0 t106 t107 t108 true) else (if t108 < 0 then (penumbraref44_Decode.j0 k a0 t106 t107 t108 true) else (penumbraref44_Decode.j0 k a0 t106 t107 t108 (t105.toList != ([50, 53, 53] : List UInt8))))) = some (r1, r2, r3, r4) := H
                have A13 := Aside0.mk A130
                clear A130
                have HC14 := Aside0.mk H
                clear H
                go_enter Try.func13, Try.ntmps13
                go_upto_region 16 with (first | (go_at_call 23; (with_reducible refine (penumbraref44_Next.calls k a0 3 32 t101 t102 _ A6.out).mono ?_); rintro e w' ⟨rfl, ⟨nd, rfl⟩⟩; (try first | exact ⟨rfl, _, World.drewN_drewN _ _ _⟩ | exact ⟨rfl, _, Eq.trans (World.drewN_drewN _ _ _) (congrArg (World.drewN _) (Nat.add_assoc _ _ _))⟩)) | (go_at_call 23; (with_reducible refine (penumbraref44_Next.calls k a0 t102 10 t103 t104 _ A8.out).mono ?_); rintro e w' ⟨rfl, ⟨nd, rfl⟩⟩; (try first | exact ⟨rfl, _, World.drewN_drewN _ _ _⟩ | exact ⟨rfl, _, Eq.trans (World.drewN_drewN _ _ _) (congrArg (World.drewN _) (Nat.add_assoc _ _ _))⟩)) | (go_at_call 23; (with_reducible refine (penumbraref44_Next.calls k a0 t104 10 t105 t106 _ A10.out).mono ?_); rintro e w' ⟨rfl, ⟨nd, rfl⟩⟩; (try first | exact ⟨rfl, _, World.drewN_drewN _ _ _⟩ | exact ⟨rfl, _, Eq.trans (World.drewN_drewN _ _ _) (congrArg (World.drewN _) (Nat.add_assoc _ _ _))⟩)) | (go_at_call 24; (with_reducible refine (penumbraref44_Number.calls k t101 t107 _ A12.out).mono ?_); rintro e w' ⟨rfl, ⟨nd, rfl⟩⟩; (try first | exact ⟨rfl, _, World.drewN_drewN _ _ _⟩ | exact ⟨rfl, _, Eq.trans (World.drewN_drewN _ _ _) (congrArg (World.drewN _) (Nat.add_assoc _ _ _))⟩)) | (go_at_call 24; (with_reducible refine (penumbraref44_Number.calls k t103 t108 _ A13.out).mono ?_); rintro e w' ⟨rfl, ⟨nd, rfl⟩⟩; (try first | exact ⟨rfl, _, World.drewN_drewN _ _ _⟩ | exact ⟨rfl, _, Eq.trans (World.drewN_drewN _ _ _) (congrArg (World.drewN _) (Nat.add_assoc _ _ _))⟩)))
                repeat (go_quiet (first | (go_at_call 23; (with_reducible refine (penumbraref44_Next.calls k a0 3 32 t101 t102 _ A6.out).mono ?_); rintro e w' ⟨rfl, ⟨nd, rfl⟩⟩; (try first | exact ⟨rfl, _, World.drewN_drewN _ _ _⟩ | exact ⟨rfl, _, Eq.trans (World.drewN_drewN _ _ _) (congrArg (World.drewN _) (Nat.add_assoc _ _ _))⟩)) | (go_at_call 23; (with_reducible refine (penumbraref44_Next.calls k a0 t102 10 t103 t104 _ A8.out).mono ?_); rintro e w' ⟨rfl, ⟨nd, rfl⟩⟩; (try first | exact ⟨rfl, _, World.drewN_drewN _ _ _⟩ | exact ⟨rfl, _, Eq.trans (World.drewN_drewN _ _ _) (congrArg (World.drewN _) (Nat.add_assoc _ _ _))⟩)) | (go_at_call 23; (with_reducible refine (penumbraref44_Next.calls k a0 t104 10 t105 t106 _ A10.out).mono ?_); rintro e w' ⟨rfl, ⟨nd, rfl⟩⟩; (try first | exact ⟨rfl, _, World.drewN_drewN _ _ _⟩ | exact ⟨rfl, _, Eq.trans (World.drewN_drewN _ _ _) (congrArg (World.drewN _) (Nat.add_assoc _ _ _))⟩)) | (go_at_call 24; (with_reducible refine (penumbraref44_Number.calls k t101 t107 _ A12.out).mono ?_); rintro e w' ⟨rfl, ⟨nd, rfl⟩⟩; (try first | exact ⟨rfl, _, World.drewN_drewN _ _ _⟩ | exact ⟨rfl, _, Eq.trans (World.drewN_drewN _ _ _) (congrArg (World.drewN _) (Nat.add_assoc _ _ _))⟩)) | (go_at_call 24; (with_reducible refine (penumbraref44_Number.calls k t103 t108 _ A13.out).mono ?_); rintro e w' ⟨rfl, ⟨nd, rfl⟩⟩; (try first | exact ⟨rfl, _, World.drewN_drewN _ _ _⟩ | exact ⟨rfl, _, Eq.trans (World.drewN_drewN _ _ _) (congrArg (World.drewN _) (Nat.add_assoc _ _ _))⟩))); go_upto_region 16 with (first | (go_at_call 23; (with_reducible refine (penumbraref44_Next.calls k a0 3 32 t101 t102 _ A6.out).mono ?_); rintro e w' ⟨rfl, ⟨nd, rfl⟩⟩; (try first | exact ⟨rfl, _, World.drewN_drewN _ _ _⟩ | exact ⟨rfl, _, Eq.trans (World.drewN_drewN _ _ _) (congrArg (World.drewN _) (Nat.add_assoc _ _ _))⟩)) | (go_at_call 23; (with_reducible refine (penumbraref44_Next.calls k a0 t102 10 t103 t104 _ A8.out).mono ?_); rintro e w' ⟨rfl, ⟨nd, rfl⟩⟩; (try first | exact ⟨rfl, _, World.drewN_drewN _ _ _⟩ | exact ⟨rfl, _, Eq.trans (World.drewN_drewN _ _ _) (congrArg (World.drewN _) (Nat.add_assoc _ _ _))⟩)) | (go_at_call 23; (with_reducible refine (penumbraref44_Next.calls k a0 t104 10 t105 t106 _ A10.out).mono ?_); rintro e w' ⟨rfl, ⟨nd, rfl⟩⟩; (try first | exact ⟨rfl, _, World.drewN_drewN _ _ _⟩ | exact ⟨rfl, _, Eq.trans (World.drewN_drewN _ _ _) (congrArg (World.drewN _) (Nat.add_assoc _ _ _))⟩)) | (go_at_call 24; (with_reducible refine (penumbraref44_Number.calls k t101 t107 _ A12.out).mono ?_); rintro e w' ⟨rfl, ⟨nd, rfl⟩⟩; (try first | exact ⟨rfl, _, World.drewN_drewN _ _ _⟩ | exact ⟨rfl, _, Eq.trans (World.drewN_drewN _ _ _) (congrArg (World.drewN _) (Nat.add_assoc _ _ _))⟩)) | (go_at_call 24; (with_reducible refine (penumbraref44_Number.calls k t103 t108 _ A13.out).mono ?_); rintro e w' ⟨rfl, ⟨nd, rfl⟩⟩; (try first | exact ⟨rfl, _, World.drewN_drewN _ _ _⟩ | exact ⟨rfl, _, Eq.trans (World.drewN_drewN _ _ _) (congrArg (World.drewN _) (Nat.add_assoc _ _ _))⟩))))
                (try simp only [Act.put, List.setIfInBounds_toArray, List.set_cons_zero, List.set_cons_succ])
                go_cut [56] (fun v56 wc => ∃ (kq : Nat) (x56_13 : Bool), v56 = .bool x56_13 ∧ Aside0 (penumbraref44_Decode.j0 kq a0 t106 t107 t108 x56_13 = some (r1, r2, r3, r4)) ∧ Aside0 (kq ≤ k) ∧ Drawn0 w wc)
                case first =>
                  have H := HC14.out
                  clear HC14
                  by_cases c15 : t107 < 0
                  · rw [if_pos c15] at H
                    have c15b0 : decide (t107 < 0) = true := decide_eq_true c15
                    clear c15
                    (first | rw [c15b0] | (simp only [i64_w, i32_w]; rw [c15b0]) | skip)
                    have H' := Aside0.mk H
                    clear H
                    go_wp2
                    repeat (go_quiet (fail); try go_wp2)
                    go_meet
                    case rel => exact ⟨_, (true), (by first | rfl | (simp; done) | (simp [*]; done)), H', ⟨by first | omega | exact Nat.le_refl _⟩, by repeat (first | exact Drawn0.refl _ | apply Drawn0.step)⟩
                  · rw [if_neg c15] at H
                    have c15b0 : decide (t107 < 0) = false := decide_eq_false c15
                    clear c15
                    (first | rw [c15b0] | (simp only [i64_w, i32_w]; rw [c15b0]) | skip)
                    by_cases c16 : t108 < 0
                    · rw [if_pos c16] at H
                      have c16b0 : decide (t108 < 0) = true := decide_eq_true c16
                      clear c16
                      have H' := Aside0.mk H
                      clear H
                      go_wp2
                      repeat (go_quiet (fail); try go_wp2)
                      go_meet
                      case rel => exact ⟨_, (true), (by first | rfl | (simp; done) | (simp [*]; done)), H', ⟨by first | omega | exact Nat.le_refl _⟩, by repeat (first | exact Drawn0.refl _ | apply Drawn0.step)⟩
                    · rw [if_neg c16] at H
                      have c16b0 : decide (t108 < 0) = false := decide_eq_false c16
                      clear c16
                      have H' := Aside0.mk H
                      clear H
                      go_wp2
                      repeat (go_quiet (fail); try go_wp2)
                      go_meet
                      case rel => exact ⟨_, ((t105.toList != ([50, 53, 53] : List UInt8))), (by first | rfl | (simp; done) | (simp [*]; done)), H', ⟨by first | omega | exact Nat.le_refl _⟩, by repeat (first | exact Drawn0.refl _ | apply Drawn0.step)⟩
                case rest =>
                  clear HC14
                  try clear c1
                  try clear c2
                  try clear c2b0
                  try clear c2b1
                  try clear p2
                  try clear c3
                  try clear c3b0
                  try clear c3b1
                  try clear c4
                  try clear c4b0
                  try clear c4b1
                  try clear c5
                  try clear c5b0
                  try clear c5b1
                  try clear c7
                  try clear c7b0
                  try clear c9
                  try clear c9b0
                  try clear c11
                  try clear c11b0
                  try clear c13
                  try clear c15
                  try clear c15b0
                  try clear c16
                  try clear c16b0
                  obtain ⟨kq, x56_13, rfl, HA, HJ13, ⟨mc13, rfl⟩⟩ := hcut
                  cases kq with
                  | zero => exact absurd HA.out (by simp [penumbraref44_Decode.j0])
                  | succ kj13 =>
                    have H := HA.out
                    clear HA
                    simp only [penumbraref44_Decode.j0] at H
                    by_cases c17 : x56_13 = true
                    · subst c17
                      have H1 : (some (0, 0, (⟨#[]⟩ : ByteArray), 6)) = some (r1, r2, r3, r4) := by rw [if_pos rfl] at H; exact H
                      clear H
                      have H := H1
                      clear H1
                      simp only [Option.some.injEq, Prod.mk.injEq] at H
                      obtain ⟨rfl, rfl, rfl, rfl⟩ := H
                      go_wp2
                      repeat (go_quiet (fail); try go_wp2)
                      refine bodyPost_ret (results_list (rs := [.tmp 2, .tmp 3, .tmp 4, .tmp 5]) rfl (by simp) (.tmp (.tmp (.tmp (.tmp .nil))))) rfl ?_
                      exact ⟨by first | rfl | (simp; done) | (simp [*]; done), by repeat (first | exact Drawn0.refl _ | apply Drawn0.step)⟩
                    · replace c17 := Bool.eq_false_iff.mpr c17
                      subst c17
                      have H1 : (if t107 < 1 then (penumbraref44_Decode.j1 kj13 a0 t106 t107 t108 true) else (if t108 < 1 then (penumbraref44_Decode.j1 kj13 a0 t106 t107 t108 true) else (if t107 > 8192 then (penumbraref44_Decode.j1 kj13 a0 t106 t107 t108 true) else (if t108 > 8192 then (penumbraref44_Decode.j1 kj13 a0 t106 t107 t108 true) else (penumbraref44_Decode.j1 kj13 a0 t106 t107 t108 (decide ((wrap64 (t107 * t108)) > 65536))))))) = some (r1, r2, r3, r4) := by rw [if_neg (show ¬ (false = true) by decide)] at H; exact H
                      clear H
                      have H := H1
                      clear H1
                      have HC18 := Aside0.mk H
                      clear H
                      go_upto_region 18 with (fail)
                      repeat (go_quiet (fail); go_upto_region 18 with (fail))
                      go_cut [76] (fun v76 wc => ∃ (kq : Nat) (x76_17 : Bool), v76 = .bool x76_17 ∧ Aside0 (penumbraref44_Decode.j1 kq a0 t106 t107 t108 x76_17 = some (r1, r2, r3, r4)) ∧ Aside0 (kq ≤ kj13) ∧ Drawn0 w wc)
                      case first =>
                        have H := HC18.out
                        clear HC18
                        by_cases c19 : t107 < 1
                        · rw [if_pos c19] at H
                          have c19b0 : decide (t107 < 1) = true := decide_eq_true c19
                          clear c19
                          (first | rw [c19b0] | (simp only [i64_w, i32_w]; rw [c19b0]) | skip)
                          have H' := Aside0.mk H
                          clear H
                          go_wp2
                          repeat (go_quiet (fail); try go_wp2)
                          go_meet
                          case rel => exact ⟨_, (true), (by first | rfl | (simp; done) | (simp [*]; done)), H', ⟨by have := HJ13.out; first | omega | exact Nat.le_refl _⟩, by repeat (first | exact Drawn0.refl _ | apply Drawn0.step)⟩
                        · rw [if_neg c19] at H
                          have c19b0 : decide (t107 < 1) = false := decide_eq_false c19
                          clear c19
                          (first | rw [c19b0] | (simp only [i64_w, i32_w]; rw [c19b0]) | skip)
                          by_cases c20 : t108 < 1
                          · rw [if_pos c20] at H
                            have c20b0 : decide (t108 < 1) = true := decide_eq_true c20
                            clear c20
                            have H' := Aside0.mk H
                            clear H
                            go_wp2
                            repeat (go_quiet (fail); try go_wp2)
                            go_meet
                            case rel => exact ⟨_, (true), (by first | rfl | (simp; done) | (simp [*]; done)), H', ⟨by have := HJ13.out; first | omega | exact Nat.le_refl _⟩, by repeat (first | exact Drawn0.refl _ | apply Drawn0.step)⟩
                          · rw [if_neg c20] at H
                            have c20b0 : decide (t108 < 1) = false := decide_eq_false c20
                            clear c20
                            by_cases c21 : t107 > 8192
                            · rw [if_pos c21] at H
                              have c21b0 : decide (8192 < t107) = true := decide_eq_true c21
                              clear c21
                              have H' := Aside0.mk H
                              clear H
                              go_wp2
                              repeat (go_quiet (fail); try go_wp2)
                              go_meet
                              case rel => exact ⟨_, (true), (by first | rfl | (simp; done) | (simp [*]; done)), H', ⟨by have := HJ13.out; first | omega | exact Nat.le_refl _⟩, by repeat (first | exact Drawn0.refl _ | apply Drawn0.step)⟩
                            · rw [if_neg c21] at H
                              have c21b0 : decide (8192 < t107) = false := decide_eq_false c21
                              clear c21
                              by_cases c22 : t108 > 8192
                              · rw [if_pos c22] at H
                                have c22b0 : decide (8192 < t108) = true := decide_eq_true c22
                                clear c22
                                have H' := Aside0.mk H
                                clear H
                                go_wp2
                                repeat (go_quiet (fail); try go_wp2)
                                go_meet
                                case rel => exact ⟨_, (true), (by first | rfl | (simp; done) | (simp [*]; done)), H', ⟨by have := HJ13.out; first | omega | exact Nat.le_refl _⟩, by repeat (first | exact Drawn0.refl _ | apply Drawn0.step)⟩
                              · rw [if_neg c22] at H
                                have c22b0 : decide (8192 < t108) = false := decide_eq_false c22
                                clear c22
                                have H' := Aside0.mk H
                                clear H
                                go_wp2
                                repeat (go_quiet (fail); try go_wp2)
                                go_meet
                                case rel => exact ⟨_, (decide ((wrap64 (t107 * t108)) > 65536)), (by first | rfl | (simp; done) | (simp [*]; done)), H', ⟨by have := HJ13.out; first | omega | exact Nat.le_refl _⟩, by repeat (first | exact Drawn0.refl _ | apply Drawn0.step)⟩
                      case rest =>
                        clear HC18
                        try clear c1
                        try clear c2
                        try clear c2b0
                        try clear c2b1
                        try clear p2
                        try clear c3
                        try clear c3b0
                        try clear c3b1
                        try clear c4
                        try clear c4b0
                        try clear c4b1
                        try clear c5
                        try clear c5b0
                        try clear c5b1
                        try clear p6
                        try clear c7
                        try clear c7b0
                        try clear c9
                        try clear c9b0
                        try clear c11
                        try clear c11b0
                        try clear c13
                        try clear c15
                        try clear c15b0
                        try clear c16
                        try clear c16b0
                        try clear c17
                        try clear c19
                        try clear c19b0
                        try clear c20
                        try clear c20b0
                        try clear c21
                        try clear c21b0
                        try clear c22
                        try clear c22b0
                        try clear p2
                        obtain ⟨kq, x76_17, rfl, HA, HJ17, ⟨mc17, rfl⟩⟩ := hcut
                        cases kq with
                        | zero => exact absurd HA.out (by simp [penumbraref44_Decode.j1])
                        | succ kj17 =>
                          have H := HA.out
                          clear HA
                          simp only [penumbraref44_Decode.j1] at H
                          by_cases c23 : x76_17 = true
                          · subst c23
                            have H1 : (some (0, 0, (⟨#[]⟩ : ByteArray), 3)) = some (r1, r2, r3, r4) := by rw [if_pos rfl] at H; exact H
                            clear H
                            have H := H1
                            clear H1
                            simp only [Option.some.injEq, Prod.mk.injEq] at H
                            obtain ⟨rfl, rfl, rfl, rfl⟩ := H
                            go_wp2
                            repeat (go_quiet (fail); try go_wp2)
                            refine bodyPost_ret (results_list (rs := [.tmp 2, .tmp 3, .tmp 4, .tmp 5]) rfl (by simp) (.tmp (.tmp (.tmp (.tmp .nil))))) rfl ?_
                            exact ⟨by first | rfl | (simp; done) | (simp [*]; done), by repeat (first | exact Drawn0.refl _ | apply Drawn0.step)⟩
                          · replace c23 := Bool.eq_false_iff.mpr c23
                            subst c23
                            have H1 : (if (wrap64 ((a0.size : Int) - t106)) < (wrap64 ((wrap64 (3 * t107)) * t108)) then (some (0, 0, (⟨#[]⟩ : ByteArray), 5)) else (if (wrap64 ((a0.size : Int) - t106)) > (wrap64 ((wrap64 (3 * t107)) * t108)) then (some (0, 0, (⟨#[]⟩ : ByteArray), 6)) else (if 0 ≤ t106 then (if t106 ≤ (a0.size : Int) then (some (t107, t108, a0.extract (t106 : Int).toNat a0.size, 0)) else (none)) else (none)))) = some (r1, r2, r3, r4) := by rw [if_neg (show ¬ (false = true) by decide)] at H; exact H
                            clear H
                            have H := H1
                            clear H1
                            by_cases c24 : (wrap64 ((a0.size : Int) - t106)) < (wrap64 ((wrap64 (3 * t107)) * t108))
                            · rw [if_pos c24] at H
                              have c24b0 : decide ((wrap64 ((a0.size : Int) - t106)) < (wrap64 ((wrap64 (3 * t107)) * t108))) = true := decide_eq_true c24
                              clear c24
                              simp only [Option.some.injEq, Prod.mk.injEq] at H
                              obtain ⟨rfl, rfl, rfl, rfl⟩ := H
                              go_wp2
                              repeat (go_quiet (fail); try go_wp2)
                              refine bodyPost_ret (results_list (rs := [.tmp 2, .tmp 3, .tmp 4, .tmp 5]) rfl (by simp) (.tmp (.tmp (.tmp (.tmp .nil))))) rfl ?_
                              exact ⟨by first | rfl | (simp; done) | (simp [*]; done), by repeat (first | exact Drawn0.refl _ | apply Drawn0.step)⟩
                            · rw [if_neg c24] at H
                              have c24b0 : decide ((wrap64 ((a0.size : Int) - t106)) < (wrap64 ((wrap64 (3 * t107)) * t108))) = false := decide_eq_false c24
                              clear c24
                              by_cases c25 : (wrap64 ((a0.size : Int) - t106)) > (wrap64 ((wrap64 (3 * t107)) * t108))
                              · rw [if_pos c25] at H
                                have c25b0 : decide ((wrap64 ((wrap64 (3 * t107)) * t108)) < (wrap64 ((a0.size : Int) - t106))) = true := decide_eq_true c25
                                clear c25
                                simp only [Option.some.injEq, Prod.mk.injEq] at H
                                obtain ⟨rfl, rfl, rfl, rfl⟩ := H
                                go_wp2
                                repeat (go_quiet (fail); try go_wp2)
                                refine bodyPost_ret (results_list (rs := [.tmp 2, .tmp 3, .tmp 4, .tmp 5]) rfl (by simp) (.tmp (.tmp (.tmp (.tmp .nil))))) rfl ?_
                                exact ⟨by first | rfl | (simp; done) | (simp [*]; done), by repeat (first | exact Drawn0.refl _ | apply Drawn0.step)⟩
                              · rw [if_neg c25] at H
                                have c25b0 : decide ((wrap64 ((wrap64 (3 * t107)) * t108)) < (wrap64 ((a0.size : Int) - t106))) = false := decide_eq_false c25
                                clear c25
                                by_cases c26 : 0 ≤ t106
                                · rw [if_pos c26] at H
                                  have c26b0 := eq_true c26
                                  have c26b1 : decide (0 ≤ t106) = true := decide_eq_true c26
                                  clear c26
                                  by_cases c27 : t106 ≤ (a0.size : Int)
                                  · rw [if_pos c27] at H
                                    have c27b0 := eq_true c27
                                    have c27b1 : decide (t106 ≤ (a0.size : Int)) = true := decide_eq_true c27
                                    clear c27
                                    simp only [Option.some.injEq, Prod.mk.injEq] at H
                                    obtain ⟨rfl, rfl, rfl, rfl⟩ := H
                                    go_wp2
                                    repeat (go_quiet (fail); try go_wp2)
                                    refine bodyPost_ret (results_list (rs := [.tmp 2, .tmp 3, .tmp 4, .tmp 5]) rfl (by simp) (.tmp (.tmp (.tmp (.tmp .nil))))) rfl ?_
                                    exact ⟨by first | rfl | (simp; done) | (simp [*]; done), by repeat (first | exact Drawn0.refl _ | apply Drawn0.step)⟩
                                  · rw [if_neg c27] at H
                                    exact absurd H (by simp)
                                · rw [if_neg c26] at H
                                  exact absurd H (by simp)
        · rw [if_neg c5] at H
          have c5b0 : ((a0.extract 0 3).toList == ([80, 54, 10] : List UInt8)) = false := beq_eq_false_iff_ne.mpr c5
          have c5b1 : ((a0.extract 0 3).toList != ([80, 54, 10] : List UInt8)) = true := bne_iff_ne.mpr c5
          simp only [Option.some.injEq, Prod.mk.injEq] at H
          obtain ⟨rfl, rfl, rfl, rfl⟩ := H
          go_enter Try.func13, Try.ntmps13
          go_wp2
          repeat (go_quiet (fail); try go_wp2)
          refine bodyPost_ret (results_list (rs := [.tmp 2, .tmp 3, .tmp 4, .tmp 5]) rfl (by simp) (.tmp (.tmp (.tmp (.tmp .nil))))) rfl ?_
          exact ⟨by first | rfl | (simp; done) | (simp [*]; done), by repeat (first | exact Drawn0.refl _ | apply Drawn0.step)⟩
      · rw [if_neg c4] at H
        exact absurd H (by simp)
    · rw [if_neg c3] at H
      exact absurd H (by simp)

/-! ### ppm_Gray: function 16 -/
def ppm_Gray.l0 : Nat → List Int → List Int → Int → Option (List Int × Int)
  | 0, _, _, _ => none
  | k + 1, x2, x9, x10 => if x10 < (x2.length : Int) then (if 0 ≤ x10 then (if 0 ≤ (wrap64 (x10 + 1)) then (if (wrap64 (x10 + 1)) < (x2.length : Int) then (if 0 ≤ (wrap64 (x10 + 2)) then (if (wrap64 (x10 + 2)) < (x2.length : Int) then ((some (([(wrap64 (Int.tdiv (wrap64 ((wrap64 ((wrap64 (rd x2 x10)) + (wrap64 (rd x2 (wrap64 (x10 + 1)))))) + (wrap64 (rd x2 (wrap64 (x10 + 2)))))) 3)) % 256, (wrap64 (Int.tdiv (wrap64 ((wrap64 ((wrap64 (rd x2 x10)) + (wrap64 (rd x2 (wrap64 (x10 + 1)))))) + (wrap64 (rd x2 (wrap64 (x10 + 2)))))) 3)) % 256, (wrap64 (Int.tdiv (wrap64 ((wrap64 ((wrap64 (rd x2 x10)) + (wrap64 (rd x2 (wrap64 (x10 + 1)))))) + (wrap64 (rd x2 (wrap64 (x10 + 2)))))) 3)) % 256] : List Int) : List Int)).bind fun y105 => (if x9.length + y105.length < 140737488355328 then (ppm_Gray.l0 k x2 (x9 ++ y105) (wrap64 (x10 + 3))) else (none))) else (none)) else (none)) else (none)) else (none)) else (none)) else (some (x9, 0))
def ppm_Gray.f (k : Nat) (a0 : Int) (a1 : Int) (l2 : List Int) : Option (List Int × Int) := (ppm_check.f k a0 a1 (l2.length : Int)).bind fun t101 => (if t101 = 0 then (ppm_Gray.l0 k l2 ([] : List Int) 0) else (some (([] : List Int), t101)))
theorem ppm_Gray.mono_l : ∀ k, (∀ y0 y1 y2, LeO (ppm_Gray.l0 k y0 y1 y2) (ppm_Gray.l0 (k + 1) y0 y1 y2))
  | 0 => fun _ _ _ r h => by simp [ppm_Gray.l0] at h
  | k + 1 => by
    have ih0 := ppm_Gray.mono_l k
    · intro y0 y1 y2
      unfold ppm_Gray.l0
      repeat' first
      | (with_reducible exact ih0 _ _ _)
      | (with_reducible exact ppm_check.mono _ _ _ _)
      | (with_reducible exact LeO.refl _)
      | (with_reducible exact LeO.none _)
      | (with_reducible refine LeO.ite ?_ ?_)
      | (with_reducible refine LeO.bind ?_ (fun _ => ?_))
      | exact ih0 _ _ _
      | exact ppm_check.mono _ _ _ _
      | exact LeO.none _
      | refine LeO.ite ?_ ?_
      | refine LeO.bind ?_ (fun _ => ?_)
theorem ppm_Gray.mono : ∀ a0 a1 a2 k, LeO (ppm_Gray.f k a0 a1 a2) (ppm_Gray.f (k + 1) a0 a1 a2) := by
  intro a0 a1 a2 k
  have ih0 := ppm_Gray.mono_l k
  unfold ppm_Gray.f
  repeat' first
      | (with_reducible exact ih0 _ _ _)
      | (with_reducible exact ppm_check.mono _ _ _ _)
      | (with_reducible exact LeO.refl _)
      | (with_reducible exact LeO.none _)
      | (with_reducible refine LeO.ite ?_ ?_)
      | (with_reducible refine LeO.bind ?_ (fun _ => ?_))
      | exact ih0 _ _ _
      | exact ppm_check.mono _ _ _ _
      | exact LeO.none _
      | refine LeO.ite ?_ ?_
      | refine LeO.bind ?_ (fun _ => ?_)
set_option maxHeartbeats 8000000 in
set_option maxRecDepth 100000 in
theorem ppm_Gray.calls (k : Nat) (a0 : Int) (a1 : Int) (A2 : Option Addr) (c2 : Nat) (l2 : List Int) (r1 : List Int) (r2 : Int) (w : World) (hr2 : Kd.C (Kd.int .u8) w A2 l2.length l2) (hc2 : l2.length ≤ c2) (h : ppm_Gray.f k a0 a1 l2 = some (r1, r2)) :
    Calls Try.prog 16 #[.int .i64 a0, .int .i64 a1, .slice A2 l2.length c2] w fun e w' => ∃ v0_ : Value, e = .returned (.tuple #[v0_, .int .i64 r2]) ∧ Kd.R (Kd.int .u8) 5 w' w.heap.size (fun _ => True) v0_ r1 ∧ Below w.heap.size w w' := by
  have HR2 := Aside0.mk hr2
  have HC2 := Aside0.mk hc2
  clear hr2 hc2
  have HB := Aside0.mk (Below.refl w.heap.size w)
  have H : ((ppm_check.f k a0 a1 (l2.length : Int)).bind fun t101 => (if t101 = 0 then (ppm_Gray.l0 k l2 ([] : List Int) 0) else (some (([] : List Int), t101)))) = some (r1, r2) := h
  clear h
  replace H := Option.bind_eq_some_iff.mp H
  obtain ⟨t101, A40, H⟩ := H
  replace H : (if t101 = 0 then (ppm_Gray.l0 k l2 ([] : List Int) 0) else (some (([] : List Int), t101))) = some (r1, r2) := H
  have A4 := Aside0.mk A40
  clear A40
  by_cases c5 : t101 = 0
  · rw [if_pos c5] at H
    have c5b0 : (t101 == 0) = true := beq_iff_eq.mpr c5
    have c5b1 : (t101 != 0) = false := bne_eq_false_iff_eq.mpr c5
    clear c5
    have H' := Aside0.mk H
    clear H
    go_enter Try.func16, Try.ntmps16
    go_wp2_with (first | (go_at_call 17; (with_reducible refine (ppm_check.calls k a0 a1 (l2.length : Int) t101 _ A4.out).mono ?_); rintro e w6 ⟨rfl, hb⟩; have n0_ := Aside0.mk (below_step (by repeat (first | (with_reducible first | exact HB.out | apply below_alloc | apply pw_below_drewN | apply below_drew1) | exact HB.out)) hb); clear HB; have HB := n0_; clear n0_; (try clear hb); (try clear hb2); (try clear hk); (try clear hi)))
    repeat (go_quiet (first | (go_at_call 17; (with_reducible refine (ppm_check.calls k a0 a1 (l2.length : Int) t101 _ A4.out).mono ?_); rintro e w6 ⟨rfl, hb⟩; have n0_ := Aside0.mk (below_step (by repeat (first | (with_reducible first | exact HB.out | apply below_alloc | apply pw_below_drewN | apply below_drew1) | exact HB.out)) hb); clear HB; have HB := n0_; clear n0_; (try clear hb); (try clear hb2); (try clear hk); (try clear hi))); try go_wp2_with (first | (go_at_call 17; (with_reducible refine (ppm_check.calls k a0 a1 (l2.length : Int) t101 _ A4.out).mono ?_); rintro e w6 ⟨rfl, hb⟩; have n0_ := Aside0.mk (below_step (by repeat (first | (with_reducible first | exact HB.out | apply below_alloc | apply pw_below_drewN | apply below_drew1) | exact HB.out)) hb); clear HB; have HB := n0_; clear n0_; (try clear hb); (try clear hb2); (try clear hk); (try clear hi))))
    go_loopg [9, 10] k (fun kq v9 v10 w' => ∃ (x9_1 : List Int) (x10_1 : Int), v10 = .int .i64 x10_1 ∧ Aside0 (ppm_Gray.l0 kq l2 x9_1 x10_1 = some (r1, r2)) ∧ Aside0 (kq ≤ k) ∧ Aside0 (Kd.R (Kd.int .u8) 5 w' w.heap.size (fun _ => True) v9 x9_1) ∧ Aside0 (Below w.heap.size w w'))
    case atStart => exact ⟨(([] : List Int)), (0), (by first | rfl | (simp; done) | (simp [*]; done)), H', ⟨Nat.le_refl _⟩, ⟨by first | exact Kd.R_nil _ _ _ _ _ | exact Kd.N_nil _ _ _ _ _ | exact Kd.V_nil _ _ _ _ _ | exact Kd.Q_nil _ _ _ _ _ | exact Kd.S_nil _ _ _ _ _⟩, ⟨by repeat (first | (with_reducible first | exact HB.out | apply below_alloc | apply pw_below_drewN | apply below_drew1) | exact HB.out)⟩⟩
    case round =>
      clear H'
      try clear c1
      try clear c2
      try clear p2
      try clear c5
      try clear c5b0
      try clear c5b1
      obtain ⟨x9_1, x10_1, rfl, HA, HK1, HO_9, HB⟩ := hrel
      cases gk with
      | zero => exact absurd HA.out (by simp [ppm_Gray.l0])
      | succ k1 =>
        have H := HA.out
        clear HA
        simp only [ppm_Gray.l0] at H
        by_cases c7 : x10_1 < (l2.length : Int)
        · rw [if_pos c7] at H
          have c7b0 : decide (x10_1 < (l2.length : Int)) = true := decide_eq_true c7
          clear c7
          by_cases c8 : 0 ≤ x10_1
          · rw [if_pos c8] at H
            have c8b0 : decide (0 ≤ x10_1) = true := decide_eq_true c8
            clear c8
            obtain ⟨ji9, hji9⟩ : ∃ j_ : Int, (wrap64 (x10_1 + 1)) = j_ := ⟨_, rfl⟩
            replace H : (if 0 ≤ (ji9) then (if (ji9) < (l2.length : Int) then (if 0 ≤ (wrap64 (x10_1 + 2)) then (if (wrap64 (x10_1 + 2)) < (l2.length : Int) then ((some (([(wrap64 (Int.tdiv (wrap64 ((wrap64 ((wrap64 (rd l2 x10_1)) + (wrap64 (rd l2 (ji9))))) + (wrap64 (rd l2 (wrap64 (x10_1 + 2)))))) 3)) % 256, (wrap64 (Int.tdiv (wrap64 ((wrap64 ((wrap64 (rd l2 x10_1)) + (wrap64 (rd l2 (ji9))))) + (wrap64 (rd l2 (wrap64 (x10_1 + 2)))))) 3)) % 256, (wrap64 (Int.tdiv (wrap64 ((wrap64 ((wrap64 (rd l2 x10_1)) + (wrap64 (rd l2 (ji9))))) + (wrap64 (rd l2 (wrap64 (x10_1 + 2)))))) 3)) % 256] : List Int) : List Int)).bind fun y105 => (if x9_1.length + y105.length < 140737488355328 then (ppm_Gray.l0 k1 l2 (x9_1 ++ y105) (wrap64 (x10_1 + 3))) else (none))) else (none)) else (none)) else (none)) else (none)) = some (r1, r2) := by first | (rw [hji9] at H; exact H) | (simp only [hji9] at H ⊢; exact H)
            have hji9w : (IntKind.i64.wrap (x10_1 + 1)) = ji9 := (i64_w _).trans hji9
            by_cases c10 : 0 ≤ (ji9)
            · rw [if_pos c10] at H
              have c10b0 : decide (0 ≤ (ji9)) = true := decide_eq_true c10
              clear c10
              by_cases c11 : (ji9) < (l2.length : Int)
              · rw [if_pos c11] at H
                have c11b0 : decide ((ji9) < (l2.length : Int)) = true := decide_eq_true c11
                clear c11
                obtain ⟨ji12, hji12⟩ : ∃ j_ : Int, (wrap64 (x10_1 + 2)) = j_ := ⟨_, rfl⟩
                replace H : (if 0 ≤ (ji12) then (if (ji12) < (l2.length : Int) then ((some (([(wrap64 (Int.tdiv (wrap64 ((wrap64 ((wrap64 (rd l2 x10_1)) + (wrap64 (rd l2 (ji9))))) + (wrap64 (rd l2 (ji12))))) 3)) % 256, (wrap64 (Int.tdiv (wrap64 ((wrap64 ((wrap64 (rd l2 x10_1)) + (wrap64 (rd l2 (ji9))))) + (wrap64 (rd l2 (ji12))))) 3)) % 256, (wrap64 (Int.tdiv (wrap64 ((wrap64 ((wrap64 (rd l2 x10_1)) + (wrap64 (rd l2 (ji9))))) + (wrap64 (rd l2 (ji12))))) 3)) % 256] : List Int) : List Int)).bind fun y105 => (if x9_1.length + y105.length < 140737488355328 then (ppm_Gray.l0 k1 l2 (x9_1 ++ y105) (wrap64 (x10_1 + 3))) else (none))) else (none)) else (none)) = some (r1, r2) := by first | (rw [hji12] at H; exact H) | (simp only [hji12] at H ⊢; exact H)
                have hji12w : (IntKind.i64.wrap (x10_1 + 2)) = ji12 := (i64_w _).trans hji12
                by_cases c13 : 0 ≤ (ji12)
                · rw [if_pos c13] at H
                  have c13b0 : decide (0 ≤ (ji12)) = true := decide_eq_true c13
                  clear c13
                  by_cases c14 : (ji12) < (l2.length : Int)
                  · rw [if_pos c14] at H
                    have c14b0 : decide ((ji12) < (l2.length : Int)) = true := decide_eq_true c14
                    clear c14
                    obtain ⟨y105, hy105⟩ : ∃ y_ : List Int, y_ = (([(wrap64 (Int.tdiv (wrap64 ((wrap64 ((wrap64 (rd l2 x10_1)) + (wrap64 (rd l2 (ji9))))) + (wrap64 (rd l2 (ji12))))) 3)) % 256, (wrap64 (Int.tdiv (wrap64 ((wrap64 ((wrap64 (rd l2 x10_1)) + (wrap64 (rd l2 (ji9))))) + (wrap64 (rd l2 (ji12))))) 3)) % 256, (wrap64 (Int.tdiv (wrap64 ((wrap64 ((wrap64 (rd l2 x10_1)) + (wrap64 (rd l2 (ji9))))) + (wrap64 (rd l2 (ji12))))) 3)) % 256] : List Int)) := ⟨_, rfl⟩
                    replace H : (if x9_1.length + y105.length < 140737488355328 then (ppm_Gray.l0 k1 l2 (x9_1 ++ y105) (wrap64 (x10_1 + 3))) else (none)) = some (r1, r2) := by first | (rw [hy105]; with_reducible exact H) | (have H2_ := (Option.bind_some _ _).symm.trans H; rw [hy105]; with_reducible exact H2_) | (have H2_ := (Option.bind_some _ _).symm.trans H; with_reducible exact H2_) | with_reducible exact H | (rw [hy105]; exact H) | exact H
                    have Ny105 := Aside0.mk hy105
                    clear hy105
                    by_cases c15 : x9_1.length + y105.length < 140737488355328
                    · rw [if_pos c15] at H
                      have LMc15 := Aside0.mk c15
                      clear c15
                      obtain ⟨y108, hy108⟩ : ∃ y_ : List Int, y_ = (x9_1 ++ y105) := ⟨_, rfl⟩
                      replace H : (ppm_Gray.l0 k1 l2 y108 (wrap64 (x10_1 + 3))) = some (r1, r2) := by first | (rw [hy108]; with_reducible exact H) | (have H2_ := (Option.bind_some _ _).symm.trans H; rw [hy108]; with_reducible exact H2_) | (have H2_ := (Option.bind_some _ _).symm.trans H; with_reducible exact H2_) | with_reducible exact H | (rw [hy108]; exact H) | exact H
                      have Ny108 := Aside0.mk hy108
                      clear hy108
                      have H' := Aside0.mk H
                      clear H
                      have p102 : 0 ≤ (x10_1 : Int) := of_decide_eq_true (by first | (with_reducible assumption) | assumption)
                      have q102 : x10_1 < (l2.length : Int) := of_decide_eq_true (by first | (with_reducible assumption) | assumption)
                      obtain ⟨ad102, e102, hx102_0⟩ := Kd.at_int HR2.out x10_1 p102 q102
                      cases e102
                      replace hx102_0 := (HB.out.cell (World.block_lt_of_cell? w _ hx102_0)).trans hx102_0
                      replace p102 := eq_true p102
                      replace q102 := eq_true q102
                      have p103 : 0 ≤ ((ji9) : Int) := of_decide_eq_true (by first | (with_reducible assumption) | assumption)
                      have q103 : (ji9) < (l2.length : Int) := of_decide_eq_true (by first | (with_reducible assumption) | assumption)
                      obtain ⟨ad103, e103, hx103_0⟩ := Kd.at_int HR2.out (ji9) p103 q103
                      obtain rfl : ad102 = ad103 := (by injection e103)
                      replace hx103_0 := (HB.out.cell (World.block_lt_of_cell? w _ hx103_0)).trans hx103_0
                      replace p103 := eq_true p103
                      replace q103 := eq_true q103
                      have p104 : 0 ≤ ((ji12) : Int) := of_decide_eq_true (by first | (with_reducible assumption) | assumption)
                      have q104 : (ji12) < (l2.length : Int) := of_decide_eq_true (by first | (with_reducible assumption) | assumption)
                      obtain ⟨ad104, e104, hx104_0⟩ := Kd.at_int HR2.out (ji12) p104 q104
                      obtain rfl : ad102 = ad104 := (by injection e104)
                      replace hx104_0 := (HB.out.cell (World.block_lt_of_cell? w _ hx104_0)).trans hx104_0
                      replace p104 := eq_true p104
                      replace q104 := eq_true q104
                      go_wp2_with (first | ((with_reducible refine gate_dst (N := 51) rfl ?_); refine Kd.R_lit (Kd.int .u8) _ 5 ?hg (N := 51) ?hd (xs := ([(wrap64 (Int.tdiv (wrap64 ((wrap64 ((wrap64 (rd l2 x10_1)) + (wrap64 (rd l2 (ji9))))) + (wrap64 (rd l2 (ji12))))) 3)) % 256, (wrap64 (Int.tdiv (wrap64 ((wrap64 ((wrap64 (rd l2 x10_1)) + (wrap64 (rd l2 (ji9))))) + (wrap64 (rd l2 (ji12))))) 3)) % 256, (wrap64 (Int.tdiv (wrap64 ((wrap64 ((wrap64 (rd l2 x10_1)) + (wrap64 (rd l2 (ji9))))) + (wrap64 (rd l2 (ji12))))) 3)) % 256] : List Int)) (inner := [.int .u8 ((wrap64 (Int.tdiv (wrap64 ((wrap64 ((wrap64 (rd l2 x10_1)) + (wrap64 (rd l2 (ji9))))) + (wrap64 (rd l2 (ji12))))) 3)) % 256), .int .u8 ((wrap64 (Int.tdiv (wrap64 ((wrap64 ((wrap64 (rd l2 x10_1)) + (wrap64 (rd l2 (ji9))))) + (wrap64 (rd l2 (ji12))))) 3)) % 256), .int .u8 ((wrap64 (Int.tdiv (wrap64 ((wrap64 ((wrap64 (rd l2 x10_1)) + (wrap64 (rd l2 (ji9))))) + (wrap64 (rd l2 (ji12))))) 3)) % 256)]) (ok := fun _ => True) (okp := fun _ => True) ?hr ?hp (fun _ hk => hk) trivial (Below.refl _ _) (Nat.le_refl _) (by simp) ?_; (case hd => rfl); (case hg => rfl); (case hr => first | (go_simp; done) | (go_simp; rfl)); (case hp => exact (Reps.one (show Kd.M (Kd.int .u8) _ _ _ ((wrap64 (Int.tdiv (wrap64 ((wrap64 ((wrap64 (rd l2 x10_1)) + (wrap64 (rd l2 (ji9))))) + (wrap64 (rd l2 (ji12))))) 3)) % 256) [.int .u8 ((wrap64 (Int.tdiv (wrap64 ((wrap64 ((wrap64 (rd l2 x10_1)) + (wrap64 (rd l2 (ji9))))) + (wrap64 (rd l2 (ji12))))) 3)) % 256)] from rfl) (Reps.one (show Kd.M (Kd.int .u8) _ _ _ ((wrap64 (Int.tdiv (wrap64 ((wrap64 ((wrap64 (rd l2 x10_1)) + (wrap64 (rd l2 (ji9))))) + (wrap64 (rd l2 (ji12))))) 3)) % 256) [.int .u8 ((wrap64 (Int.tdiv (wrap64 ((wrap64 ((wrap64 (rd l2 x10_1)) + (wrap64 (rd l2 (ji9))))) + (wrap64 (rd l2 (ji12))))) 3)) % 256)] from rfl) (Reps.one (show Kd.M (Kd.int .u8) _ _ _ ((wrap64 (Int.tdiv (wrap64 ((wrap64 ((wrap64 (rd l2 x10_1)) + (wrap64 (rd l2 (ji9))))) + (wrap64 (rd l2 (ji12))))) 3)) % 256) [.int .u8 ((wrap64 (Int.tdiv (wrap64 ((wrap64 ((wrap64 (rd l2 x10_1)) + (wrap64 (rd l2 (ji9))))) + (wrap64 (rd l2 (ji12))))) 3)) % 256)] from rfl) (Reps.none _ _))))); intro v106 w16 ho17 hb hg_ hnew_; clear hg_ hnew_; (first | rw [← Ny105.out] at ho17 | (simp only [Int.reduceToNat] at ho17; rw [← Ny105.out] at ho17)); have n0_ := Aside0.mk (Kd.R_elder' (by (with_reducible repeat (first | apply Kd.R_alloc | apply Kd.R_drewN | apply Kd.R_drew)); exact HO_9.out) (Kd.R_base ho17) hb); have n1_ := Aside0.mk (Kd.R_lower (Kd.R_new' ho17 (Kd.R_lt (by (with_reducible repeat (first | apply Kd.R_alloc | apply Kd.R_drewN | apply Kd.R_drew)); exact HO_9.out))) (below_size (by repeat (first | (with_reducible first | exact HB.out | apply below_alloc | apply pw_below_drewN | apply below_drew1) | exact HB.out)))); have n2_ := Aside0.mk (below_step (by repeat (first | (with_reducible first | exact HB.out | apply below_alloc | apply pw_below_drewN | apply below_drew1) | exact HB.out)) hb); clear HO_9; clear HB; have HO_9 := n0_; have HO107 := n1_; have HB := n2_; clear n0_ n1_ n2_; clear hb ho17; obtain ⟨Ao19, co19, eo19⟩ := Kd.R_slice HO107.out; subst eo19) | ((with_reducible refine gate_builtin (b := .append) (xs := #[.tmp 47, .tmp 51]) rfl ?_); at_builtin; refine Kd.R_append_rows (Kd.int .u8) (w0 := w) w.heap.size rfl (.tmp 47) (.tmp 51) 22 5 (.int .u8 0) 1 rfl Try.underlying22 info5 rfl (by decide) (by omega) u9 x9_1 y105 _ _ _ (fun k_ => some k_ ≠ (.slice Ao19 y105.length co19 : Value).ownBlock) (fun _ => False) rfl rfl ?aO ?aR (fun _ _ h => h) (fun _ h => h.elim) ?aF ?aB ?aS ?aL ?_; (case aR => repeat (first | exact (Kd.R_reads' HO107.out).2.2 | (with_reducible refine Kd.C_alloc ?_ _) | (with_reducible refine Kd.C_drewN ?_ _) | (with_reducible refine Kd.C_drew ?_))); (case aB => exact (by repeat (first | (with_reducible first | exact HB.out | apply below_alloc | apply pw_below_drewN | apply below_drew1) | exact HB.out))); (case aF => exact (fun k_ hk => Kd.fresh' (Kd.R_lt (by (with_reducible repeat (first | apply Kd.R_alloc | apply Kd.R_drewN | apply Kd.R_drew)); exact HO107.out)) k_ hk)); (case aO => exact (by (with_reducible repeat (first | apply Kd.R_alloc | apply Kd.R_drewN | apply Kd.R_drew)); exact Kd.R_mono HO_9.out (fun _ hk => hk.2))); (case aS => exact (below_size (by repeat (first | (with_reducible first | exact HB.out | apply below_alloc | apply pw_below_drewN | apply below_drew1) | exact HB.out)))); (case aL => have := LMc15.out; omega); intro v109 w18 ho hb hg hat; rw [← Ny108.out] at ho; have n0_ := Aside0.mk (Kd.R_after (ok := (fun _ => True)) (by (with_reducible repeat (first | apply Kd.R_alloc | apply Kd.R_drewN | apply Kd.R_drew)); exact HO107.out) hg hat); have n1_ := Aside0.mk (hb); have n2_ := Aside0.mk (ho); clear HO107; clear HB; clear HO_9; have HO107 := n0_; have HB := n1_; have HO110 := n2_; clear n0_ n1_ n2_; clear ho hb hg hat))
                      repeat (go_quiet (first | ((with_reducible refine gate_dst (N := 51) rfl ?_); refine Kd.R_lit (Kd.int .u8) _ 5 ?hg (N := 51) ?hd (xs := ([(wrap64 (Int.tdiv (wrap64 ((wrap64 ((wrap64 (rd l2 x10_1)) + (wrap64 (rd l2 (ji9))))) + (wrap64 (rd l2 (ji12))))) 3)) % 256, (wrap64 (Int.tdiv (wrap64 ((wrap64 ((wrap64 (rd l2 x10_1)) + (wrap64 (rd l2 (ji9))))) + (wrap64 (rd l2 (ji12))))) 3)) % 256, (wrap64 (Int.tdiv (wrap64 ((wrap64 ((wrap64 (rd l2 x10_1)) + (wrap64 (rd l2 (ji9))))) + (wrap64 (rd l2 (ji12))))) 3)) % 256] : List Int)) (inner := [.int .u8 ((wrap64 (Int.tdiv (wrap64 ((wrap64 ((wrap64 (rd l2 x10_1)) + (wrap64 (rd l2 (ji9))))) + (wrap64 (rd l2 (ji12))))) 3)) % 256), .int .u8 ((wrap64 (Int.tdiv (wrap64 ((wrap64 ((wrap64 (rd l2 x10_1)) + (wrap64 (rd l2 (ji9))))) + (wrap64 (rd l2 (ji12))))) 3)) % 256), .int .u8 ((wrap64 (Int.tdiv (wrap64 ((wrap64 ((wrap64 (rd l2 x10_1)) + (wrap64 (rd l2 (ji9))))) + (wrap64 (rd l2 (ji12))))) 3)) % 256)]) (ok := fun _ => True) (okp := fun _ => True) ?hr ?hp (fun _ hk => hk) trivial (Below.refl _ _) (Nat.le_refl _) (by simp) ?_; (case hd => rfl); (case hg => rfl); (case hr => first | (go_simp; done) | (go_simp; rfl)); (case hp => exact (Reps.one (show Kd.M (Kd.int .u8) _ _ _ ((wrap64 (Int.tdiv (wrap64 ((wrap64 ((wrap64 (rd l2 x10_1)) + (wrap64 (rd l2 (ji9))))) + (wrap64 (rd l2 (ji12))))) 3)) % 256) [.int .u8 ((wrap64 (Int.tdiv (wrap64 ((wrap64 ((wrap64 (rd l2 x10_1)) + (wrap64 (rd l2 (ji9))))) + (wrap64 (rd l2 (ji12))))) 3)) % 256)] from rfl) (Reps.one (show Kd.M (Kd.int .u8) _ _ _ ((wrap64 (Int.tdiv (wrap64 ((wrap64 ((wrap64 (rd l2 x10_1)) + (wrap64 (rd l2 (ji9))))) + (wrap64 (rd l2 (ji12))))) 3)) % 256) [.int .u8 ((wrap64 (Int.tdiv (wrap64 ((wrap64 ((wrap64 (rd l2 x10_1)) + (wrap64 (rd l2 (ji9))))) + (wrap64 (rd l2 (ji12))))) 3)) % 256)] from rfl) (Reps.one (show Kd.M (Kd.int .u8) _ _ _ ((wrap64 (Int.tdiv (wrap64 ((wrap64 ((wrap64 (rd l2 x10_1)) + (wrap64 (rd l2 (ji9))))) + (wrap64 (rd l2 (ji12))))) 3)) % 256) [.int .u8 ((wrap64 (Int.tdiv (wrap64 ((wrap64 ((wrap64 (rd l2 x10_1)) + (wrap64 (rd l2 (ji9))))) + (wrap64 (rd l2 (ji12))))) 3)) % 256)] from rfl) (Reps.none _ _))))); intro v106 w16 ho17 hb hg_ hnew_; clear hg_ hnew_; (first | rw [← Ny105.out] at ho17 | (simp only [Int.reduceToNat] at ho17; rw [← Ny105.out] at ho17)); have n0_ := Aside0.mk (Kd.R_elder' (by (with_reducible repeat (first | apply Kd.R_alloc | apply Kd.R_drewN | apply Kd.R_drew)); exact HO_9.out) (Kd.R_base ho17) hb); have n1_ := Aside0.mk (Kd.R_lower (Kd.R_new' ho17 (Kd.R_lt (by (with_reducible repeat (first | apply Kd.R_alloc | apply Kd.R_drewN | apply Kd.R_drew)); exact HO_9.out))) (below_size (by repeat (first | (with_reducible first | exact HB.out | apply below_alloc | apply pw_below_drewN | apply below_drew1) | exact HB.out)))); have n2_ := Aside0.mk (below_step (by repeat (first | (with_reducible first | exact HB.out | apply below_alloc | apply pw_below_drewN | apply below_drew1) | exact HB.out)) hb); clear HO_9; clear HB; have HO_9 := n0_; have HO107 := n1_; have HB := n2_; clear n0_ n1_ n2_; clear hb ho17; obtain ⟨Ao19, co19, eo19⟩ := Kd.R_slice HO107.out; subst eo19) | ((with_reducible refine gate_builtin (b := .append) (xs := #[.tmp 47, .tmp 51]) rfl ?_); at_builtin; refine Kd.R_append_rows (Kd.int .u8) (w0 := w) w.heap.size rfl (.tmp 47) (.tmp 51) 22 5 (.int .u8 0) 1 rfl Try.underlying22 info5 rfl (by decide) (by omega) u9 x9_1 y105 _ _ _ (fun k_ => some k_ ≠ (.slice Ao19 y105.length co19 : Value).ownBlock) (fun _ => False) rfl rfl ?aO ?aR (fun _ _ h => h) (fun _ h => h.elim) ?aF ?aB ?aS ?aL ?_; (case aR => repeat (first | exact (Kd.R_reads' HO107.out).2.2 | (with_reducible refine Kd.C_alloc ?_ _) | (with_reducible refine Kd.C_drewN ?_ _) | (with_reducible refine Kd.C_drew ?_))); (case aB => exact (by repeat (first | (with_reducible first | exact HB.out | apply below_alloc | apply pw_below_drewN | apply below_drew1) | exact HB.out))); (case aF => exact (fun k_ hk => Kd.fresh' (Kd.R_lt (by (with_reducible repeat (first | apply Kd.R_alloc | apply Kd.R_drewN | apply Kd.R_drew)); exact HO107.out)) k_ hk)); (case aO => exact (by (with_reducible repeat (first | apply Kd.R_alloc | apply Kd.R_drewN | apply Kd.R_drew)); exact Kd.R_mono HO_9.out (fun _ hk => hk.2))); (case aS => exact (below_size (by repeat (first | (with_reducible first | exact HB.out | apply below_alloc | apply pw_below_drewN | apply below_drew1) | exact HB.out)))); (case aL => have := LMc15.out; omega); intro v109 w18 ho hb hg hat; rw [← Ny108.out] at ho; have n0_ := Aside0.mk (Kd.R_after (ok := (fun _ => True)) (by (with_reducible repeat (first | apply Kd.R_alloc | apply Kd.R_drewN | apply Kd.R_drew)); exact HO107.out) hg hat); have n1_ := Aside0.mk (hb); have n2_ := Aside0.mk (ho); clear HO107; clear HB; clear HO_9; have HO107 := n0_; have HB := n1_; have HO110 := n2_; clear n0_ n1_ n2_; clear ho hb hg hat)); try go_wp2_with (first | ((with_reducible refine gate_dst (N := 51) rfl ?_); refine Kd.R_lit (Kd.int .u8) _ 5 ?hg (N := 51) ?hd (xs := ([(wrap64 (Int.tdiv (wrap64 ((wrap64 ((wrap64 (rd l2 x10_1)) + (wrap64 (rd l2 (ji9))))) + (wrap64 (rd l2 (ji12))))) 3)) % 256, (wrap64 (Int.tdiv (wrap64 ((wrap64 ((wrap64 (rd l2 x10_1)) + (wrap64 (rd l2 (ji9))))) + (wrap64 (rd l2 (ji12))))) 3)) % 256, (wrap64 (Int.tdiv (wrap64 ((wrap64 ((wrap64 (rd l2 x10_1)) + (wrap64 (rd l2 (ji9))))) + (wrap64 (rd l2 (ji12))))) 3)) % 256] : List Int)) (inner := [.int .u8 ((wrap64 (Int.tdiv (wrap64 ((wrap64 ((wrap64 (rd l2 x10_1)) + (wrap64 (rd l2 (ji9))))) + (wrap64 (rd l2 (ji12))))) 3)) % 256), .int .u8 ((wrap64 (Int.tdiv (wrap64 ((wrap64 ((wrap64 (rd l2 x10_1)) + (wrap64 (rd l2 (ji9))))) + (wrap64 (rd l2 (ji12))))) 3)) % 256), .int .u8 ((wrap64 (Int.tdiv (wrap64 ((wrap64 ((wrap64 (rd l2 x10_1)) + (wrap64 (rd l2 (ji9))))) + (wrap64 (rd l2 (ji12))))) 3)) % 256)]) (ok := fun _ => True) (okp := fun _ => True) ?hr ?hp (fun _ hk => hk) trivial (Below.refl _ _) (Nat.le_refl _) (by simp) ?_; (case hd => rfl); (case hg => rfl); (case hr => first | (go_simp; done) | (go_simp; rfl)); (case hp => exact (Reps.one (show Kd.M (Kd.int .u8) _ _ _ ((wrap64 (Int.tdiv (wrap64 ((wrap64 ((wrap64 (rd l2 x10_1)) + (wrap64 (rd l2 (ji9))))) + (wrap64 (rd l2 (ji12))))) 3)) % 256) [.int .u8 ((wrap64 (Int.tdiv (wrap64 ((wrap64 ((wrap64 (rd l2 x10_1)) + (wrap64 (rd l2 (ji9))))) + (wrap64 (rd l2 (ji12))))) 3)) % 256)] from rfl) (Reps.one (show Kd.M (Kd.int .u8) _ _ _ ((wrap64 (Int.tdiv (wrap64 ((wrap64 ((wrap64 (rd l2 x10_1)) + (wrap64 (rd l2 (ji9))))) + (wrap64 (rd l2 (ji12))))) 3)) % 256) [.int .u8 ((wrap64 (Int.tdiv (wrap64 ((wrap64 ((wrap64 (rd l2 x10_1)) + (wrap64 (rd l2 (ji9))))) + (wrap64 (rd l2 (ji12))))) 3)) % 256)] from rfl) (Reps.one (show Kd.M (Kd.int .u8) _ _ _ ((wrap64 (Int.tdiv (wrap64 ((wrap64 ((wrap64 (rd l2 x10_1)) + (wrap64 (rd l2 (ji9))))) + (wrap64 (rd l2 (ji12))))) 3)) % 256) [.int .u8 ((wrap64 (Int.tdiv (wrap64 ((wrap64 ((wrap64 (rd l2 x10_1)) + (wrap64 (rd l2 (ji9))))) + (wrap64 (rd l2 (ji12))))) 3)) % 256)] from rfl) (Reps.none _ _))))); intro v106 w16 ho17 hb hg_ hnew_; clear hg_ hnew_; (first | rw [← Ny105.out] at ho17 | (simp only [Int.reduceToNat] at ho17; rw [← Ny105.out] at ho17)); have n0_ := Aside0.mk (Kd.R_elder' (by (with_reducible repeat (first | apply Kd.R_alloc | apply Kd.R_drewN | apply Kd.R_drew)); exact HO_9.out) (Kd.R_base ho17) hb); have n1_ := Aside0.mk (Kd.R_lower (Kd.R_new' ho17 (Kd.R_lt (by (with_reducible repeat (first | apply Kd.R_alloc | apply Kd.R_drewN | apply Kd.R_drew)); exact HO_9.out))) (below_size (by repeat (first | (with_reducible first | exact HB.out | apply below_alloc | apply pw_below_drewN | apply below_drew1) | exact HB.out)))); have n2_ := Aside0.mk (below_step (by repeat (first | (with_reducible first | exact HB.out | apply below_alloc | apply pw_below_drewN | apply below_drew1) | exact HB.out)) hb); clear HO_9; clear HB; have HO_9 := n0_; have HO107 := n1_; have HB := n2_; clear n0_ n1_ n2_; clear hb ho17; obtain ⟨Ao19, co19, eo19⟩ := Kd.R_slice HO107.out; subst eo19) | ((with_reducible refine gate_builtin (b := .append) (xs := #[.tmp 47, .tmp 51]) rfl ?_); at_builtin; refine Kd.R_append_rows (Kd.int .u8) (w0 := w) w.heap.size rfl (.tmp 47) (.tmp 51) 22 5 (.int .u8 0) 1 rfl Try.underlying22 info5 rfl (by decide) (by omega) u9 x9_1 y105 _ _ _ (fun k_ => some k_ ≠ (.slice Ao19 y105.length co19 : Value).ownBlock) (fun _ => False) rfl rfl ?aO ?aR (fun _ _ h => h) (fun _ h => h.elim) ?aF ?aB ?aS ?aL ?_; (case aR => repeat (first | exact (Kd.R_reads' HO107.out).2.2 | (with_reducible refine Kd.C_alloc ?_ _) | (with_reducible refine Kd.C_drewN ?_ _) | (with_reducible refine Kd.C_drew ?_))); (case aB => exact (by repeat (first | (with_reducible first | exact HB.out | apply below_alloc | apply pw_below_drewN | apply below_drew1) | exact HB.out))); (case aF => exact (fun k_ hk => Kd.fresh' (Kd.R_lt (by (with_reducible repeat (first | apply Kd.R_alloc | apply Kd.R_drewN | apply Kd.R_drew)); exact HO107.out)) k_ hk)); (case aO => exact (by (with_reducible repeat (first | apply Kd.R_alloc | apply Kd.R_drewN | apply Kd.R_drew)); exact Kd.R_mono HO_9.out (fun _ hk => hk.2))); (case aS => exact (below_size (by repeat (first | (with_reducible first | exact HB.out | apply below_alloc | apply pw_below_drewN | apply below_drew1) | exact HB.out)))); (case aL => have := LMc15.out; omega); intro v109 w18 ho hb hg hat; rw [← Ny108.out] at ho; have n0_ := Aside0.mk (Kd.R_after (ok := (fun _ => True)) (by (with_reducible repeat (first | apply Kd.R_alloc | apply Kd.R_drewN | apply Kd.R_drew)); exact HO107.out) hg hat); have n1_ := Aside0.mk (hb); have n2_ := Aside0.mk (ho); clear HO107; clear HB; clear HO_9; have HO107 := n0_; have HB := n1_; have HO110 := n2_; clear n0_ n1_ n2_; clear ho hb hg hat)))
                      go_roundg k1
                      case measure => have := HK1.out; omega
                      case rel => exact ⟨(y108), (wrap64 (x10_1 + 3)), (by first | rfl | (simp; done) | (simp [*]; done)), H', ⟨by have := HK1.out; omega⟩, ⟨by (with_reducible repeat (first | apply Kd.R_alloc | apply Kd.R_drewN | apply Kd.R_drew)); exact Kd.R_mono HO110.out (fun _ hk => trivial)⟩, ⟨by repeat (first | (with_reducible first | exact HB.out | apply below_alloc | apply pw_below_drewN | apply below_drew1) | exact HB.out)⟩⟩
                    · rw [if_neg c15] at H
                      exact absurd H (by simp)
                  · rw [if_neg c14] at H
                    exact absurd H (by simp)
                · rw [if_neg c13] at H
                  exact absurd H (by simp)
              · rw [if_neg c11] at H
                exact absurd H (by simp)
            · rw [if_neg c10] at H
              exact absurd H (by simp)
          · rw [if_neg c8] at H
            exact absurd H (by simp)
        · rw [if_neg c7] at H
          have c7b0 : decide (x10_1 < (l2.length : Int)) = false := decide_eq_false c7
          clear c7
          simp only [Option.some.injEq, Prod.mk.injEq] at H
          obtain ⟨rfl, rfl⟩ := H
          go_wp2
          repeat (go_quiet (fail); try go_wp2)
          go_ret2
          exact ⟨_, by first | rfl | (simp [errW_none, errW_some] <;> rfl) | (simp [*, errW_none, errW_some] <;> rfl), by (with_reducible repeat (first | apply Kd.R_alloc | apply Kd.R_drewN | apply Kd.R_drew)); exact HO_9.out, by repeat (first | (with_reducible first | exact HB.out | apply below_alloc | apply pw_below_drewN | apply below_drew1) | exact HB.out)⟩
  · rw [if_neg c5] at H
    have c5b0 : (t101 == 0) = false := beq_eq_false_iff_ne.mpr c5
    have c5b1 : (t101 != 0) = true := bne_iff_ne.mpr c5
    simp only [Option.some.injEq, Prod.mk.injEq] at H
    obtain ⟨rfl, rfl⟩ := H
    go_enter Try.func16, Try.ntmps16
    go_wp2_with (first | (go_at_call 17; (with_reducible refine (ppm_check.calls k a0 a1 (l2.length : Int) t101 _ A4.out).mono ?_); rintro e w20 ⟨rfl, hb⟩; have n0_ := Aside0.mk (below_step (by repeat (first | (with_reducible first | exact HB.out | apply below_alloc | apply pw_below_drewN | apply below_drew1) | exact HB.out)) hb); clear HB; have HB := n0_; clear n0_; (try clear hb); (try clear hb2); (try clear hk); (try clear hi)))
    repeat (go_quiet (first | (go_at_call 17; (with_reducible refine (ppm_check.calls k a0 a1 (l2.length : Int) t101 _ A4.out).mono ?_); rintro e w20 ⟨rfl, hb⟩; have n0_ := Aside0.mk (below_step (by repeat (first | (with_reducible first | exact HB.out | apply below_alloc | apply pw_below_drewN | apply below_drew1) | exact HB.out)) hb); clear HB; have HB := n0_; clear n0_; (try clear hb); (try clear hb2); (try clear hk); (try clear hi))); try go_wp2_with (first | (go_at_call 17; (with_reducible refine (ppm_check.calls k a0 a1 (l2.length : Int) t101 _ A4.out).mono ?_); rintro e w20 ⟨rfl, hb⟩; have n0_ := Aside0.mk (below_step (by repeat (first | (with_reducible first | exact HB.out | apply below_alloc | apply pw_below_drewN | apply below_drew1) | exact HB.out)) hb); clear HB; have HB := n0_; clear n0_; (try clear hb); (try clear hb2); (try clear hk); (try clear hi))))
    go_ret2
    exact ⟨_, by first | rfl | (simp [errW_none, errW_some] <;> rfl) | (simp [*, errW_none, errW_some] <;> rfl), by first | exact Kd.R_nil _ _ _ _ _ | exact Kd.N_nil _ _ _ _ _ | exact Kd.V_nil _ _ _ _ _ | exact Kd.Q_nil _ _ _ _ _ | exact Kd.S_nil _ _ _ _ _, by repeat (first | (with_reducible first | exact HB.out | apply below_alloc | apply pw_below_drewN | apply below_drew1) | exact HB.out)⟩

end Go.Proofs.Ytmpbjmjphapnoaa.X
