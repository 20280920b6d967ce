/- the document's Weight, both, and MisWeighs, by hand. -/
import Derived.Test.YtncbomdngldhbaaId
namespace Go.Proofs.Ytncbomdngldhbaa.Gv
open Go.RowKit Go.Proofs.YtncbomdngldhbaaW.PrintWords Go.Proofs.YtncbomdngldhbaaW.PrintLast
theorem drawn_below {w w' : World} (h : Drawn0 w w') : Below w.heap.size w w' := h.below
set_option maxHeartbeats 4000000 in
theorem rweight_bad (k : Int) (a b : Nat) (w : World) (h : ¬ ((FloatKind.f64.format.order a 0 == some .gt) = true ∧ (FloatKind.f64.format.order b 0 == some .gt || FloatKind.f64.format.order b 0 == some .eq) = true ∧ isNum a = true ∧ isNum b = true)) :
    Calls Try.prog 10 #[.int .i64 k, .float .f64 a, .float .f64 b] w fun e w' => e = .returned (.float .f64 0) ∧ Drawn0 w w' := by
  have HA := Aside0.mk (rnum_any a)
  have HB := Aside0.mk (rnum_any b)
  cases na : isNum a with
  | false =>
    rw [na] at HA
    clear h na
    go_enter Try.func10, Try.ntmps10
    go_wp2_with (first
      | (go_at_call 6; with_reducible refine (HA.out _).mono ?_; rintro x w1 ⟨rfl, m1, rfl⟩))
    go_ret
    exact ⟨rfl, ⟨_, rfl⟩⟩
  | true =>
    cases nb : isNum b with
    | false =>
      rw [na] at HA
      rw [nb] at HB
      clear h na nb
      go_enter Try.func10, Try.ntmps10
      go_wp2_with (first
        | (go_at_call 6; with_reducible refine (HA.out _).mono ?_; rintro x w1 ⟨rfl, m1, rfl⟩)
        | (go_at_call 6; with_reducible refine (HB.out _).mono ?_; rintro x w1 ⟨rfl, m2, rfl⟩))
      go_ret
      exact ⟨rfl, ⟨_, by first | rfl | (simp [World.drewN]; rfl) | simp [World.drewN, Nat.add_assoc]⟩⟩
    | true =>
      have e1 := le_gt na
      have e2 := lt_ge nb
      rw [na] at HA h
      rw [nb] at HB h
      clear na nb
      cases c2 : (FloatKind.f64.format.order a 0 == some .gt) <;> cases c3 : (FloatKind.f64.format.order b 0 == some .gt || FloatKind.f64.format.order b 0 == some .eq) <;> rw [c2, c3] at h <;> rw [c2] at e1 <;> rw [c3] at e2 <;> first | (exfalso; exact h ⟨rfl, rfl, rfl, rfl⟩) | skip
      all_goals clear h
      all_goals (try simp only [Bool.not_true, Bool.not_false] at e1 e2)
      all_goals go_enter Try.func10, Try.ntmps10
      all_goals
        go_wp2_with (first
          | (go_at_call 6; with_reducible refine (HA.out _).mono ?_; rintro x w1 ⟨rfl, m1, rfl⟩)
          | (go_at_call 6; with_reducible refine (HB.out _).mono ?_; rintro x w1 ⟨rfl, m2, rfl⟩))
      all_goals
        go_ret
        exact ⟨rfl, ⟨_, by first | rfl | (simp [World.drewN]; rfl) | simp [World.drewN, Nat.add_assoc]⟩⟩
set_option maxHeartbeats 4000000 in
theorem rweight_good (k : Int) (a b : Nat) (w : World) (g : (FloatKind.f64.format.order a 0 == some .gt) = true ∧ (FloatKind.f64.format.order b 0 == some .gt || FloatKind.f64.format.order b 0 == some .eq) = true ∧ isNum a = true ∧ isNum b = true) :
    Calls Try.prog 10 #[.int .i64 k, .float .f64 a, .float .f64 b] w fun e w' => e = .returned (.float .f64 (wgt k a b)) ∧ Drawn0 w w' := by
  obtain ⟨c2, c3, c4, c5⟩ := g
  have hdv := (getD_some (div_ok c4 c5 (by simpa using c2))).2
  change notNan (dv b a) at hdv
  have hd : ∀ w, (binOp .quo 22 (.float .f64 b) (.float .f64 a)).run Try.prog w = .ok (.float .f64 (dv b a)) w := run_div Try.prog (div_ok c4 c5 (by simpa using c2))
  have HW1 : k = 1 → wgt k a b = dv 4607182418800017408 (ad 4607182418800017408 (dv b a)) := fun e => by
    subst e
    unfold wgt wq
    rw [if_pos ((goodW_iff 1 a b).mpr ⟨rfl, c2, c3, c4, c5⟩), if_neg (by decide)]
  have HW2 : k = 2 → wgt k a b = dv 4607182418800017408 (ad 4607182418800017408 (ml (dv b a) (dv b a))) := fun e => by
    subst e
    unfold wgt wq
    rw [if_pos ((goodW_iff 2 a b).mpr ⟨rfl, c2, c3, c4, c5⟩), if_pos rfl]
  have HW3 : k ≠ 1 → k ≠ 2 → wgt k a b = 0 := fun e1 e2 => if_neg (fun g => g.1.elim e1 e2)
  have HA := Aside0.mk (rnum_any a)
  have HB := Aside0.mk (rnum_any b)
  have e1 := le_gt c4
  have e2 := lt_ge c5
  rw [c2] at e1
  rw [c3] at e2
  simp only [Bool.not_true] at e1 e2
  rw [c4] at HA
  rw [c5] at HB
  clear c2 c3 c4 c5
  generalize dv b a = q at *
  have a1 : ∀ w, (binOp .add 22 (.float .f64 4607182418800017408) (.float .f64 q)).run Try.prog w = .ok (.float .f64 (ad 4607182418800017408 q)) w := run_add Try.prog (add_ok hdv)
  have a2 : ∀ w, (binOp .quo 22 (.float .f64 4607182418800017408) (.float .f64 (ad 4607182418800017408 q))).run Try.prog w = .ok (.float .f64 (dv 4607182418800017408 (ad 4607182418800017408 q))) w := run_div Try.prog (inv_ok (getD_some (add_ok hdv)).2)
  have b0 : ∀ w, (binOp .mul 22 (.float .f64 q) (.float .f64 q)).run Try.prog w = .ok (.float .f64 (ml q q)) w := run_mul Try.prog (mul_ok hdv)
  have b1 : ∀ w, (binOp .add 22 (.float .f64 4607182418800017408) (.float .f64 (ml q q))).run Try.prog w = .ok (.float .f64 (ad 4607182418800017408 (ml q q))) w := run_add Try.prog (add_ok (getD_some (mul_ok hdv)).2)
  have b2 : ∀ w, (binOp .quo 22 (.float .f64 4607182418800017408) (.float .f64 (ad 4607182418800017408 (ml q q)))).run Try.prog w = .ok (.float .f64 (dv 4607182418800017408 (ad 4607182418800017408 (ml q q)))) w := run_div Try.prog (inv_ok (getD_some (add_ok (getD_some (mul_ok hdv)).2)).2)
  clear hdv
  have hcase : k = 1 ∨ k = 2 ∨ (k ≠ 1 ∧ k ≠ 2) := by omega
  rcases hcase with c | c | ⟨c, d⟩
  · have H := Aside0.mk (HW1 c)
    subst c
    clear HW1 HW2 HW3
    generalize wgt 1 a b = z at *
    go_enter Try.func10, Try.ntmps10
    go_wp2_with (first
      | (go_at_call 6; with_reducible refine (HA.out _).mono ?_; rintro x w1 ⟨rfl, m1, rfl⟩)
      | (go_at_call 6; with_reducible refine (HB.out _).mono ?_; rintro x w1 ⟨rfl, m2, rfl⟩))
    go_ret
    exact ⟨by rw [H.out]; rfl, ⟨_, by first | rfl | (simp [World.drewN]; rfl) | simp [World.drewN, Nat.add_assoc]⟩⟩
  · have H := Aside0.mk (HW2 c)
    subst c
    clear HW1 HW2 HW3
    generalize wgt 2 a b = z at *
    go_enter Try.func10, Try.ntmps10
    go_wp2_with (first
      | (go_at_call 6; with_reducible refine (HA.out _).mono ?_; rintro x w1 ⟨rfl, m1, rfl⟩)
      | (go_at_call 6; with_reducible refine (HB.out _).mono ?_; rintro x w1 ⟨rfl, m2, rfl⟩))
    go_ret
    exact ⟨by rw [H.out]; rfl, ⟨_, by first | rfl | (simp [World.drewN]; rfl) | simp [World.drewN, Nat.add_assoc]⟩⟩
  · have H := Aside0.mk (HW3 c d)
    have d1 : (k == 1) = false := beq_eq_false_iff_ne.mpr c
    have d2 : (k == 2) = false := beq_eq_false_iff_ne.mpr d
    clear HW1 HW2 HW3 c d
    generalize wgt k a b = z at *
    go_enter Try.func10, Try.ntmps10
    go_wp2_with (first
      | (go_at_call 6; with_reducible refine (HA.out _).mono ?_; rintro x w1 ⟨rfl, m1, rfl⟩)
      | (go_at_call 6; with_reducible refine (HB.out _).mono ?_; rintro x w1 ⟨rfl, m2, rfl⟩))
    go_ret
    exact ⟨by rw [H.out]; rfl, ⟨_, by first | rfl | (simp [World.drewN]; rfl) | simp [World.drewN, Nat.add_assoc]⟩⟩
theorem rweight_any (k : Int) (a b : Nat) (w : World) :
    Calls Try.prog 10 #[.int .i64 k, .float .f64 a, .float .f64 b] w fun e w' => e = .returned (.float .f64 (wgt k a b)) ∧ Drawn0 w w' := by
  by_cases h : (FloatKind.f64.format.order a 0 == some .gt) = true ∧ (FloatKind.f64.format.order b 0 == some .gt || FloatKind.f64.format.order b 0 == some .eq) = true ∧ isNum a = true ∧ isNum b = true
  · exact rweight_good k a b w h
  · rw [wgt_zero (k := k) (fun g => h g.2)]
    exact rweight_bad k a b w h
theorem both_any (k : Int) (a b : Nat) (w : World) :
    Calls Try.prog 9 #[.int .i64 k, .float .f64 a, .float .f64 b] w fun e w' => e = .returned (.tuple #[.float .f64 (wgt k a b), .float .f64 (wgt k b a)]) ∧ Below w.heap.size w w' := by
  go_enter Try.func9, Try.ntmps9
  go_wp2_with (first
    | (go_at_call 8; with_reducible refine (weight_any k a b _).mono ?_; rintro x w1 ⟨rfl, hb1⟩)
    | (go_at_call 8; with_reducible refine (weight_any k b a _).mono ?_; rintro x w2 ⟨rfl, hb2⟩))
  go_ret2
  exact ⟨rfl, below_then hb1 hb1.size hb2⟩
set_option maxHeartbeats 2000000 in
theorem awake25 (w : World) : Calls Try.prog 7 #[] w fun e w' => e = .returned (.bool true) ∧ Below w.heap.size w w' := by
  have e1 : wgt 1 4607182418800017408 4613937818241073152 = 4598175219545276416 := by decide +kernel
  have e2 : wgt 2 4607182418800017408 4613937818241073152 = 4591870180066957722 := by decide +kernel
  have e3 : wgt 3 4607182418800017408 4607182418800017408 = 0 := by decide +kernel
  have o1 : (FloatKind.f64.format.order 4598175219545276416 4598175219545276416 == some .eq) = true := by decide +kernel
  have o2 : (FloatKind.f64.format.order 4591870180066957722 4591870180066957722 == some .eq) = true := by decide +kernel
  have o3 : (FloatKind.f64.format.order 0 0 == some .eq) = true := by decide +kernel
  have H1 := Aside0.mk (weight_any 1 4607182418800017408 4613937818241073152)
  have H2 := Aside0.mk (weight_any 2 4607182418800017408 4613937818241073152)
  have H3 := Aside0.mk (weight_any 3 4607182418800017408 4607182418800017408)
  rw [e1] at H1
  rw [e2] at H2
  rw [e3] at H3
  clear e1 e2 e3
  go_enter Try.func7, Try.ntmps7
  go_wp2_with (first
    | (go_at_call 8; with_reducible refine (H1.out _).mono ?_; rintro x w1 ⟨rfl, hb1⟩)
    | (go_at_call 8; with_reducible refine (H2.out _).mono ?_; rintro x w2 ⟨rfl, hb2⟩)
    | (go_at_call 8; with_reducible refine (H3.out _).mono ?_; rintro x w3 ⟨rfl, hb3⟩)
    | (go_at_call 11; refine (right_any 2 _).mono ?_; rintro x w4 ⟨rfl, rfl⟩))
  go_ret
  have h1 := below_then hb1 hb1.size hb2
  exact ⟨by first | rfl | simp [isK], below_then h1 h1.size hb3⟩
set_option maxHeartbeats 4000000 in
theorem weighs_any (k : Int) (a b : Nat) (w : World) :
    Calls Try.prog 4 #[.int .i64 k, .float .f64 a, .float .f64 b] w fun e w' => e = .returned (.bool true) ∧ Below w.heap.size w w' := by
  have o1 : (FloatKind.f64.format.order (wgt k a b) (wgt k a b) == some .eq) = true := by rw [order_refl (wgt_not k a b)]; rfl
  have o2 : (FloatKind.f64.format.order (wgt k b a) (wgt k b a) == some .eq) = true := by rw [order_refl (wgt_not k b a)]; rfl
  have HB := Aside0.mk (both_any k a b)
  have HW := Aside0.mk (weight_any k a b)
  have HR := Aside0.mk (rweight_any k a b)
  have HS := Aside0.mk (rweight_any k b a)
  have HK := Aside0.mk (right_any k)
  generalize wgt k a b = u at *
  generalize wgt k b a = v at *
  have hcase : k = 1 ∨ k = 2 ∨ (isK k = false ∧ (k == 1) = false ∧ (k == 2) = false) := by
    unfold isK
    by_cases c : k = 1
    · exact .inl c
    · by_cases d : k = 2
      · exact .inr (.inl d)
      · have c1 : (k == 1) = false := beq_eq_false_iff_ne.mpr c
        have d1 : (k == 2) = false := beq_eq_false_iff_ne.mpr d
        exact .inr (.inr ⟨by rw [c1, d1]; rfl, c1, d1⟩)
  rcases hcase with rfl | rfl | ⟨c1, c2, c3⟩
  · have c1 : isK 1 = true := rfl
    rw [c1] at HK
    clear c1
    go_enter Try.func4, Try.ntmps4
    go_wp2_with (first
      | (go_at_call 9; refine (HB.out _).mono ?_; rintro x w1 ⟨rfl, hb1⟩)
      | (go_at_call 7; refine (awake25 _).mono ?_; rintro x w2 ⟨rfl, hb2⟩)
      | (go_at_call 8; refine (HW.out _).mono ?_; rintro x w3 ⟨rfl, hb3⟩)
      | (go_at_call 10; with_reducible refine (HR.out _).mono ?_; rintro x w4 ⟨rfl, m4, rfl⟩)
      | (go_at_call 10; with_reducible refine (HS.out _).mono ?_; rintro x w4 ⟨rfl, m5, rfl⟩)
      | (go_at_call 11; refine (HK.out _).mono ?_; rintro x w6 ⟨rfl, rfl⟩))
    go_ret
    have h1 := below_then hb1 hb1.size hb2
    have h2 := below_then h1 h1.size hb3
    exact ⟨rfl, by (repeat' first | exact h2 | apply pw_below_drewN)⟩
  · have c1 : isK 2 = true := rfl
    rw [c1] at HK
    clear c1
    go_enter Try.func4, Try.ntmps4
    go_wp2_with (first
      | (go_at_call 9; refine (HB.out _).mono ?_; rintro x w1 ⟨rfl, hb1⟩)
      | (go_at_call 7; refine (awake25 _).mono ?_; rintro x w2 ⟨rfl, hb2⟩)
      | (go_at_call 8; refine (HW.out _).mono ?_; rintro x w3 ⟨rfl, hb3⟩)
      | (go_at_call 10; with_reducible refine (HR.out _).mono ?_; rintro x w4 ⟨rfl, m4, rfl⟩)
      | (go_at_call 10; with_reducible refine (HS.out _).mono ?_; rintro x w4 ⟨rfl, m5, rfl⟩)
      | (go_at_call 11; refine (HK.out _).mono ?_; rintro x w6 ⟨rfl, rfl⟩))
    go_ret
    have h1 := below_then hb1 hb1.size hb2
    have h2 := below_then h1 h1.size hb3
    exact ⟨rfl, by (repeat' first | exact h2 | apply pw_below_drewN)⟩
  · rw [c1] at HK
    clear c1
    go_enter Try.func4, Try.ntmps4
    go_wp2_with (first
      | (go_at_call 9; refine (HB.out _).mono ?_; rintro x w1 ⟨rfl, hb1⟩)
      | (go_at_call 7; refine (awake25 _).mono ?_; rintro x w2 ⟨rfl, hb2⟩)
      | (go_at_call 8; refine (HW.out _).mono ?_; rintro x w3 ⟨rfl, hb3⟩)
      | (go_at_call 10; with_reducible refine (HR.out _).mono ?_; rintro x w4 ⟨rfl, m4, rfl⟩)
      | (go_at_call 10; with_reducible refine (HS.out _).mono ?_; rintro x w4 ⟨rfl, m5, rfl⟩)
      | (go_at_call 11; refine (HK.out _).mono ?_; rintro x w6 ⟨rfl, rfl⟩))
    go_ret
    have h1 := below_then hb1 hb1.size hb2
    have h2 := below_then h1 h1.size hb3
    exact ⟨rfl, by (repeat' first | exact h2 | apply pw_below_drewN)⟩
end Go.Proofs.Ytncbomdngldhbaa.Gv
