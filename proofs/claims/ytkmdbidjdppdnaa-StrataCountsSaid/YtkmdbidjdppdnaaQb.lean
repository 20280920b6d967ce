/- A draw laid in its part, and the part a number lies in: walks. -/
import Derived.Test.YtkmdbidjdppdnaaQa
import Derived.Test.YtkmdbidjdppdnaaQq
namespace Go.Proofs.Ytkmdbidjdppdnaa.Gv
open Go.RowKit Go.Proofs.Ytkmdbidjdppdnaa.X Go.Proofs.YtkmdbidjdppdnaaW.PrintWords Go.Proofs.YtkmdbidjdppdnaaW.PrintLast
set_option linter.unusedVariables false
theorem part_any (n x : Nat) (pn : Addr) (w : World) (hd : FloatKind.f64.format.div x (fI n) = some (dv x (fI n))) (hn : w.cell? pn = some (.int .i64 (n : Int))) :
    Calls Try.prog 30 #[.float .f64 x, .pointer (some pn)] w fun e w' => e = .returned (.float .f64 (dv x (fI n))) ∧ w = w' := by
  have hq := fun w => run_float_arith (P := Try.prog) w .quo 28 .f64 x (fI n) _ hd
  unfold fI at hq ⊢
  clear hd
  generalize dv x (floatOfInt .f64 (n : Int)) = r at *
  go_enter Try.func30, Try.ntmps30
  go_wp2
  go_ret
  exact ⟨rfl, rfl⟩
set_option maxHeartbeats 2000000 in
theorem lay_any (n i u r : Nat) (h1 : 1 ≤ n) (h2 : n < 66) (hi : i < 65) (hu : Cln u r) (pp pn : Addr) (w : World) (hp : w.cell? pp = some (.func (.func 30) #[] #[.pointer (some pn)])) (hn : w.cell? pn = some (.int .i64 (n : Int))) :
    Calls Try.prog 31 #[.int .i64 (i : Int), .float .f64 u, .pointer (some pp)] w fun e w' => e = .returned (.float .f64 (layW n i u)) ∧ w = w' := by
  obtain ⟨a1, a2, a3, a4⟩ := ad_ok hi hu
  obtain ⟨d1, -⟩ := dv_ok a2 h1 h2
  obtain ⟨d2, -⟩ := dv_ok (fI_tab (i + 1) (by omega)).1 h1 h2
  obtain ⟨d3, -⟩ := dv_ok (fI_tab i (by omega)).1 h1 h2
  have ha := fun w => run_float_arith (P := Try.prog) w .add 28 .f64 (fI i) u _ a1
  have H1 := Aside0.mk (part_any n _ pn w d1 hn)
  have H2 := Aside0.mk (part_any n _ pn w d2 hn)
  have H3 := Aside0.mk (part_any n _ pn w d3 hn)
  have e1 : floatOfInt .f64 ((i : Int) + 1) = fI (i + 1) := rfl
  have e2 : floatOfInt .f64 (i : Int) = fI i := rfl
  clear a1 a2 a3 a4 d1 d2 d3 hu h1 h2 hn
  cases hc : flt (xw n i u) (yw n (i + 1)) with
  | true =>
    have HR := Aside0.mk (show layW n i u = xw n i u from by unfold layW; rw [if_pos hc])
    have hl : (FloatKind.f64.format.order (xw n i u) (yw n (i + 1)) == some .lt) = true := hc
    clear hc
    unfold xw yw at *
    go_enter Try.func31, Try.ntmps31
    go_wp2_with (go_at_call 30; first | (refine H1.out.mono ?_; rintro e w' ⟨rfl, rfl⟩) | (refine H2.out.mono ?_; rintro e w' ⟨rfl, rfl⟩))
    go_ret
    exact ⟨ret_f HR.out.symm, rfl⟩
  | false =>
    have HR := Aside0.mk (show layW n i u = yw n i from by unfold layW; rw [hc]; rfl)
    have hl : (FloatKind.f64.format.order (xw n i u) (yw n (i + 1)) == some .lt) = false := hc
    clear hc
    unfold xw yw at *
    go_enter Try.func31, Try.ntmps31
    go_wp2_with (go_at_call 30; first | (refine H1.out.mono ?_; rintro e w' ⟨rfl, rfl⟩) | (refine H2.out.mono ?_; rintro e w' ⟨rfl, rfl⟩) | (refine H3.out.mono ?_; rintro e w' ⟨rfl, rfl⟩))
    go_ret
    exact ⟨ret_f HR.out.symm, rfl⟩

theorem laid_any (n : Nat) (w : World) :
    Calls Try.prog 21 #[.int .i64 (n : Int)] w fun e w' => ∃ pp pn : Addr, e = .returned (.func (.func 31) #[] #[.pointer (some pp)]) ∧ w'.cell? pp = some (.func (.func 30) #[] #[.pointer (some pn)]) ∧ w'.cell? pn = some (.int .i64 (n : Int)) ∧ Below w.heap.size w w' := by
  go_enter Try.func21, Try.ntmps21
  go_wp2
  go_ret
  refine ⟨⟨w.heap.size + 1, 0, none⟩, ⟨w.heap.size, 0, none⟩, rfl, ?_, ?_, ?_⟩
  · have h := blk_new (w.alloc (.cells #[.int .i64 (n : Int)] 3)) (.cells #[.func (.func 30) #[] #[.pointer (some ⟨w.heap.size, 0, none⟩)]] 52)
    rw [World.size_alloc] at h
    exact (blk_cell h 0).trans rfl
  · exact (blk_cell (blk_alloc (blk_new w (.cells #[.int .i64 (n : Int)] 3)) _) 0).trans rfl
  · exact (Below.alloc (Below.refl _ _) (Nat.le_refl _) _).alloc (by simp) _
theorem cell_any (n x : Nat) (h2 : n < 66) (w : World) :
    Calls Try.prog 28 #[.int .i64 (n : Int), .float .f64 x] w fun e w' => e = .returned (.int .i64 (cellV n x)) ∧ w = w' := by
  obtain ⟨c1, c2, c3, c4⟩ := cell_gen (x := x) h2
  have hm := fun w => run_float_arith (P := Try.prog) w .mul 28 .f64 (fI n) (cleanF x) _ c1
  have hs : (Try.prog.underlying 28).isSome = true := by kernel_rfl
  have hv := fun w => run_convert_float_int (P := Try.prog) w 28 3 .f64 .i64 (ml (fI n) (cleanF x)) _ hs Try.underlying3 c2
  have e2 : floatOfInt .f64 (n : Int) = fI n := rfl
  clear c1 c2 c3 c4 hs h2
  go_enter Try.func28, Try.ntmps28
  go_wp2_with (go_at_call 32; refine (clean_any x _).mono ?_; rintro e w' ⟨rfl, rfl⟩)
  go_ret
  exact ⟨rfl, rfl⟩
theorem ret_i' {a b : Int} (h : a = b) : Ending.returned (.int .i64 a) = .returned (.int .i64 b) := by rw [h]
theorem low_any (a b : Int) (w : World) : Calls Try.prog 29 #[.int .i64 a, .int .i64 b] w fun e w' => e = .returned (.int .i64 (min a b)) ∧ w = w' := by
  by_cases h : a < b
  · have H := Aside0.mk (show min a b = a by omega)
    go_enter Try.func29, Try.ntmps29
    go_wp2
    go_ret
    exact ⟨ret_i' H.out.symm, rfl⟩
  · have H := Aside0.mk (show min a b = b by omega)
    have h2 : b ≤ a := by omega
    clear h
    go_enter Try.func29, Try.ntmps29
    go_wp2
    go_ret
    exact ⟨ret_i' H.out.symm, rfl⟩
theorem rcell_any (n x : Nat) (h1 : 1 ≤ n) (h2 : n < 66) (w : World) :
    Calls Try.prog 20 #[.int .i64 (n : Int), .float .f64 x] w fun e w' => e = .returned (.int .i64 (cellN n x)) ∧ w = w' := by
  obtain ⟨c1, c2, c3, c4⟩ := cell_gen (x := x) h2
  have hm := fun w => run_float_arith (P := Try.prog) w .mul 28 .f64 (fI n) (cleanF x) _ c1
  have hs : (Try.prog.underlying 28).isSome = true := by kernel_rfl
  have hv := fun w => run_convert_float_int (P := Try.prog) w 28 3 .f64 .i64 (ml (fI n) (cleanF x)) _ hs Try.underlying3 c2
  have e2 : floatOfInt .f64 (n : Int) = fI n := rfl
  have HM := Aside0.mk (cellN_min (x := x) h1 h2)
  have HC : ∀ w, Calls Try.prog 23 #[.float .f64 x] w fun e w' => e = .returned (.float .f64 (cleanF x)) ∧ w' = w := fun w => by rw [clean_same]; exact rclean_any x w
  clear c1 c2 c3 c4 hs
  go_enter Try.func20, Try.ntmps20
  go_wp2_with (first
    | (go_at_call 23; refine (show Calls _ _ _ _ _ from HC _).mono ?_; rintro e w' ⟨rfl, hw⟩; subst hw)
    | (go_at_call 29; refine (low_any _ _ _).mono ?_; rintro e w' ⟨rfl, rfl⟩))
  go_ret
  exact ⟨ret_i' HM.out, rfl⟩
set_option maxHeartbeats 2000000 in
theorem rlay_any (n i u r : Nat) (h1 : 1 ≤ n) (h2 : n < 66) (hi : i < 65) (hu : Cln u r) (w : World) :
    Calls Try.prog 8 #[.int .i64 (n : Int), .int .i64 (i : Int), .float .f64 u] w fun e w' => e = .returned (.float .f64 (layW n i u)) ∧ w = w' := by
  obtain ⟨a1, a2, a3, a4⟩ := ad_ok hi hu
  obtain ⟨d1, -⟩ := dv_ok a2 h1 h2
  obtain ⟨d2, -⟩ := dv_ok (fI_tab (i + 1) (by omega)).1 h1 h2
  obtain ⟨d3, -⟩ := dv_ok (fI_tab i (by omega)).1 h1 h2
  obtain ⟨n1, n2, n3⟩ := lay_not h1 h2 hi hu
  have ha := fun w => run_float_arith (P := Try.prog) w .add 28 .f64 (fI i) u _ a1
  have q1 := fun w => run_float_arith (P := Try.prog) w .quo 28 .f64 (ad (fI i) u) (fI n) _ d1
  have q2 := fun w => run_float_arith (P := Try.prog) w .quo 28 .f64 (fI (i + 1)) (fI n) _ d2
  have q3 := fun w => run_float_arith (P := Try.prog) w .quo 28 .f64 (fI i) (fI n) _ d3
  have e1 : floatOfInt .f64 ((i : Int) + 1) = fI (i + 1) := rfl
  have e2 : floatOfInt .f64 (i : Int) = fI i := rfl
  have e3 : floatOfInt .f64 (n : Int) = fI n := rfl
  clear a1 a2 a3 a4 d1 d2 d3 hu h1 h2
  cases hc : flt (xw n i u) (yw n (i + 1)) with
  | true =>
    have HR := Aside0.mk (show layW n i u = xw n i u from by unfold layW; rw [if_pos hc])
    have hl : (FloatKind.f64.format.order (xw n i u) (yw n (i + 1)) == some .gt || FloatKind.f64.format.order (xw n i u) (yw n (i + 1)) == some .eq) = false := ge_not hc
    clear hc n1 n2 n3
    unfold xw yw at *
    go_enter Try.func8, Try.ntmps8
    go_wp2
    go_ret
    exact ⟨ret_f HR.out.symm, rfl⟩
  | false =>
    have HR := Aside0.mk (show layW n i u = yw n i from by unfold layW; rw [hc]; rfl)
    have hl : (FloatKind.f64.format.order (xw n i u) (yw n (i + 1)) == some .gt || FloatKind.f64.format.order (xw n i u) (yw n (i + 1)) == some .eq) = true := ge_of n1 n2 hc
    clear hc n1 n2 n3
    unfold xw yw at *
    go_enter Try.func8, Try.ntmps8
    go_wp2
    go_ret
    exact ⟨ret_f HR.out.symm, rfl⟩
end Go.Proofs.Ytkmdbidjdppdnaa.Gv
