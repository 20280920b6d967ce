/- package pcg: Float, Fill, and what no generator does, by hand. -/
import Derived.Test.YtnliiljnddjbcaaHd
import Derived.Test.YtnliiljnddjbcaaFp
namespace Go.Proofs.Ytnliiljnddjbcaa.Gv
open Go.RowKit Go.Proofs.Ytnliiljnddjbcaa.X Go.Proofs.YtnliiljnddjbcaaW.PrintWords Go.Proofs.YtnliiljnddjbcaaW.PrintLast
/-- a row of floats, by their bits -/
def FK : Kd Nat := Kd.scalar (Value.float .f64) (fun _ => rfl)
theorem ret_f {a b : Nat} (h : a = b) : Ending.returned (.float .f64 a) = .returned (.float .f64 b) := by rw [h]
/-- a drawn word as a number below 1 -/
def dr (n : Int) : Nat := (FloatKind.f64.format.div (FloatKind.f64.nearest n) 4751297606875873280).getD 0
theorem dr_run {P : Program} {t : TypeId} {n : Int} (h0 : 0 ≤ n) (h1 : n < 4294967296) (w : World) : (binOp .quo t (.float .f64 (floatOfInt .f64 n)) (.float .f64 4751297606875873280)).run P w = .ok (.float .f64 (dr n)) w := by
  obtain ⟨x, rfl⟩ := Int.eq_ofNat_of_zero_le h0
  obtain ⟨v, hv, _⟩ := draw_ok x (by omega)
  refine run_float_arith w .quo t .f64 _ _ _ ?_
  unfold dr
  rw [hv]
  exact hv
theorem dr_lt {n : Int} (h0 : 0 ≤ n) (h1 : n < 4294967296) : dr n < 4607182418800017408 := by
  obtain ⟨x, rfl⟩ := Int.eq_ofNat_of_zero_le h0
  obtain ⟨v, hv, hl⟩ := draw_ok x (by omega)
  unfold dr
  rw [hv]
  exact hl
theorem next_nil (w : World) : Calls Try.prog 13 #[.pointer none] w fun e w' => e = .returned (.int .u32 0) ∧ w = w' := by
  go_enter Try.func13, Try.ntmps13
  go_wp2
  go_ret
  exact ⟨rfl, rfl⟩
theorem skip_nil (n : Int) (w : World) : Calls Try.prog 11 #[.pointer none, .int .i64 n] w fun e w' => e = .returned (.tuple #[]) ∧ w = w' := by
  go_enter Try.func11, Try.ntmps11
  go_wp2
  refine bodyPost_ret (results_none rfl _ _ _) rfl ?_
  exact ⟨rfl, rfl⟩
theorem state_nil (w : World) : Calls Try.prog 12 #[.pointer none] w fun e w' => e = .returned (.tuple #[.int .u64 0, .int .u64 0]) ∧ w = w' := by
  go_enter Try.func12, Try.ntmps12
  go_wp2
  go_ret2
  exact ⟨rfl, rfl⟩
theorem float_nil (w : World) : Calls Try.prog 14 #[.pointer none] w fun e w' => e = .returned (.float .f64 0) ∧ w = w' := by
  have h1 : ∀ w, (binOp .quo 37 (.float .f64 (floatOfInt .f64 0)) (.float .f64 4751297606875873280)).run Try.prog w = .ok (.float .f64 0) w := fun w => by
    have h := dr_run (P := Try.prog) (t := 37) (n := 0) (by decide) (by decide) w
    rw [show dr 0 = 0 by decide +kernel] at h
    exact h
  go_enter Try.func14, Try.ntmps14
  go_wp2_with (go_at_call 13; refine (next_nil _).mono ?_; rintro x w1 ⟨rfl, rfl⟩)
  go_ret
  exact ⟨rfl, rfl⟩
theorem float_any (g : Nat) (s c : Int) (h0 : 0 ≤ s) (h1 : s < 18446744073709551616) (w : World) (h : Gn w 45 g s c) :
    Calls Try.prog 14 #[.pointer (some ⟨g, 0, none⟩)] w fun e w' => e = .returned (.float .f64 (dr (nxt s))) ∧ Gn w' 45 g (stp s c) c ∧ w.grownBy w' (some g) := by
  have HN := Aside0.mk (next_any g s c h0 h1 w h)
  obtain ⟨n0, n1⟩ := nxt_in s
  have hd : ∀ w, (binOp .quo 37 (.float .f64 (floatOfInt .f64 (nxt s))) (.float .f64 4751297606875873280)).run Try.prog w = .ok (.float .f64 (dr (nxt s))) w := dr_run n0 n1
  generalize nxt s = z at *
  generalize dr z = y at *
  clear h
  go_enter Try.func14, Try.ntmps14
  go_wp2_with (go_at_call 13; refine HN.out.mono ?_; rintro x w1 ⟨rfl, hG1, hg1⟩; have HG1 := Aside0.mk hG1; have Hg1 := Aside0.mk hg1; clear hG1 hg1)
  go_ret
  exact ⟨rfl, HG1.out, Hg1.out⟩
end Go.Proofs.Ytnliiljnddjbcaa.Gv
