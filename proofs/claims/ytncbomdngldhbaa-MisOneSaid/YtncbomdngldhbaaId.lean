/- mis.Weight and the document's, by hand. -/
import Derived.Test.YtncbomdngldhbaaIc
namespace Go.Proofs.Ytncbomdngldhbaa.Gv
open Go.RowKit Go.Proofs.YtncbomdngldhbaaW.PrintWords Go.Proofs.YtncbomdngldhbaaW.PrintLast
def isK (k : Int) : Bool := k == 1 || k == 2
theorem right_any (k : Int) (w : World) : Calls Try.prog 11 #[.int .i64 k] w fun e w' => e = .returned (.bool (isK k)) ∧ w = w' := by
  unfold isK
  by_cases c1 : k = 1
  · subst c1
    go_enter Try.func11, Try.ntmps11
    go_wp2
    go_ret
    exact ⟨rfl, rfl⟩
  · have d1 : (k == 1) = false := beq_eq_false_iff_ne.mpr c1
    go_enter Try.func11, Try.ntmps11
    go_wp2
    go_ret
    exact ⟨by simp [d1], rfl⟩
theorem by_any (k : Int) (w : World) : Calls Try.prog 13 #[.int .i64 k] w fun e w' => e = .returned (.func (.func 14) #[] #[.pointer (some ⟨w.heap.size, 0, none⟩)]) ∧ w.alloc (.cells #[.int .i64 k] 3) = w' := by
  go_enter Try.func13, Try.ntmps13
  go_wp2
  go_ret
  exact ⟨rfl, rfl⟩
theorem num_order {a : Nat} (h : isNum a = true) : FloatKind.f64.format.order a 0 ≠ none := by
  unfold isNum at h
  unfold Ieee.Format.order
  rw [read_zero]
  cases e : FloatKind.f64.format.read a with
  | nan => rw [e] at h; cases h
  | infinity s => rw [e] at h; cases h
  | number s m i => simp [Ieee.Datum.order]
theorem le_gt {a : Nat} (h : isNum a = true) : (FloatKind.f64.format.order a 0 == some .lt || FloatKind.f64.format.order a 0 == some .eq) = !(FloatKind.f64.format.order a 0 == some .gt) := by
  have := num_order h
  cases e : FloatKind.f64.format.order a 0 with
  | none => exact absurd e this
  | some o => cases o <;> rfl
theorem lt_ge {a : Nat} (h : isNum a = true) : (FloatKind.f64.format.order a 0 == some .lt) = !(FloatKind.f64.format.order a 0 == some .gt || FloatKind.f64.format.order a 0 == some .eq) := by
  have := num_order h
  cases e : FloatKind.f64.format.order a 0 with
  | none => exact absurd e this
  | some o => cases o <;> rfl
theorem goodW_iff (k : Int) (a b : Nat) : goodW k a b ↔ isK k = true ∧ (FloatKind.f64.format.order a 0 == some .gt) = true ∧ (FloatKind.f64.format.order b 0 == some .gt || FloatKind.f64.format.order b 0 == some .eq) = true ∧ isNum a = true ∧ isNum b = true := by
  unfold goodW isK
  simp
theorem wgt_zero {k : Int} {a b : Nat} (h : ¬ (isK k = true ∧ (FloatKind.f64.format.order a 0 == some .gt) = true ∧ (FloatKind.f64.format.order b 0 == some .gt || FloatKind.f64.format.order b 0 == some .eq) = true ∧ isNum a = true ∧ isNum b = true)) : wgt k a b = 0 := if_neg (fun g => h ((goodW_iff k a b).mp g))
set_option maxHeartbeats 2000000 in
theorem weight_bad (k : Int) (a b : Nat) (w : World) (h : ¬ (isK k = true ∧ (FloatKind.f64.format.order a 0 == some .gt) = true ∧ (FloatKind.f64.format.order b 0 == some .gt || FloatKind.f64.format.order b 0 == some .eq) = true ∧ isNum a = true ∧ isNum b = true)) :
    Calls Try.prog 8 #[.int .i64 k, .float .f64 a, .float .f64 b] w fun e w' => e = .returned (.float .f64 0) ∧ w = w' := by
  have HR := Aside0.mk (right_any k)
  have HA := Aside0.mk (vnum_any a)
  have HB := Aside0.mk (vnum_any b)
  generalize isK k = p at *
  generalize isNum a = na at *
  generalize isNum b = nb at *
  cases c2 : (FloatKind.f64.format.order a 0 == some .gt) <;> cases c3 : (FloatKind.f64.format.order b 0 == some .gt || FloatKind.f64.format.order b 0 == some .eq) <;> rw [c2, c3] at h <;> cases p <;> cases na <;> cases nb <;> first | (exfalso; exact h ⟨rfl, rfl, rfl, rfl, rfl⟩) | skip
  all_goals clear h
  all_goals go_enter Try.func8, Try.ntmps8
  all_goals
    go_wp2_with (first
      | (go_at_call 11; refine (HR.out _).mono ?_; rintro x w1 ⟨rfl, rfl⟩)
      | (go_at_call 12; with_reducible refine (HA.out _).mono ?_; rintro x w1 ⟨rfl, rfl⟩)
      | (go_at_call 12; with_reducible refine (HB.out _).mono ?_; rintro x w1 ⟨rfl, rfl⟩))
  all_goals
    go_ret
    exact ⟨rfl, rfl⟩
set_option maxHeartbeats 2000000 in
theorem weight_good (k : Int) (a b : Nat) (w : World) (hg : goodW k a b) :
    Calls Try.prog 8 #[.int .i64 k, .float .f64 a, .float .f64 b] w fun e w' => e = .returned (.float .f64 (wq k (dv b a))) ∧ Below w.heap.size w w' := by
  obtain ⟨c1, c2, c3, c4, c5⟩ := (goodW_iff k a b).mp hg
  have HR := Aside0.mk (right_any k)
  have HA := Aside0.mk (vnum_any a)
  have HB := Aside0.mk (vnum_any b)
  have HY := Aside0.mk (by1_any k (dv b a) (dv_not hg))
  have hd : ∀ w, (binOp .quo 22 (.float .f64 b) (.float .f64 a)).run Try.prog w = .ok (.float .f64 (dv b a)) w := run_div Try.prog (div_ok c4 c5 hg.2.1)
  rw [c1] at HR
  rw [c4] at HA
  rw [c5] at HB
  clear hg c1 c4 c5
  generalize dv b a = q at *
  generalize wq k q = z at *
  go_enter Try.func8, Try.ntmps8
  go_wp2_with (first
    | (go_at_call 11; refine (HR.out _).mono ?_; rintro x w1 ⟨rfl, rfl⟩)
    | (go_at_call 12; with_reducible refine (HA.out _).mono ?_; rintro x w1 ⟨rfl, rfl⟩)
    | (go_at_call 12; with_reducible refine (HB.out _).mono ?_; rintro x w1 ⟨rfl, rfl⟩)
    | (go_at_call 13; refine (by_any k _).mono ?_; rintro x w1 ⟨rfl, rfl⟩)
    | (go_at_call 14; refine (HY.out _ _ ?hp).mono ?_; (case hp => exact (blk_cell (blk_new _ _) 0).trans rfl); rintro x w1 ⟨rfl, rfl⟩))
  go_ret
  exact ⟨rfl, Below.alloc (Below.refl _ _) (Nat.le_refl _) _⟩
theorem weight_any (k : Int) (a b : Nat) (w : World) :
    Calls Try.prog 8 #[.int .i64 k, .float .f64 a, .float .f64 b] w fun e w' => e = .returned (.float .f64 (wgt k a b)) ∧ Below w.heap.size w w' := by
  by_cases h : goodW k a b
  · rw [show wgt k a b = wq k (dv b a) from if_pos h]
    exact weight_good k a b w h
  · rw [show wgt k a b = 0 from if_neg h]
    refine (weight_bad k a b w (fun g => h ((goodW_iff k a b).mpr g))).mono ?_
    rintro e w' ⟨rfl, rfl⟩
    exact ⟨rfl, Below.refl _ _⟩
end Go.Proofs.Ytncbomdngldhbaa.Gv
