/- What any draw counts as: the reference's Clean, and the statement TapeCleans. -/
import Derived.Test.YtedifkidnpaejaaGk
namespace Go.Proofs.Ytedifkidnpaejaa.Gv
open Go.RowKit Go.Proofs.YtedifkidnpaejaaW.PrintWords Go.Proofs.YtedifkidnpaejaaW.PrintLast

def feq (a b : Nat) : Bool := FloatKind.f64.format.order a b == some .eq
/-- what the reference says that a draw counts as -/
def cleanR (b : Nat) : Nat := if flt b 0 = true ∨ fge b 4607182418800017408 = true ∨ feq b b = false then 0 else b
theorem order_self (b : Nat) : FloatKind.f64.format.order b b = none ∨ FloatKind.f64.format.order b b = some .eq := by
  unfold Ieee.Format.order
  cases Ieee.Format.read FloatKind.f64.format b with
  | nan => left; rfl
  | infinity s => right; cases s <;> rfl
  | number s m e => right; simp [Ieee.Datum.order]
theorem order_none {b : Nat} (h : FloatKind.f64.format.order b b = none) (c : Nat) : FloatKind.f64.format.order b c = none := by
  unfold Ieee.Format.order at h ⊢
  revert h
  cases Ieee.Format.read FloatKind.f64.format b with
  | nan => intro _; simp [Ieee.Datum.order]
  | infinity s => intro h; cases s <;> simp [Ieee.Datum.order] at h
  | number s m e => intro h; simp [Ieee.Datum.order] at h
theorem feq_of_lt {b c : Nat} (h : flt b c = true) : feq b b = true := by
  rcases order_self b with e | e
  · unfold flt at h; rw [order_none e c] at h; cases h
  · unfold feq; rw [e]; rfl
theorem fge_not_lt {b c : Nat} (h : fge b c = true) : flt b c = false := by
  unfold fge at h; unfold flt
  cases e : FloatKind.f64.format.order b c with
  | none => rw [e] at h; cases h
  | some o => rw [e] at h; cases o <;> simp_all
theorem flt_not_ge {b c : Nat} (h : flt b c = true) : fge b c = false := by
  cases e : fge b c with
  | false => rfl
  | true => rw [fge_not_lt e] at h; cases h
theorem not_ge_lt {b c : Nat} (h : fge b c = false) (hb : FloatKind.f64.format.order b c ≠ none) : flt b c = true := by
  unfold fge at h; unfold flt
  cases e : FloatKind.f64.format.order b c with
  | none => exact absurd e hb
  | some o => rw [e] at h; cases o <;> simp_all
theorem order_some {b c : Nat} (hb : feq b b = true) (hc : feq c c = true) : FloatKind.f64.format.order b c ≠ none := by
  unfold feq at hb hc
  unfold Ieee.Format.order at hb hc ⊢
  generalize Ieee.Format.read FloatKind.f64.format b = x at *
  generalize Ieee.Format.read FloatKind.f64.format c = y at *
  cases x <;> cases y <;> simp_all [Ieee.Datum.order]
theorem zero_one : feq 0 0 = true ∧ fge 0 0 = true ∧ flt 0 4607182418800017408 = true ∧ feq 4607182418800017408 4607182418800017408 = true := by decide +kernel
theorem clean_same (b : Nat) : cleanF b = cleanR b := by
  unfold cleanF cleanR
  by_cases h : fge b 0 = true ∧ flt b 4607182418800017408 = true
  · have h1 := fge_not_lt h.1
    have h2 := flt_not_ge h.2
    have h3 := feq_of_lt h.2
    rw [if_pos h, if_neg (by rw [h1, h2, h3]; simp)]
  · rw [if_neg h]
    by_cases hn : feq b b = false
    · rw [if_pos (.inr (.inr hn))]
    · have hb : feq b b = true := by simpa using hn
      cases e1 : fge b 0 with
      | false => rw [if_pos (.inl (not_ge_lt e1 (order_some hb zero_one.1)))]
      | true =>
        have e2 : flt b 4607182418800017408 = false := by
          cases e : flt b 4607182418800017408 with
          | false => rfl
          | true => exact absurd ⟨e1, e⟩ h
        have e3 : fge b 4607182418800017408 = true := by
          cases e : fge b 4607182418800017408 with
          | true => rfl
          | false => rw [not_ge_lt e (order_some hb zero_one.2.2.2)] at e2; cases e2
        rw [if_pos (.inr (.inl e3))]
theorem clean_facts (b : Nat) : fge (cleanF b) 0 = true ∧ flt (cleanF b) 4607182418800017408 = true ∧ feq (cleanF b) (cleanF b) = true ∧ cleanF (cleanF b) = cleanF b := by
  unfold cleanF
  by_cases h : fge b 0 = true ∧ flt b 4607182418800017408 = true
  · rw [if_pos h, if_pos h]
    exact ⟨h.1, h.2, feq_of_lt h.2, rfl⟩
  · rw [if_neg h]
    exact ⟨zero_one.2.1, zero_one.2.2.1, zero_one.1, by rw [if_pos ⟨zero_one.2.1, zero_one.2.2.1⟩]⟩
def rcl (b : Nat) (w : World) : Prop := Calls Try.prog 15 #[.float .f64 b] w fun e w' => e = .returned (.float .f64 (cleanR b)) ∧ w' = w
theorem rclean_any (b : Nat) (w : World) : rcl b w := by
  unfold rcl
  cases c1 : flt b 0 with
  | true =>
    have d1 : (FloatKind.f64.format.order b 0 == some .lt) = true := c1
    have H := Aside0.mk (show cleanR b = 0 from if_pos (.inl c1))
    clear c1
    go_enter Try.func15, Try.ntmps15
    go_wp2
    go_ret
    exact ⟨ret_f H.out.symm, rfl⟩
  | false =>
    have d1 : (FloatKind.f64.format.order b 0 == some .lt) = false := c1
    cases c2 : fge b 4607182418800017408 with
    | true =>
      have d2 : (FloatKind.f64.format.order b 4607182418800017408 == some .gt || FloatKind.f64.format.order b 4607182418800017408 == some .eq) = true := c2
      have H := Aside0.mk (show cleanR b = 0 from if_pos (.inr (.inl c2)))
      clear c1 c2
      go_enter Try.func15, Try.ntmps15
      go_wp2
      go_ret
      exact ⟨ret_f H.out.symm, rfl⟩
    | false =>
      have d2 : (FloatKind.f64.format.order b 4607182418800017408 == some .gt || FloatKind.f64.format.order b 4607182418800017408 == some .eq) = false := c2
      cases c3 : feq b b with
      | false =>
        have d3 : (FloatKind.f64.format.order b b == some .eq) = false := c3
        have d4 : (FloatKind.f64.format.order b b != some .eq) = true := by unfold bne; rw [d3]; rfl
        have H := Aside0.mk (show cleanR b = 0 from if_pos (.inr (.inr c3)))
        clear c1 c2 c3
        go_enter Try.func15, Try.ntmps15
        go_wp2
        go_ret
        exact ⟨ret_f H.out.symm, rfl⟩
      | true =>
        have d3 : (FloatKind.f64.format.order b b == some .eq) = true := c3
        have d4 : (FloatKind.f64.format.order b b != some .eq) = false := by unfold bne; rw [d3]; rfl
        have H := Aside0.mk (show cleanR b = b from if_neg (by rw [c1, c2, c3]; simp))
        clear c1 c2 c3
        go_enter Try.func15, Try.ntmps15
        go_wp2
        go_ret
        exact ⟨ret_f H.out.symm, rfl⟩
set_option maxHeartbeats 1000000 in
theorem cleans_any (b : Nat) (w : World) : Calls Try.prog 4 #[.float .f64 b] w fun e w' => e = .returned (.bool true) ∧ Below w.heap.size w w' := by
  have hf := clean_facts b
  have hR := fun w => rclean_any b w
  unfold rcl at hR
  rw [← clean_same b] at hR
  have hCC := fun w => clean_any (cleanF b) w
  rw [hf.2.2.2] at hCC
  have HC := Aside0.mk (fun w => clean_any b w)
  generalize cleanF b = c at *
  have HR := Aside0.mk hR
  have HCC := Aside0.mk hCC
  have g1 : (FloatKind.f64.format.order c 0 == some .gt || FloatKind.f64.format.order c 0 == some .eq) = true := hf.1
  have g2 : (FloatKind.f64.format.order c 4607182418800017408 == some .lt) = true := hf.2.1
  have g3 : (FloatKind.f64.format.order c c == some .eq) = true := hf.2.2.1
  have g4 : (FloatKind.f64.format.order 0 0 == some .eq) = true := zero_one.1
  clear hf hR hCC
  go_enter Try.func4, Try.ntmps4
  go_wp2_with (first
    | (go_at_call 14; (with_reducible refine (HC.out _).mono ?_); rintro e w' ⟨rfl, rfl⟩)
    | (go_at_call 14; (with_reducible refine (HCC.out _).mono ?_); rintro e w' ⟨rfl, rfl⟩)
    | (go_at_call 15; refine (HR.out _).mono ?_; rintro e w' ⟨rfl, hw⟩; subst hw)
    | (go_at_call 11; refine (awake06 _).mono ?_; rintro z w9 ⟨rfl, hB9⟩)
    | (go_at_call 8; refine (nil_at _ _).mono ?_; rintro e w' ⟨rfl, rfl⟩)
    | (go_at_call 12; refine (nil_read _).mono ?_; rintro e w' ⟨rfl, rfl⟩)
    | (go_at_call 13; refine (nil_len _).mono ?_; rintro e w' ⟨rfl, rfl⟩))
  go_ret
  exact ⟨rfl, hB9⟩
end Go.Proofs.Ytedifkidnpaejaa.Gv
