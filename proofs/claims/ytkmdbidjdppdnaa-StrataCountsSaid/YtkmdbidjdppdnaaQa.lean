/- Draws cleaned, and a draw at a place: walks of chapter 42 (turned from my texts of chapter 06). -/
import Derived.Test.YtkmdbidjdppdnaaQp
import Derived.Test.YtkmdbidjdppdnaaHc
import Derived.WalkLawsBesides
import Derived.Deep.LoopGhost
import Derived.Deep.Draws
namespace Go.Proofs.Ytkmdbidjdppdnaa.Gv
open Go.RowKit Go.Proofs.Ytkmdbidjdppdnaa.X Go.Proofs.YtkmdbidjdppdnaaW.PrintWords Go.Proofs.YtkmdbidjdppdnaaW.PrintLast
set_option linter.unusedVariables false
/-- a row of floats, by their bits -/
def FK : Kd Nat := Kd.scalar (Value.float .f64) (fun _ => rfl)
theorem ret_f {a b : Nat} (h : a = b) : Ending.returned (.float .f64 a) = .returned (.float .f64 b) := by rw [h]
theorem infoF : (Try.prog.info? 28).map (fun i => (i.zero, i.size, i.bytes)) = some (some (.float .f64 0), 1, 8) := by kernel_rfl
theorem clean_any (b : Nat) (w : World) : Calls Try.prog 32 #[.float .f64 b] w fun e w' => e = .returned (.float .f64 (cleanF b)) ∧ w = w' := by
  cases c : fge b 0 with
  | false =>
    have c1 : (FloatKind.f64.format.order b 0 == some .gt || FloatKind.f64.format.order b 0 == some .eq) = false := c
    have H := Aside0.mk (show cleanF b = 0 from if_neg (by rw [c]; simp))
    clear c
    go_enter Try.func32, Try.ntmps32
    go_wp2
    go_ret
    exact ⟨ret_f H.out.symm, rfl⟩
  | true =>
    have c1 : (FloatKind.f64.format.order b 0 == some .gt || FloatKind.f64.format.order b 0 == some .eq) = true := c
    cases d : flt b 4607182418800017408 with
    | false =>
      have d1 : (FloatKind.f64.format.order b 4607182418800017408 == some .lt) = false := d
      have H := Aside0.mk (show cleanF b = 0 from if_neg (by rw [d]; simp))
      clear c d
      go_enter Try.func32, Try.ntmps32
      go_wp2
      go_ret
      exact ⟨ret_f H.out.symm, rfl⟩
    | true =>
      have d1 : (FloatKind.f64.format.order b 4607182418800017408 == some .lt) = true := d
      have H := Aside0.mk (show cleanF b = b from if_pos ⟨c, d⟩)
      clear c d
      go_enter Try.func32, Try.ntmps32
      go_wp2
      go_ret
      exact ⟨ret_f H.out.symm, rfl⟩
theorem order_self (b : Nat) : FloatKind.f64.format.order b b = none ∨ FloatKind.f64.format.order b b = some .eq := by
  unfold Ieee.Format.order
  cases Ieee.Format.read FloatKind.f64.format b with
  | nan => left; rfl
  | infinity s => right; cases s <;> rfl
  | number s m e => right; simp [Ieee.Datum.order]
theorem order_none {b : Nat} (h : FloatKind.f64.format.order b b = none) (c : Nat) : FloatKind.f64.format.order b c = none := by
  unfold Ieee.Format.order at h ⊢
  revert h
  cases Ieee.Format.read FloatKind.f64.format b with
  | nan => intro _; simp [Ieee.Datum.order]
  | infinity s => intro h; cases s <;> simp [Ieee.Datum.order] at h
  | number s m e => intro h; simp [Ieee.Datum.order] at h
theorem feq_of_lt {b c : Nat} (h : flt b c = true) : feq b b = true := by
  rcases order_self b with e | e
  · unfold flt at h; rw [order_none e c] at h; cases h
  · unfold feq; rw [e]; rfl
theorem fge_not_lt {b c : Nat} (h : fge b c = true) : flt b c = false := by
  unfold fge at h; unfold flt
  cases e : FloatKind.f64.format.order b c with
  | none => rw [e] at h; cases h
  | some o => rw [e] at h; cases o <;> simp_all
theorem flt_not_ge {b c : Nat} (h : flt b c = true) : fge b c = false := by
  cases e : fge b c with
  | false => rfl
  | true => rw [fge_not_lt e] at h; cases h
theorem not_ge_lt {b c : Nat} (h : fge b c = false) (hb : FloatKind.f64.format.order b c ≠ none) : flt b c = true := by
  unfold fge at h; unfold flt
  cases e : FloatKind.f64.format.order b c with
  | none => exact absurd e hb
  | some o => rw [e] at h; cases o <;> simp_all
theorem order_some {b c : Nat} (hb : feq b b = true) (hc : feq c c = true) : FloatKind.f64.format.order b c ≠ none := by
  unfold feq at hb hc
  unfold Ieee.Format.order at hb hc ⊢
  generalize Ieee.Format.read FloatKind.f64.format b = x at *
  generalize Ieee.Format.read FloatKind.f64.format c = y at *
  cases x <;> cases y <;> simp_all [Ieee.Datum.order]
theorem zero_one : feq 0 0 = true ∧ fge 0 0 = true ∧ flt 0 4607182418800017408 = true ∧ feq 4607182418800017408 4607182418800017408 = true := by decide +kernel
theorem clean_same (b : Nat) : cleanF b = cleanR b := by
  unfold cleanF cleanR
  by_cases h : fge b 0 = true ∧ flt b 4607182418800017408 = true
  · have h1 := fge_not_lt h.1
    have h2 := flt_not_ge h.2
    have h3 := feq_of_lt h.2
    rw [if_pos h, if_neg (by rw [h1, h2, h3]; simp)]
  · rw [if_neg h]
    by_cases hn : feq b b = false
    · rw [if_pos (.inr (.inr hn))]
    · have hb : feq b b = true := by simpa using hn
      cases e1 : fge b 0 with
      | false => rw [if_pos (.inl (not_ge_lt e1 (order_some hb zero_one.1)))]
      | true =>
        have e2 : flt b 4607182418800017408 = false := by
          cases e : flt b 4607182418800017408 with
          | false => rfl
          | true => exact absurd ⟨e1, e⟩ h
        have e3 : fge b 4607182418800017408 = true := by
          cases e : fge b 4607182418800017408 with
          | true => rfl
          | false => rw [not_ge_lt e (order_some hb zero_one.2.2.2)] at e2; cases e2
        rw [if_pos (.inr (.inl e3))]
theorem clean_facts (b : Nat) : fge (cleanF b) 0 = true ∧ flt (cleanF b) 4607182418800017408 = true ∧ feq (cleanF b) (cleanF b) = true ∧ cleanF (cleanF b) = cleanF b := by
  unfold cleanF
  by_cases h : fge b 0 = true ∧ flt b 4607182418800017408 = true
  · rw [if_pos h, if_pos h]
    exact ⟨h.1, h.2, feq_of_lt h.2, rfl⟩
  · rw [if_neg h]
    exact ⟨zero_one.2.1, zero_one.2.2.1, zero_one.1, by rw [if_pos ⟨zero_one.2.1, zero_one.2.2.1⟩]⟩
def rcl (b : Nat) (w : World) : Prop := Calls Try.prog 23 #[.float .f64 b] w fun e w' => e = .returned (.float .f64 (cleanR b)) ∧ w' = w
theorem rclean_any (b : Nat) (w : World) : rcl b w := by
  unfold rcl
  cases c1 : flt b 0 with
  | true =>
    have d1 : (FloatKind.f64.format.order b 0 == some .lt) = true := c1
    have H := Aside0.mk (show cleanR b = 0 from if_pos (.inl c1))
    clear c1
    go_enter Try.func23, Try.ntmps23
    go_wp2
    go_ret
    exact ⟨ret_f H.out.symm, rfl⟩
  | false =>
    have d1 : (FloatKind.f64.format.order b 0 == some .lt) = false := c1
    cases c2 : fge b 4607182418800017408 with
    | true =>
      have d2 : (FloatKind.f64.format.order b 4607182418800017408 == some .gt || FloatKind.f64.format.order b 4607182418800017408 == some .eq) = true := c2
      have H := Aside0.mk (show cleanR b = 0 from if_pos (.inr (.inl c2)))
      clear c1 c2
      go_enter Try.func23, Try.ntmps23
      go_wp2
      go_ret
      exact ⟨ret_f H.out.symm, rfl⟩
    | false =>
      have d2 : (FloatKind.f64.format.order b 4607182418800017408 == some .gt || FloatKind.f64.format.order b 4607182418800017408 == some .eq) = false := c2
      cases c3 : feq b b with
      | false =>
        have d3 : (FloatKind.f64.format.order b b == some .eq) = false := c3
        have d4 : (FloatKind.f64.format.order b b != some .eq) = true := by unfold bne; rw [d3]; rfl
        have H := Aside0.mk (show cleanR b = 0 from if_pos (.inr (.inr c3)))
        clear c1 c2 c3
        go_enter Try.func23, Try.ntmps23
        go_wp2
        go_ret
        exact ⟨ret_f H.out.symm, rfl⟩
      | true =>
        have d3 : (FloatKind.f64.format.order b b == some .eq) = true := c3
        have d4 : (FloatKind.f64.format.order b b != some .eq) = false := by unfold bne; rw [d3]; rfl
        have H := Aside0.mk (show cleanR b = b from if_neg (by rw [c1, c2, c3]; simp))
        clear c1 c2 c3
        go_enter Try.func23, Try.ntmps23
        go_wp2
        go_ret
        exact ⟨ret_f H.out.symm, rfl⟩
theorem rat_any (A : Option Addr) (c : Nat) (xs : List Nat) (i : Int) (w : World) (hr : FK.C w A xs.length xs) (hl : xs.length ≤ 1000000) :
    Calls Try.prog 9 #[.slice A xs.length c, .int .i64 i] w fun e w' => e = .returned (.float .f64 (atF xs i)) ∧ w = w' := by
  by_cases h0 : i < 0
  · have H := Aside0.mk (show atF xs i = 0 from if_neg (by omega))
    clear hr
    go_enter Try.func9, Try.ntmps9
    go_wp2
    go_ret
    exact ⟨ret_f H.out.symm, rfl⟩
  · have h0' : 0 ≤ i := by omega
    clear h0
    by_cases h1 : i < (xs.length : Int)
    · have H := Aside0.mk (show atF xs i = cleanR (xs.getD i.toNat 0) from by unfold atF; rw [if_pos ⟨h0', h1⟩, clean_same])
      obtain ⟨ad, rfl, hx⟩ : ∃ ad, A = some ad ∧ w.cell? (ad.add i.toNat) = some (.float .f64 (xs.getD i.toNat 0)) := by
        have h := Kd.reads_of_C (enc := Value.float .f64) (d := (0 : Nat)) (h1 := fun _ => rfl) hr
        obtain ⟨ad, e, hc⟩ := h.2.2 (by omega)
        exact ⟨ad, e, hc _ (by omega)⟩
      have HR := Aside0.mk (fun w => rclean_any (xs.getD i.toNat 0) w)
      generalize xs.getD i.toNat 0 = x at *
      clear hr
      go_enter Try.func9, Try.ntmps9
      go_wp2_with (go_at_call 23; refine (show Calls _ _ _ _ _ from HR.out _).mono ?_; rintro e w' ⟨rfl, hw⟩; subst hw)
      go_ret
      exact ⟨ret_f H.out.symm, rfl⟩
    · have H := Aside0.mk (show atF xs i = 0 from if_neg (by omega))
      have h2 : (xs.length : Int) ≤ i := by omega
      clear hr h1
      go_enter Try.func9, Try.ntmps9
      go_wp2
      go_ret
      exact ⟨ret_f H.out.symm, rfl⟩
theorem atF_self (xs : List Nat) (i : Int) : feq (atF xs i) (atF xs i) = true := by
  unfold atF
  split
  · exact (clean_facts _).2.2.1
  · exact zero_one.1
theorem at_any (A : Option Addr) (c : Nat) (xs : List Nat) (i : Nat) (w : World) (hr : FK.C w A xs.length xs) (hl : xs.length ≤ 1000000) :
    Calls Try.prog 22 #[.slice A xs.length c, .int .i64 (i : Int)] w fun e w' => e = .returned (.float .f64 (atF xs i)) ∧ w = w' := by
  by_cases h1 : (i : Int) < (xs.length : Int)
  · have H := Aside0.mk (show atF xs i = cleanF (xs.getD i 0) from by unfold atF; rw [if_pos ⟨by omega, h1⟩, Int.toNat_natCast])
    obtain ⟨ad, rfl, hx⟩ : ∃ ad, A = some ad ∧ w.cell? (ad.add i) = some (.float .f64 (xs.getD i 0)) := by
      have h := Kd.reads_of_C (enc := Value.float .f64) (d := (0 : Nat)) (h1 := fun _ => rfl) hr
      obtain ⟨ad, e, hc⟩ := h.2.2 (by omega)
      exact ⟨ad, e, hc _ (by omega)⟩
    generalize xs.getD i 0 = x at *
    have hge : ¬ (xs.length : Int) ≤ (i : Int) := by omega
    clear hr
    go_enter Try.func22, Try.ntmps22
    go_wp2_with (go_at_call 32; refine (clean_any x _).mono ?_; rintro e w' ⟨rfl, rfl⟩)
    go_ret
    exact ⟨ret_f H.out.symm, rfl⟩
  · have H := Aside0.mk (show atF xs i = 0 from if_neg (by omega))
    have h2 : (xs.length : Int) ≤ (i : Int) := by omega
    clear hr h1
    go_enter Try.func22, Try.ntmps22
    go_wp2
    go_ret
    exact ⟨ret_f H.out.symm, rfl⟩
end Go.Proofs.Ytkmdbidjdppdnaa.Gv
