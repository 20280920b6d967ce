/- quotients, products and sums that have an answer; what a way counts. -/
import Derived.Test.YtncbomdngldhbaaIb
import Derived.Test.YtncbomdngldhbaaIn
namespace Go.Proofs.Ytncbomdngldhbaa.Gv
open Go.RowKit Go.Proofs.YtncbomdngldhbaaW.PrintWords Go.Proofs.YtncbomdngldhbaaW.PrintLast
theorem map_ok {o : Option Ieee.Datum} {d : Ieee.Datum} (h : o = some d) (hd : d.isNaN = false) : ∃ r, o.map FloatKind.f64.format.write = some r ∧ notNan r := ⟨_, by rw [h]; rfl, write_ok d hd⟩
theorem div_ok {a b : Nat} (ha : isNum a = true) (hb : isNum b = true) (h0 : FloatKind.f64.format.order a 0 = some .gt) : ∃ r, FloatKind.f64.format.div b a = some r ∧ notNan r := by
  unfold isNum at ha hb
  unfold Ieee.Format.order at h0
  unfold Ieee.Format.div
  rw [read_zero] at h0
  cases e1 : FloatKind.f64.format.read a with
  | nan => rw [e1] at ha; cases ha
  | infinity s => rw [e1] at ha; cases ha
  | number s m i =>
    cases e2 : FloatKind.f64.format.read b with
    | nan => rw [e2] at hb; cases hb
    | infinity s => rw [e2] at hb; cases hb
    | number t n j =>
      have hm : m ≠ 0 := by
        rintro rfl
        rw [e1] at h0
        cases s <;> simp [Ieee.Datum.order, Ieee.signed] at h0
      refine map_ok (d := _) (by simp only [Ieee.Datum.quotient]; rw [if_neg hm]) rfl
theorem mul_ok {r : Nat} (h : notNan r) : ∃ s, FloatKind.f64.format.mul r r = some s ∧ notNan s := by
  unfold notNan at h
  unfold Ieee.Format.mul
  cases e : FloatKind.f64.format.read r with
  | nan => rw [e] at h; cases h
  | infinity s => exact map_ok (d := _) rfl rfl
  | number s m i => exact map_ok (d := _) rfl rfl
theorem add_ok {r : Nat} (h : notNan r) : ∃ s, FloatKind.f64.format.add 4607182418800017408 r = some s ∧ notNan s := by
  unfold notNan at h
  unfold Ieee.Format.add
  rw [read_one]
  cases e : FloatKind.f64.format.read r with
  | nan => rw [e] at h; cases h
  | infinity s => exact map_ok (d := _) rfl rfl
  | number s m i => exact map_ok (d := _) rfl rfl
theorem inv_ok {r : Nat} (h : notNan r) : ∃ s, FloatKind.f64.format.div 4607182418800017408 r = some s ∧ notNan s := by
  unfold notNan at h
  unfold Ieee.Format.div
  rw [read_one]
  cases e : FloatKind.f64.format.read r with
  | nan => rw [e] at h; cases h
  | infinity s => exact map_ok (d := _) rfl rfl
  | number s m i =>
    by_cases c : m = 0
    · exact map_ok (d := .infinity (false ^^ s)) (by simp only [Ieee.Datum.quotient]; rw [if_pos c]; rfl) rfl
    · exact map_ok (d := _) (by simp only [Ieee.Datum.quotient]; rw [if_neg c]) rfl
def dv (x y : Nat) : Nat := (FloatKind.f64.format.div x y).getD 0
def ml (x y : Nat) : Nat := (FloatKind.f64.format.mul x y).getD 0
def ad (x y : Nat) : Nat := (FloatKind.f64.format.add x y).getD 0
theorem getD_some {o : Option Nat} (h : ∃ r, o = some r ∧ notNan r) : o = some (o.getD 0) ∧ notNan (o.getD 0) := by
  obtain ⟨r, rfl, h⟩ := h
  exact ⟨rfl, h⟩
/-- how a heuristic weighs a quotient -/
def wq (k : Int) (r : Nat) : Nat := dv 4607182418800017408 (ad 4607182418800017408 (if k = 2 then ml r r else r))
def goodW (k : Int) (a b : Nat) : Prop := (k = 1 ∨ k = 2) ∧ FloatKind.f64.format.order a 0 = some .gt ∧ (FloatKind.f64.format.order b 0 = some .gt ∨ FloatKind.f64.format.order b 0 = some .eq) ∧ isNum a = true ∧ isNum b = true
instance (k : Int) (a b : Nat) : Decidable (goodW k a b) := by unfold goodW; infer_instance
def wgt (k : Int) (a b : Nat) : Nat := if goodW k a b then wq k (dv b a) else 0
theorem wq_not {k : Int} {r : Nat} (h : notNan r) : notNan (wq k r) := by
  unfold wq
  split
  · exact (getD_some (inv_ok (getD_some (add_ok (getD_some (mul_ok h)).2)).2)).2
  · exact (getD_some (inv_ok (getD_some (add_ok h)).2)).2
theorem dv_not {k : Int} {a b : Nat} (h : goodW k a b) : notNan (dv b a) := (getD_some (div_ok h.2.2.2.1 h.2.2.2.2 h.2.1)).2
theorem wgt_not (k : Int) (a b : Nat) : notNan (wgt k a b) := by
  unfold wgt
  split
  · rename_i h; exact wq_not (dv_not h)
  · show (FloatKind.f64.format.read 0).isNaN = false
    rw [read_zero]; rfl
section
variable (P : Program)
theorem run_div {t : TypeId} {x y : Nat} (h : ∃ r, FloatKind.f64.format.div x y = some r ∧ notNan r) (w : World) : (binOp .quo t (.float .f64 x) (.float .f64 y)).run P w = .ok (.float .f64 (dv x y)) w := run_float_arith w .quo t .f64 x y _ (getD_some h).1
theorem run_mul {t : TypeId} {x y : Nat} (h : ∃ r, FloatKind.f64.format.mul x y = some r ∧ notNan r) (w : World) : (binOp .mul t (.float .f64 x) (.float .f64 y)).run P w = .ok (.float .f64 (ml x y)) w := run_float_arith w .mul t .f64 x y _ (getD_some h).1
theorem run_add {t : TypeId} {x y : Nat} (h : ∃ r, FloatKind.f64.format.add x y = some r ∧ notNan r) (w : World) : (binOp .add t (.float .f64 x) (.float .f64 y)).run P w = .ok (.float .f64 (ad x y)) w := run_float_arith w .add t .f64 x y _ (getD_some h).1
end
theorem by1_any (k : Int) (r : Nat) (h : notNan r) (p : Addr) (w : World) (hp : w.cell? p = some (.int .i64 k)) :
    Calls Try.prog 14 #[.float .f64 r, .pointer (some p)] w fun e w' => e = .returned (.float .f64 (wq k r)) ∧ w = w' := by
  by_cases c : k = 2
  · have H := Aside0.mk (show wq k r = dv 4607182418800017408 (ad 4607182418800017408 (ml r r)) by unfold wq; rw [if_pos c])
    subst c
    have m1 : ∀ w, (binOp .mul 22 (.float .f64 r) (.float .f64 r)).run Try.prog w = .ok (.float .f64 (ml r r)) w := run_mul Try.prog (mul_ok h)
    have m2 : ∀ w, (binOp .add 22 (.float .f64 4607182418800017408) (.float .f64 (ml r r))).run Try.prog w = .ok (.float .f64 (ad 4607182418800017408 (ml r r))) w := run_add Try.prog (add_ok (getD_some (mul_ok h)).2)
    have m3 : ∀ w, (binOp .quo 22 (.float .f64 4607182418800017408) (.float .f64 (ad 4607182418800017408 (ml r r)))).run Try.prog w = .ok (.float .f64 (dv 4607182418800017408 (ad 4607182418800017408 (ml r r)))) w := run_div Try.prog (inv_ok (getD_some (add_ok (getD_some (mul_ok h)).2)).2)
    clear h
    go_enter Try.func14, Try.ntmps14
    go_wp2
    go_ret
    exact ⟨by rw [H.out]; rfl, rfl⟩
  · have H := Aside0.mk (show wq k r = dv 4607182418800017408 (ad 4607182418800017408 r) by unfold wq; rw [if_neg c])
    have c1 : (k == 2) = false := beq_eq_false_iff_ne.mpr c
    have m2 : ∀ w, (binOp .add 22 (.float .f64 4607182418800017408) (.float .f64 r)).run Try.prog w = .ok (.float .f64 (ad 4607182418800017408 r)) w := run_add Try.prog (add_ok h)
    have m3 : ∀ w, (binOp .quo 22 (.float .f64 4607182418800017408) (.float .f64 (ad 4607182418800017408 r))).run Try.prog w = .ok (.float .f64 (dv 4607182418800017408 (ad 4607182418800017408 r))) w := run_div Try.prog (inv_ok (getD_some (add_ok h)).2)
    clear h c
    go_enter Try.func14, Try.ntmps14
    go_wp2
    go_ret
    exact ⟨by rw [H.out]; rfl, rfl⟩
end Go.Proofs.Ytncbomdngldhbaa.Gv
