/- package probe: Good, Same, by hand. -/
import Derived.Test.YtaikeldhdbejaaaJb
namespace Go.Proofs.Ytaikeldhdbejaaa.Gv
open Go.RowKit Go.Proofs.YtaikeldhdbejaaaW.PrintWords Go.Proofs.YtaikeldhdbejaaaW.PrintLast Go.Proofs.YtaikeldhdbejaaaW.PrintMore
def badN (xs : List Nat) : Nat := cnt (fun j => badX (xs.getD j 0)) xs.length
def negN (ds : List Int) : Nat := cnt (fun j => decide (ds.getD j 0 < 0)) ds.length
/-- what probe.Good answers -/
def goodV (W H : Int) (xs : List Nat) (ds : List Int) : Bool := sidesB W H && (decide ((xs.length : Int) = 3 * W * H) && (decide ((ds.length : Int) = W * H) && decide (badN xs + negN ds = 0)))
theorem prod_in {W H : Int} (h : sidesB W H = true) : 1 ≤ W ∧ W ≤ 8192 ∧ 1 ≤ H ∧ H ≤ 8192 ∧ 0 ≤ W * H ∧ W * H ≤ 67108864 ∧ 3 * W * H = 3 * (W * H) := by
  have h := of_decide_eq_true h
  obtain ⟨a, b, c, d⟩ := h
  have e1 : 0 ≤ W * H := Int.mul_nonneg (by omega) (by omega)
  have e2 : W * H ≤ 8192 * 8192 := Int.mul_le_mul c d (by omega) (by omega)
  exact ⟨a, c, b, d, e1, by omega, Int.mul_assoc _ _ _⟩
set_option maxHeartbeats 4000000 in
theorem good_any (W H : Int) (xs : List Nat) (AL : Option Addr) (cL : Nat) (ds : List Int) (AD : Option Addr) (cD : Nat) (w : World) (hr : FK.C w AL xs.length xs) (hr2 : (Kd.int .i64).C w AD ds.length ds) (hl : xs.length ≤ 1000000) (hl2 : ds.length ≤ 1000000) :
    Calls Try.prog 12 #[.agg #[.int .i64 W, .int .i64 H, .slice AL xs.length cL, .slice AD ds.length cD]] w fun e w' => e = .returned (.bool (goodV W H xs ds)) ∧ Below w.heap.size w w' := by
  have hu := Try.underlying25
  have b1 := blk_new w (.cells #[.int .i64 W, .int .i64 H, .slice AL xs.length cL, .slice AD ds.length cD] 25)
  have hB := Below.alloc (Below.refl w.heap.size w) (Nat.le_refl _) (.cells #[.int .i64 W, .int .i64 H, .slice AL xs.length cL, .slice AD ds.length cD] 25)
  have HB1 := Aside0.mk b1
  have HBel := Aside0.mk hB
  have HR := Aside0.mk hr
  have HR2 := Aside0.mk hr2
  have HS := Aside0.mk (sides_any W H AL xs.length cL AD ds.length cD)
  obtain ⟨k0, k1, k2, k3⟩ := pic_cells b1
  clear b1 hB hr hr2
  cases hs : sidesB W H with
  | false =>
    have HV := Aside0.mk (show goodV W H xs ds = false by unfold goodV; rw [hs]; rfl)
    rw [hs] at HS
    clear hs
    go_enter Try.func12, Try.ntmps12
    go_wp2_with (first
      | (go_at_call 22; refine (HS.out _).mono ?_; rintro x w1 ⟨rfl, hb1⟩; have HBel1 := Aside0.mk (below_then HBel.out HBel.out.size hb1); clear hb1))
    go_ret
    exact ⟨by rw [HV.out]; rfl, HBel1.out⟩
  | true =>
    obtain ⟨w1, w2, h1, h2, p0, p1, p2⟩ := prod_in hs
    rw [hs] at HS
    have q1 : IntKind.i64.wrap (3 * W * H) = 3 * W * H := IntWalk.i64_in _ (by omega)
    have q2 : IntKind.i64.wrap (W * H) = W * H := IntWalk.i64_in _ (by omega)
    have q3 : wrap64 (3 * W * H) = 3 * W * H := by rw [← IntWalk.i64_left]; exact q1
    have q4 : wrap64 (W * H) = W * H := by rw [← IntWalk.i64_left]; exact q2
    have HVd := Aside0.mk (show goodV W H xs ds = (decide ((xs.length : Int) = 3 * W * H) && (decide ((ds.length : Int) = W * H) && decide (badN xs + negN ds = 0))) by unfold goodV; rw [hs]; rfl)
    clear hs p2
    by_cases c1 : (xs.length : Int) = 3 * W * H
    · have d1 : ((xs.length : Int) != 3 * W * H) = false := by rw [c1]; simp
      by_cases c2 : (ds.length : Int) = W * H
      · have d2 : ((ds.length : Int) != W * H) = false := by rw [c2]; simp
        have HV := Aside0.mk (show goodV W H xs ds = decide (badN xs + negN ds = 0) by rw [HVd.out, decide_eq_true c1, decide_eq_true c2]; rfl)
        have n1 := cnt_le (fun j => badX (xs.getD j 0)) xs.length
        have n2 := cnt_le (fun j => decide (ds.getD j 0 < 0)) ds.length
        have HC1 := Aside0.mk (fun W' h => countG (fun j => badX (xs.getD j 0)) xs AL cL W' h hl (fun j _ => good1_any _ _ _))
        have HC2 := Aside0.mk (fun W' h => countI (fun j => decide (ds.getD j 0 < 0)) ds AD cD W' h hl2 (fun j _ => good2_any _ _ _))
        change Aside0 (∀ W', FK.C W' AL xs.length xs → Calls _ _ _ W' fun e w' => e = .returned (.int .i64 (badN xs : Int)) ∧ W' = w') at HC1
        change Aside0 (∀ W', (Kd.int .i64).C W' AD ds.length ds → Calls _ _ _ W' fun e w' => e = .returned (.int .i64 (negN ds : Int)) ∧ W' = w') at HC2
        change badN xs ≤ _ at n1
        change negN ds ≤ _ at n2
        generalize badN xs = u at *
        generalize negN ds = v at *
        clear c1 c2
        obtain ⟨z, hz⟩ : ∃ z, ((u : Int) + (v : Int) == 0) = z := ⟨_, rfl⟩
        have HZ := Aside0.mk (show z = decide (u + v = 0) by
          rw [← hz, Bool.eq_iff_iff, beq_iff_eq, decide_eq_true_iff]
          omega)
        go_enter Try.func12, Try.ntmps12
        go_wp2_with (first
          | (go_at_call 22; refine (HS.out _).mono ?_; rintro x w1 ⟨rfl, hb1⟩; have HBel1 := Aside0.mk (below_then HBel.out HBel.out.size hb1); obtain ⟨k0, k1, k2, k3⟩ := pic_cells (blk_below HB1.out hb1); clear hb1)
          | (go_at_call 23; refine (HC1.out _ (Kd.C_below HR.out HBel1.out)).mono ?_; rintro x w2 ⟨rfl, rfl⟩)
          | (go_at_call 25; refine (HC2.out _ (Kd.C_below HR2.out HBel1.out)).mono ?_; rintro x w3 ⟨rfl, rfl⟩))
        go_ret
        exact ⟨by rw [HV.out, ← HZ.out]; rfl, HBel1.out⟩
      · have d2 : ((ds.length : Int) != W * H) = true := bne_iff_ne.mpr c2
        have HV := Aside0.mk (show goodV W H xs ds = false by rw [HVd.out, decide_eq_false c2, Bool.false_and, Bool.and_false])
        clear c1 c2
        go_enter Try.func12, Try.ntmps12
        go_wp2_with (first
          | (go_at_call 22; refine (HS.out _).mono ?_; rintro x w1 ⟨rfl, hb1⟩; have HBel1 := Aside0.mk (below_then HBel.out HBel.out.size hb1); obtain ⟨k0, k1, k2, k3⟩ := pic_cells (blk_below HB1.out hb1); clear hb1))
        go_ret
        exact ⟨by rw [HV.out]; rfl, HBel1.out⟩
    · have d1 : ((xs.length : Int) != 3 * W * H) = true := bne_iff_ne.mpr c1
      have HV := Aside0.mk (show goodV W H xs ds = false by rw [HVd.out, decide_eq_false c1, Bool.false_and])
      clear c1
      go_enter Try.func12, Try.ntmps12
      go_wp2_with (first
        | (go_at_call 22; refine (HS.out _).mono ?_; rintro x w1 ⟨rfl, hb1⟩; have HBel1 := Aside0.mk (below_then HBel.out HBel.out.size hb1); obtain ⟨k0, k1, k2, k3⟩ := pic_cells (blk_below HB1.out hb1); clear hb1))
      go_ret
      exact ⟨by rw [HV.out]; rfl, HBel1.out⟩
def feq (a b : Nat) : Bool := FloatKind.f64.format.order a b == some .eq
theorem eqf_gen {P : Program} (d : Nat) (t : TypeId) (a b : Nat) (h : P.underlying t = some (.float .f64)) (w : World) : (Op.equalIn (d + 1) t (.float .f64 a) (.float .f64 b)).run P w = .ok (feq a b) w := by
  simp [Op.equalIn, run_underlying h, Op.floatEq, feq]
theorem eqf_run (a b : Nat) (w : World) : (Op.equalIn 9999 26 (.float .f64 a) (.float .f64 b)).run Try.prog w = .ok (feq a b) w := eqf_gen 9998 26 a b Try.underlying26 w
/-- are two findings the same? -/
def peq (l1 : Int) (m1 : Nat) (d1 : Int) (l2 : Int) (m2 : Nat) (d2 : Int) : Bool := decide (l1 = l2) && (feq m1 m2 && decide (d1 = d2))
theorem same_any (l1 : Int) (m1 : Nat) (d1 : Int) (l2 : Int) (m2 : Nat) (d2 : Int) (w : World) :
    Calls Try.prog 13 #[.agg #[.int .i64 l1, .float .f64 m1, .int .i64 d1], .agg #[.int .i64 l2, .float .f64 m2, .int .i64 d2]] w fun e w' => e = .returned (.bool (peq l1 m1 d1 l2 m2 d2)) ∧ Below w.heap.size w w' := by
  have hu := Try.underlying28
  have he := eqf_run m1 m2
  have hB := Below.alloc (Below.refl w.heap.size w) (Nat.le_refl _) (.cells #[.int .i64 l1, .float .f64 m1, .int .i64 d1] 28)
  have hB2 := Below.alloc hB hB.size (.cells #[.int .i64 l2, .float .f64 m2, .int .i64 d2] 28)
  clear hB
  unfold peq
  generalize feq m1 m2 = f at *
  by_cases c1 : l1 = l2
  · subst c1
    cases f with
    | true =>
      by_cases c2 : d1 = d2
      · subst c2
        go_enter Try.func13, Try.ntmps13
        go_wp2
        go_ret
        exact ⟨by simp, hB2⟩
      · have c3 : (d1 == d2) = false := beq_eq_false_iff_ne.mpr c2
        go_enter Try.func13, Try.ntmps13
        go_wp2
        go_ret
        exact ⟨by simp [c2], hB2⟩
    | false =>
      go_enter Try.func13, Try.ntmps13
      go_wp2
      go_ret
      exact ⟨by simp, hB2⟩
  · have c3 : (l1 == l2) = false := beq_eq_false_iff_ne.mpr c1
    go_enter Try.func13, Try.ntmps13
    go_wp2
    go_ret
    exact ⟨by simp [c1], hB2⟩
end Go.Proofs.Ytaikeldhdbejaaa.Gv
