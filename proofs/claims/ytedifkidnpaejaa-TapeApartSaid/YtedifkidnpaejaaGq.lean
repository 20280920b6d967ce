/- The statement TapeApart, for all its inputs. -/
import Derived.Test.YtedifkidnpaejaaGn
import Derived.Test.YtedifkidnpaejaaGp
namespace Go.Proofs.Ytedifkidnpaejaa.Gv
open Go.RowKit Go.Proofs.Ytedifkidnpaejaa.X Go.Proofs.YtedifkidnpaejaaW.PrintWords Go.Proofs.YtedifkidnpaejaaW.PrintLast Pe Pf

theorem slot_out {w p d x y s k : Int} (h : ¬ (0 ≤ x ∧ 0 ≤ y ∧ 0 ≤ s ∧ 0 ≤ k ∧ x ≤ 8192 ∧ y ≤ 8192 ∧ s ≤ 65536 ∧ k ≤ 516 ∧ 0 ≤ w ∧ w ≤ 8192 ∧ 0 ≤ p ∧ p ≤ 65536 ∧ 0 ≤ d ∧ d ≤ 64)) : slotVal w p d x y s k = -1 := by
  unfold slotVal
  refine if_neg (fun z => h ?_)
  obtain ⟨z0, z1, z2, z3, z4, z5, z6⟩ := z
  have g1 := inB_true z1
  have g2 := inB_true z2
  have g3 := inB_true z3
  have g4 := inB_true z4
  have g5 := inB_true z5
  have g6 := inB_true z6
  have g0 : 0 ≤ d ∧ d ≤ 64 := Decidable.byContradiction fun e => z0 ((slotsOf_zero d).2 e)
  omega
theorem slot_in {w p d x y s k : Int} (hx : 0 ≤ x ∧ x ≤ 8192) (hy : 0 ≤ y ∧ y ≤ 8192) (hs : 0 ≤ s ∧ s ≤ 65536) (hk : 0 ≤ k ∧ k ≤ 516) (hw : 0 ≤ w ∧ w ≤ 8192) (hp : 0 ≤ p ∧ p ≤ 65536) (hd : 0 ≤ d ∧ d ≤ 64) : slotVal w p d x y s k = ((y * w + x) * p + s) * slotsOf d + k := by
  unfold slotVal
  exact if_pos ⟨fun e => (slotsOf_zero d).1 e hd, decide_eq_true hw, decide_eq_true hx, decide_eq_true hy, decide_eq_true hp, decide_eq_true hs, decide_eq_true hk⟩
theorem rad {a A b B : Int} (h1 : a < A) (h0 : 0 ≤ B) (h2 : b < B) : a * B + b < A * B := by
  have h : (a + 1) * B ≤ A * B := Int.mul_le_mul_of_nonneg_right (by omega) h0
  rw [Int.add_mul, Int.one_mul] at h
  omega
theorem rad_inj {a b c d B : Int} (hb : 0 ≤ b) (hb2 : b < B) (hd : 0 ≤ d) (hd2 : d < B) (h : a * B + b = c * B + d) : a = c ∧ b = d := by
  have hB : 0 < B := by omega
  have e1 : (a * B + b) / B = a := by rw [Int.add_comm, Int.add_mul_ediv_right _ _ (by omega), Int.ediv_eq_zero_of_lt hb hb2, Int.zero_add]
  have e2 : (c * B + d) / B = c := by rw [Int.add_comm, Int.add_mul_ediv_right _ _ (by omega), Int.ediv_eq_zero_of_lt hd hd2, Int.zero_add]
  have e3 : a = c := by rw [← e1, ← e2, h]
  subst e3
  exact ⟨rfl, by omega⟩
theorem needVal_h {w h s d n e : Int} (hv : needVal w h s d = (n, e)) (he : (e != 0) = false) : h ≤ 8192 := by
  unfold needVal at hv
  have he' : e = 0 := by simpa using he
  subst he'
  split at hv
  · rename_i c
    have := inB_true c.2.1
    omega
  · have := (Prod.mk.inj hv).2; omega
theorem needVal_ok {w h s d n e : Int} (hv : needVal w h s d = (n, e)) (he : (e != 0) = false) : n = w * h * s * slotsOf d := by
  unfold needVal at hv
  have he' : e = 0 := by simpa using he
  subst he'
  split at hv
  · split at hv
    · exact (Prod.mk.inj hv).1.symm
    · have := (Prod.mk.inj hv).2; omega
  · have := (Prod.mk.inj hv).2; omega

theorem apart_any (W H P D X Y S K X2 Y2 S2 K2 : Int) (w : World) :
    Calls Try.prog 6 #[.agg #[.int .i64 W, .int .i64 H, .int .i64 P, .int .i64 D, .int .i64 X, .int .i64 Y, .int .i64 S, .int .i64 K, .int .i64 X2, .int .i64 Y2, .int .i64 S2, .int .i64 K2]] w fun z w' => z = .returned (.bool true) ∧ Below w.heap.size w w' := by
  obtain ⟨n, e, hN⟩ : ∃ n e, needVal W H P D = (n, e) := ⟨_, _, rfl⟩
  by_cases c0 : X < 0
  · exact apart_a0 W H P D X Y S K X2 Y2 S2 K2 n e w hN (slot_out (by omega))  c0
  by_cases c1 : Y < 0
  · exact apart_a1 W H P D X Y S K X2 Y2 S2 K2 n e w hN (slot_out (by omega)) (by omega) c1
  by_cases c2 : S < 0
  · exact apart_a2 W H P D X Y S K X2 Y2 S2 K2 n e w hN (slot_out (by omega)) (by omega) (by omega) c2
  by_cases c3 : K < 0
  · exact apart_a3 W H P D X Y S K X2 Y2 S2 K2 n e w hN (slot_out (by omega)) (by omega) (by omega) (by omega) c3
  by_cases c4 : 8192 < X
  · exact apart_a4 W H P D X Y S K X2 Y2 S2 K2 n e w hN (slot_out (by omega)) (by omega) (by omega) (by omega) (by omega) c4
  by_cases c5 : 8192 < Y
  · exact apart_a5 W H P D X Y S K X2 Y2 S2 K2 n e w hN (slot_out (by omega)) (by omega) (by omega) (by omega) (by omega) (by omega) c5
  by_cases c6 : 65536 < S
  · exact apart_a6 W H P D X Y S K X2 Y2 S2 K2 n e w hN (slot_out (by omega)) (by omega) (by omega) (by omega) (by omega) (by omega) (by omega) c6
  by_cases c7 : 516 < K
  · exact apart_a7 W H P D X Y S K X2 Y2 S2 K2 n e w hN (slot_out (by omega)) (by omega) (by omega) (by omega) (by omega) (by omega) (by omega) (by omega) c7
  by_cases c8 : W < 0
  · exact apart_a8 W H P D X Y S K X2 Y2 S2 K2 n e w hN (slot_out (by omega)) (by omega) (by omega) (by omega) (by omega) (by omega) (by omega) (by omega) (by omega) c8
  by_cases c9 : 8192 < W
  · exact apart_a9 W H P D X Y S K X2 Y2 S2 K2 n e w hN (slot_out (by omega)) (by omega) (by omega) (by omega) (by omega) (by omega) (by omega) (by omega) (by omega) (by omega) c9
  by_cases c10 : P < 0
  · exact apart_a10 W H P D X Y S K X2 Y2 S2 K2 n e w hN (slot_out (by omega)) (by omega) (by omega) (by omega) (by omega) (by omega) (by omega) (by omega) (by omega) (by omega) (by omega) c10
  by_cases c11 : 65536 < P
  · exact apart_a11 W H P D X Y S K X2 Y2 S2 K2 n e w hN (slot_out (by omega)) (by omega) (by omega) (by omega) (by omega) (by omega) (by omega) (by omega) (by omega) (by omega) (by omega) (by omega) c11
  by_cases c12 : D < 0
  · exact apart_a12 W H P D X Y S K X2 Y2 S2 K2 n e w hN (slot_out (by omega)) (by omega) (by omega) (by omega) (by omega) (by omega) (by omega) (by omega) (by omega) (by omega) (by omega) (by omega) (by omega) c12
  by_cases c13 : 64 < D
  · exact apart_a13 W H P D X Y S K X2 Y2 S2 K2 n e w hN (slot_out (by omega)) (by omega) (by omega) (by omega) (by omega) (by omega) (by omega) (by omega) (by omega) (by omega) (by omega) (by omega) (by omega) (by omega) c13
  have hS := slot_in (w := W) (p := P) (d := D) (x := X) (y := Y) (s := S) (k := K) (by omega) (by omega) (by omega) (by omega) (by omega) (by omega) (by omega)
  have p1 := prod_le (a := Y) (A := 8192) (b := W) (B := 8192) (by omega) (by omega) (by omega) (by omega)
  have p2 := prod_le (a := Y * W + X) (A := 67117056) (b := P) (B := 65536) (by omega) (by omega) (by omega) (by omega)
  have p3 := prod_le (a := (Y * W + X) * P + S) (A := 4398583447552) (by omega) (by omega) (slotsOf_le D).1 (slotsOf_le D).2
  cases hE : (e != 0) with
  | true => exact apart_b0 W H P D X Y S K X2 Y2 S2 K2 n e w hN hS (by omega) (by omega) (by omega) (by omega) (by omega) (by omega) (by omega) (by omega) (by omega) (by omega) (by omega) (by omega) (by omega) (by omega) p1.1 (by omega) p2.1 (by omega) p3.1 (by omega) hE
  | false =>
    by_cases g0 : X < W
    case neg => exact apart_b1 W H P D X Y S K X2 Y2 S2 K2 n e w hN hS (by omega) (by omega) (by omega) (by omega) (by omega) (by omega) (by omega) (by omega) (by omega) (by omega) (by omega) (by omega) (by omega) (by omega) p1.1 (by omega) p2.1 (by omega) p3.1 (by omega) hE  (by omega)
    by_cases g1 : Y < H
    case neg => exact apart_b2 W H P D X Y S K X2 Y2 S2 K2 n e w hN hS (by omega) (by omega) (by omega) (by omega) (by omega) (by omega) (by omega) (by omega) (by omega) (by omega) (by omega) (by omega) (by omega) (by omega) p1.1 (by omega) p2.1 (by omega) p3.1 (by omega) hE g0 (by omega)
    by_cases g2 : S < P
    case neg => exact apart_b3 W H P D X Y S K X2 Y2 S2 K2 n e w hN hS (by omega) (by omega) (by omega) (by omega) (by omega) (by omega) (by omega) (by omega) (by omega) (by omega) (by omega) (by omega) (by omega) (by omega) p1.1 (by omega) p2.1 (by omega) p3.1 (by omega) hE g0 g1 (by omega)
    by_cases g3 : K < slotsOf D
    case neg => exact apart_b4 W H P D X Y S K X2 Y2 S2 K2 n e w hN hS (by omega) (by omega) (by omega) (by omega) (by omega) (by omega) (by omega) (by omega) (by omega) (by omega) (by omega) (by omega) (by omega) (by omega) p1.1 (by omega) p2.1 (by omega) p3.1 (by omega) hE g0 g1 g2 (by omega)
    have hn := needVal_ok hN hE
    have l1 := rad (a := Y) (A := H) (b := X) (B := W) g1 (by omega) g0
    have l2 := rad (a := Y * W + X) (A := H * W) (b := S) (B := P) l1 (by omega) g2
    have l3 := rad (a := (Y * W + X) * P + S) (A := H * W * P) (b := K) (B := slotsOf D) l2 (slotsOf_le D).1 g3
    have hlt : ((Y * W + X) * P + S) * slotsOf D + K < n := by rw [hn, Int.mul_comm W H]; exact l3
    by_cases f0 : X2 < 0
    · exact apart_c0 W H P D X Y S K X2 Y2 S2 K2 n e w hN hS (by omega) (by omega) (by omega) (by omega) (by omega) (by omega) (by omega) (by omega) (by omega) (by omega) (by omega) (by omega) (by omega) (by omega) p1.1 (by omega) p2.1 (by omega) p3.1 (by omega) hE g0 g1 g2 g3  f0 hlt
    by_cases f1 : W ≤ X2
    · exact apart_c1 W H P D X Y S K X2 Y2 S2 K2 n e w hN hS (by omega) (by omega) (by omega) (by omega) (by omega) (by omega) (by omega) (by omega) (by omega) (by omega) (by omega) (by omega) (by omega) (by omega) p1.1 (by omega) p2.1 (by omega) p3.1 (by omega) hE g0 g1 g2 g3 (by omega) f1 hlt
    by_cases f2 : Y2 < 0
    · exact apart_c2 W H P D X Y S K X2 Y2 S2 K2 n e w hN hS (by omega) (by omega) (by omega) (by omega) (by omega) (by omega) (by omega) (by omega) (by omega) (by omega) (by omega) (by omega) (by omega) (by omega) p1.1 (by omega) p2.1 (by omega) p3.1 (by omega) hE g0 g1 g2 g3 (by omega) (by omega) f2 hlt
    by_cases f3 : H ≤ Y2
    · exact apart_c3 W H P D X Y S K X2 Y2 S2 K2 n e w hN hS (by omega) (by omega) (by omega) (by omega) (by omega) (by omega) (by omega) (by omega) (by omega) (by omega) (by omega) (by omega) (by omega) (by omega) p1.1 (by omega) p2.1 (by omega) p3.1 (by omega) hE g0 g1 g2 g3 (by omega) (by omega) (by omega) f3 hlt
    by_cases f4 : S2 < 0
    · exact apart_c4 W H P D X Y S K X2 Y2 S2 K2 n e w hN hS (by omega) (by omega) (by omega) (by omega) (by omega) (by omega) (by omega) (by omega) (by omega) (by omega) (by omega) (by omega) (by omega) (by omega) p1.1 (by omega) p2.1 (by omega) p3.1 (by omega) hE g0 g1 g2 g3 (by omega) (by omega) (by omega) (by omega) f4 hlt
    by_cases f5 : P ≤ S2
    · exact apart_c5 W H P D X Y S K X2 Y2 S2 K2 n e w hN hS (by omega) (by omega) (by omega) (by omega) (by omega) (by omega) (by omega) (by omega) (by omega) (by omega) (by omega) (by omega) (by omega) (by omega) p1.1 (by omega) p2.1 (by omega) p3.1 (by omega) hE g0 g1 g2 g3 (by omega) (by omega) (by omega) (by omega) (by omega) f5 hlt
    by_cases f6 : K2 < 0
    · exact apart_c6 W H P D X Y S K X2 Y2 S2 K2 n e w hN hS (by omega) (by omega) (by omega) (by omega) (by omega) (by omega) (by omega) (by omega) (by omega) (by omega) (by omega) (by omega) (by omega) (by omega) p1.1 (by omega) p2.1 (by omega) p3.1 (by omega) hE g0 g1 g2 g3 (by omega) (by omega) (by omega) (by omega) (by omega) (by omega) f6 hlt
    by_cases f7 : slotsOf D ≤ K2
    · exact apart_c7 W H P D X Y S K X2 Y2 S2 K2 n e w hN hS (by omega) (by omega) (by omega) (by omega) (by omega) (by omega) (by omega) (by omega) (by omega) (by omega) (by omega) (by omega) (by omega) (by omega) p1.1 (by omega) p2.1 (by omega) p3.1 (by omega) hE g0 g1 g2 g3 (by omega) (by omega) (by omega) (by omega) (by omega) (by omega) (by omega) f7 hlt
    have q1 := needVal_h hN hE
    have hne : ∀ {a b : Int}, a ≠ b → (a == b) = false := fun h => beq_eq_false_iff_ne.mpr h
    obtain ⟨b, hS2, hinj, hbb⟩ : ∃ b, slotVal W P D X2 Y2 S2 K2 = b ∧ (((Y * W + X) * P + S) * slotsOf D + K = b → X = X2 ∧ Y = Y2 ∧ S = S2 ∧ K = K2) ∧ (K = K2 → b = ((Y2 * W + X2) * P + S2) * slotsOf D + K2) := by
      by_cases k2 : K2 ≤ 516
      · refine ⟨_, slot_in (w := W) (p := P) (d := D) (x := X2) (y := Y2) (s := S2) (k := K2) (by omega) (by omega) (by omega) (by omega) (by omega) (by omega) (by omega), fun h => ?_, fun _ => rfl⟩
        have i1 := rad_inj (by omega) g3 (by omega) (by omega) h
        have i2 := rad_inj (by omega) g2 (by omega) (by omega) i1.1
        have i3 := rad_inj (by omega) g0 (by omega) (by omega) i2.1
        exact ⟨i3.2, i3.1, i2.2, i1.2⟩
      · exact ⟨_, slot_out (by omega), fun h => by have := p3.1; omega, fun h => by omega⟩
    by_cases e0 : X = X2
    case neg => exact apart_d0 W H P D X Y S K X2 Y2 S2 K2 n e w hN hS (by omega) (by omega) (by omega) (by omega) (by omega) (by omega) (by omega) (by omega) (by omega) (by omega) (by omega) (by omega) (by omega) (by omega) p1.1 (by omega) p2.1 (by omega) p3.1 (by omega) hE g0 g1 g2 g3 (by omega) (by omega) (by omega) (by omega) (by omega) (by omega) (by omega) (by omega) hlt _ hS2  (hne e0) (hne (fun h => by have z := hinj h; exact e0 z.1))
    by_cases e1 : Y = Y2
    case neg => exact apart_d1 W H P D X Y S K X2 Y2 S2 K2 n e w hN hS (by omega) (by omega) (by omega) (by omega) (by omega) (by omega) (by omega) (by omega) (by omega) (by omega) (by omega) (by omega) (by omega) (by omega) p1.1 (by omega) p2.1 (by omega) p3.1 (by omega) hE g0 g1 g2 g3 (by omega) (by omega) (by omega) (by omega) (by omega) (by omega) (by omega) (by omega) hlt _ hS2 (beq_iff_eq.mpr e0) (hne e1) (hne (fun h => by have z := hinj h; exact e1 z.2.1))
    by_cases e2 : S = S2
    case neg => exact apart_d2 W H P D X Y S K X2 Y2 S2 K2 n e w hN hS (by omega) (by omega) (by omega) (by omega) (by omega) (by omega) (by omega) (by omega) (by omega) (by omega) (by omega) (by omega) (by omega) (by omega) p1.1 (by omega) p2.1 (by omega) p3.1 (by omega) hE g0 g1 g2 g3 (by omega) (by omega) (by omega) (by omega) (by omega) (by omega) (by omega) (by omega) hlt _ hS2 (beq_iff_eq.mpr e0) (beq_iff_eq.mpr e1) (hne e2) (hne (fun h => by have z := hinj h; exact e2 z.2.2.1))
    by_cases e3 : K = K2
    case neg => exact apart_d3 W H P D X Y S K X2 Y2 S2 K2 n e w hN hS (by omega) (by omega) (by omega) (by omega) (by omega) (by omega) (by omega) (by omega) (by omega) (by omega) (by omega) (by omega) (by omega) (by omega) p1.1 (by omega) p2.1 (by omega) p3.1 (by omega) hE g0 g1 g2 g3 (by omega) (by omega) (by omega) (by omega) (by omega) (by omega) (by omega) (by omega) hlt _ hS2 (beq_iff_eq.mpr e0) (beq_iff_eq.mpr e1) (beq_iff_eq.mpr e2) (hne e3) (hne (fun h => by have z := hinj h; exact e3 z.2.2.2))
    exact apart_d4 W H P D X Y S K X2 Y2 S2 K2 n e w hN hS (by omega) (by omega) (by omega) (by omega) (by omega) (by omega) (by omega) (by omega) (by omega) (by omega) (by omega) (by omega) (by omega) (by omega) p1.1 (by omega) p2.1 (by omega) p3.1 (by omega) hE g0 g1 g2 g3 (by omega) (by omega) (by omega) (by omega) (by omega) (by omega) (by omega) (by omega) hlt _ hS2 (beq_iff_eq.mpr e0) (beq_iff_eq.mpr e1) (beq_iff_eq.mpr e2) (beq_iff_eq.mpr e3) (beq_iff_eq.mpr (by rw [hbb e3, e0, e1, e2, e3]))

end Go.Proofs.Ytedifkidnpaejaa.Gv
