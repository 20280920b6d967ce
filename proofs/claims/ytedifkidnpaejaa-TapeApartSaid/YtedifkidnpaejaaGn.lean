/- The statement TapeApart, walked case by case (apart_c1 to apart_c6). -/
import Derived.Test.YtedifkidnpaejaaGm
namespace Go.Proofs.Ytedifkidnpaejaa.Gv
open Go.RowKit Go.Proofs.Ytedifkidnpaejaa.X Go.Proofs.YtedifkidnpaejaaW.PrintWords Go.Proofs.YtedifkidnpaejaaW.PrintLast Pe Pf

set_option maxHeartbeats 4000000 in
set_option maxRecDepth 100000 in
theorem apart_c1 (W H P D X Y S K X2 Y2 S2 K2 n e : Int) (w : World) (hN : needVal W H P D = (n, e)) (hS : slotVal W P D X Y S K = ((Y * W + X) * P + S) * slotsOf D + K) (c0 : 0 ≤ X) (c1 : 0 ≤ Y) (c2 : 0 ≤ S) (c3 : 0 ≤ K) (c4 : X ≤ 8192) (c5 : Y ≤ 8192) (c6 : S ≤ 65536) (c7 : K ≤ 516) (c8 : 0 ≤ W) (c9 : W ≤ 8192) (c10 : 0 ≤ P) (c11 : P ≤ 65536) (c12 : 0 ≤ D) (c13 : D ≤ 64) (x1 : 0 ≤ Y * W) (x2 : Y * W ≤ 67108864) (x3 : 0 ≤ (Y * W + X) * P) (x4 : (Y * W + X) * P ≤ 4398583382016) (x5 : 0 ≤ ((Y * W + X) * P + S) * slotsOf D) (x6 : ((Y * W + X) * P + S) * slotsOf D ≤ 2304892033037248) (hE : (e != 0) = false) (g0 : X < W) (g1 : Y < H) (g2 : S < P) (g3 : K < slotsOf D) (f0 : 0 ≤ X2) (f1 : W ≤ X2) (hlt : ((Y * W + X) * P + S) * slotsOf D + K < n) :
    Calls Try.prog 6 #[.agg #[.int .i64 W, .int .i64 H, .int .i64 P, .int .i64 D, .int .i64 X, .int .i64 Y, .int .i64 S, .int .i64 K, .int .i64 X2, .int .i64 Y2, .int .i64 S2, .int .i64 K2]] w fun z w' => z = .returned (.bool true) ∧ Below w.heap.size w w' := by
  have HN := Aside0.mk hN
  have HS := Aside0.mk hS
  clear hN hS
  go_enter Try.func6, Try.ntmps6
  go_wp2_with (first
    | (go_at_call 17; (with_reducible refine (rneed_any W H P D n e _ HN.out).mono ?_); rintro z w1 ⟨rfl, hB1⟩; have HM1 := Aside0.mk (blk_below (blk_new _ _) hB1); obtain ⟨k0, k1, k2, k3, k4, k5, k6, k7, k8, k9, k10, k11⟩ := cells12 HM1.out)
    | (go_at_call 20; (with_reducible refine (slot_any W P D X Y S K (((Y * W + X) * P + S) * slotsOf D + K) w1 HS.out).mono ?_); rintro z w2 ⟨rfl, hB2⟩; have HM2 := Aside0.mk (blk_below HM1.out hB2); clear k0 k1 k2 k3 k4 k5 k6 k7 k8 k9 k10 k11; obtain ⟨k0, k1, k2, k3, k4, k5, k6, k7, k8, k9, k10, k11⟩ := cells12 HM2.out))
  go_quiet ((go_at_call 19; exact Calls.quiet_of_same (rslots_q _ _)))
  go_wp2
  go_quiet ((go_at_call 19; first | exact Calls.quiet_of_same (rslots_q _ _) | exact quiet_add_same (rslots_q _ _)))
  go_wp2
  go_quiet ((go_at_call 19; first | exact Calls.quiet_of_same (rslots_q _ _) | exact quiet_add_same (rslots_q _ _)))
  go_wp2_with (first
    | (go_at_call 11; refine (awake06 _).mono ?_; rintro z w9 ⟨rfl, hB9⟩))
  go_ret
  exact ⟨rfl, below_thru (below_thru (below_thru (by go_grown) hB1) hB2) (by first | exact hB9 | exact hB9.drewN_left | exact below_quiet hB9)⟩

set_option maxHeartbeats 4000000 in
set_option maxRecDepth 100000 in
theorem apart_c2 (W H P D X Y S K X2 Y2 S2 K2 n e : Int) (w : World) (hN : needVal W H P D = (n, e)) (hS : slotVal W P D X Y S K = ((Y * W + X) * P + S) * slotsOf D + K) (c0 : 0 ≤ X) (c1 : 0 ≤ Y) (c2 : 0 ≤ S) (c3 : 0 ≤ K) (c4 : X ≤ 8192) (c5 : Y ≤ 8192) (c6 : S ≤ 65536) (c7 : K ≤ 516) (c8 : 0 ≤ W) (c9 : W ≤ 8192) (c10 : 0 ≤ P) (c11 : P ≤ 65536) (c12 : 0 ≤ D) (c13 : D ≤ 64) (x1 : 0 ≤ Y * W) (x2 : Y * W ≤ 67108864) (x3 : 0 ≤ (Y * W + X) * P) (x4 : (Y * W + X) * P ≤ 4398583382016) (x5 : 0 ≤ ((Y * W + X) * P + S) * slotsOf D) (x6 : ((Y * W + X) * P + S) * slotsOf D ≤ 2304892033037248) (hE : (e != 0) = false) (g0 : X < W) (g1 : Y < H) (g2 : S < P) (g3 : K < slotsOf D) (f0 : 0 ≤ X2) (f1 : X2 < W) (f2 : Y2 < 0) (hlt : ((Y * W + X) * P + S) * slotsOf D + K < n) :
    Calls Try.prog 6 #[.agg #[.int .i64 W, .int .i64 H, .int .i64 P, .int .i64 D, .int .i64 X, .int .i64 Y, .int .i64 S, .int .i64 K, .int .i64 X2, .int .i64 Y2, .int .i64 S2, .int .i64 K2]] w fun z w' => z = .returned (.bool true) ∧ Below w.heap.size w w' := by
  have HN := Aside0.mk hN
  have HS := Aside0.mk hS
  clear hN hS
  go_enter Try.func6, Try.ntmps6
  go_wp2_with (first
    | (go_at_call 17; (with_reducible refine (rneed_any W H P D n e _ HN.out).mono ?_); rintro z w1 ⟨rfl, hB1⟩; have HM1 := Aside0.mk (blk_below (blk_new _ _) hB1); obtain ⟨k0, k1, k2, k3, k4, k5, k6, k7, k8, k9, k10, k11⟩ := cells12 HM1.out)
    | (go_at_call 20; (with_reducible refine (slot_any W P D X Y S K (((Y * W + X) * P + S) * slotsOf D + K) w1 HS.out).mono ?_); rintro z w2 ⟨rfl, hB2⟩; have HM2 := Aside0.mk (blk_below HM1.out hB2); clear k0 k1 k2 k3 k4 k5 k6 k7 k8 k9 k10 k11; obtain ⟨k0, k1, k2, k3, k4, k5, k6, k7, k8, k9, k10, k11⟩ := cells12 HM2.out))
  go_quiet ((go_at_call 19; exact Calls.quiet_of_same (rslots_q _ _)))
  go_wp2
  go_quiet ((go_at_call 19; first | exact Calls.quiet_of_same (rslots_q _ _) | exact quiet_add_same (rslots_q _ _)))
  go_wp2
  go_quiet ((go_at_call 19; first | exact Calls.quiet_of_same (rslots_q _ _) | exact quiet_add_same (rslots_q _ _)))
  go_wp2_with (first
    | (go_at_call 11; refine (awake06 _).mono ?_; rintro z w9 ⟨rfl, hB9⟩))
  go_ret
  exact ⟨rfl, below_thru (below_thru (below_thru (by go_grown) hB1) hB2) (by first | exact hB9 | exact hB9.drewN_left | exact below_quiet hB9)⟩

set_option maxHeartbeats 4000000 in
set_option maxRecDepth 100000 in
theorem apart_c3 (W H P D X Y S K X2 Y2 S2 K2 n e : Int) (w : World) (hN : needVal W H P D = (n, e)) (hS : slotVal W P D X Y S K = ((Y * W + X) * P + S) * slotsOf D + K) (c0 : 0 ≤ X) (c1 : 0 ≤ Y) (c2 : 0 ≤ S) (c3 : 0 ≤ K) (c4 : X ≤ 8192) (c5 : Y ≤ 8192) (c6 : S ≤ 65536) (c7 : K ≤ 516) (c8 : 0 ≤ W) (c9 : W ≤ 8192) (c10 : 0 ≤ P) (c11 : P ≤ 65536) (c12 : 0 ≤ D) (c13 : D ≤ 64) (x1 : 0 ≤ Y * W) (x2 : Y * W ≤ 67108864) (x3 : 0 ≤ (Y * W + X) * P) (x4 : (Y * W + X) * P ≤ 4398583382016) (x5 : 0 ≤ ((Y * W + X) * P + S) * slotsOf D) (x6 : ((Y * W + X) * P + S) * slotsOf D ≤ 2304892033037248) (hE : (e != 0) = false) (g0 : X < W) (g1 : Y < H) (g2 : S < P) (g3 : K < slotsOf D) (f0 : 0 ≤ X2) (f1 : X2 < W) (f2 : 0 ≤ Y2) (f3 : H ≤ Y2) (hlt : ((Y * W + X) * P + S) * slotsOf D + K < n) :
    Calls Try.prog 6 #[.agg #[.int .i64 W, .int .i64 H, .int .i64 P, .int .i64 D, .int .i64 X, .int .i64 Y, .int .i64 S, .int .i64 K, .int .i64 X2, .int .i64 Y2, .int .i64 S2, .int .i64 K2]] w fun z w' => z = .returned (.bool true) ∧ Below w.heap.size w w' := by
  have HN := Aside0.mk hN
  have HS := Aside0.mk hS
  clear hN hS
  go_enter Try.func6, Try.ntmps6
  go_wp2_with (first
    | (go_at_call 17; (with_reducible refine (rneed_any W H P D n e _ HN.out).mono ?_); rintro z w1 ⟨rfl, hB1⟩; have HM1 := Aside0.mk (blk_below (blk_new _ _) hB1); obtain ⟨k0, k1, k2, k3, k4, k5, k6, k7, k8, k9, k10, k11⟩ := cells12 HM1.out)
    | (go_at_call 20; (with_reducible refine (slot_any W P D X Y S K (((Y * W + X) * P + S) * slotsOf D + K) w1 HS.out).mono ?_); rintro z w2 ⟨rfl, hB2⟩; have HM2 := Aside0.mk (blk_below HM1.out hB2); clear k0 k1 k2 k3 k4 k5 k6 k7 k8 k9 k10 k11; obtain ⟨k0, k1, k2, k3, k4, k5, k6, k7, k8, k9, k10, k11⟩ := cells12 HM2.out))
  go_quiet ((go_at_call 19; exact Calls.quiet_of_same (rslots_q _ _)))
  go_wp2
  go_quiet ((go_at_call 19; first | exact Calls.quiet_of_same (rslots_q _ _) | exact quiet_add_same (rslots_q _ _)))
  go_wp2
  go_quiet ((go_at_call 19; first | exact Calls.quiet_of_same (rslots_q _ _) | exact quiet_add_same (rslots_q _ _)))
  go_wp2_with (first
    | (go_at_call 11; refine (awake06 _).mono ?_; rintro z w9 ⟨rfl, hB9⟩))
  go_ret
  exact ⟨rfl, below_thru (below_thru (below_thru (by go_grown) hB1) hB2) (by first | exact hB9 | exact hB9.drewN_left | exact below_quiet hB9)⟩

set_option maxHeartbeats 4000000 in
set_option maxRecDepth 100000 in
theorem apart_c4 (W H P D X Y S K X2 Y2 S2 K2 n e : Int) (w : World) (hN : needVal W H P D = (n, e)) (hS : slotVal W P D X Y S K = ((Y * W + X) * P + S) * slotsOf D + K) (c0 : 0 ≤ X) (c1 : 0 ≤ Y) (c2 : 0 ≤ S) (c3 : 0 ≤ K) (c4 : X ≤ 8192) (c5 : Y ≤ 8192) (c6 : S ≤ 65536) (c7 : K ≤ 516) (c8 : 0 ≤ W) (c9 : W ≤ 8192) (c10 : 0 ≤ P) (c11 : P ≤ 65536) (c12 : 0 ≤ D) (c13 : D ≤ 64) (x1 : 0 ≤ Y * W) (x2 : Y * W ≤ 67108864) (x3 : 0 ≤ (Y * W + X) * P) (x4 : (Y * W + X) * P ≤ 4398583382016) (x5 : 0 ≤ ((Y * W + X) * P + S) * slotsOf D) (x6 : ((Y * W + X) * P + S) * slotsOf D ≤ 2304892033037248) (hE : (e != 0) = false) (g0 : X < W) (g1 : Y < H) (g2 : S < P) (g3 : K < slotsOf D) (f0 : 0 ≤ X2) (f1 : X2 < W) (f2 : 0 ≤ Y2) (f3 : Y2 < H) (f4 : S2 < 0) (hlt : ((Y * W + X) * P + S) * slotsOf D + K < n) :
    Calls Try.prog 6 #[.agg #[.int .i64 W, .int .i64 H, .int .i64 P, .int .i64 D, .int .i64 X, .int .i64 Y, .int .i64 S, .int .i64 K, .int .i64 X2, .int .i64 Y2, .int .i64 S2, .int .i64 K2]] w fun z w' => z = .returned (.bool true) ∧ Below w.heap.size w w' := by
  have HN := Aside0.mk hN
  have HS := Aside0.mk hS
  clear hN hS
  go_enter Try.func6, Try.ntmps6
  go_wp2_with (first
    | (go_at_call 17; (with_reducible refine (rneed_any W H P D n e _ HN.out).mono ?_); rintro z w1 ⟨rfl, hB1⟩; have HM1 := Aside0.mk (blk_below (blk_new _ _) hB1); obtain ⟨k0, k1, k2, k3, k4, k5, k6, k7, k8, k9, k10, k11⟩ := cells12 HM1.out)
    | (go_at_call 20; (with_reducible refine (slot_any W P D X Y S K (((Y * W + X) * P + S) * slotsOf D + K) w1 HS.out).mono ?_); rintro z w2 ⟨rfl, hB2⟩; have HM2 := Aside0.mk (blk_below HM1.out hB2); clear k0 k1 k2 k3 k4 k5 k6 k7 k8 k9 k10 k11; obtain ⟨k0, k1, k2, k3, k4, k5, k6, k7, k8, k9, k10, k11⟩ := cells12 HM2.out))
  go_quiet ((go_at_call 19; exact Calls.quiet_of_same (rslots_q _ _)))
  go_wp2
  go_quiet ((go_at_call 19; first | exact Calls.quiet_of_same (rslots_q _ _) | exact quiet_add_same (rslots_q _ _)))
  go_wp2
  go_quiet ((go_at_call 19; first | exact Calls.quiet_of_same (rslots_q _ _) | exact quiet_add_same (rslots_q _ _)))
  go_wp2_with (first
    | (go_at_call 11; refine (awake06 _).mono ?_; rintro z w9 ⟨rfl, hB9⟩))
  go_ret
  exact ⟨rfl, below_thru (below_thru (below_thru (by go_grown) hB1) hB2) (by first | exact hB9 | exact hB9.drewN_left | exact below_quiet hB9)⟩

set_option maxHeartbeats 4000000 in
set_option maxRecDepth 100000 in
theorem apart_c5 (W H P D X Y S K X2 Y2 S2 K2 n e : Int) (w : World) (hN : needVal W H P D = (n, e)) (hS : slotVal W P D X Y S K = ((Y * W + X) * P + S) * slotsOf D + K) (c0 : 0 ≤ X) (c1 : 0 ≤ Y) (c2 : 0 ≤ S) (c3 : 0 ≤ K) (c4 : X ≤ 8192) (c5 : Y ≤ 8192) (c6 : S ≤ 65536) (c7 : K ≤ 516) (c8 : 0 ≤ W) (c9 : W ≤ 8192) (c10 : 0 ≤ P) (c11 : P ≤ 65536) (c12 : 0 ≤ D) (c13 : D ≤ 64) (x1 : 0 ≤ Y * W) (x2 : Y * W ≤ 67108864) (x3 : 0 ≤ (Y * W + X) * P) (x4 : (Y * W + X) * P ≤ 4398583382016) (x5 : 0 ≤ ((Y * W + X) * P + S) * slotsOf D) (x6 : ((Y * W + X) * P + S) * slotsOf D ≤ 2304892033037248) (hE : (e != 0) = false) (g0 : X < W) (g1 : Y < H) (g2 : S < P) (g3 : K < slotsOf D) (f0 : 0 ≤ X2) (f1 : X2 < W) (f2 : 0 ≤ Y2) (f3 : Y2 < H) (f4 : 0 ≤ S2) (f5 : P ≤ S2) (hlt : ((Y * W + X) * P + S) * slotsOf D + K < n) :
    Calls Try.prog 6 #[.agg #[.int .i64 W, .int .i64 H, .int .i64 P, .int .i64 D, .int .i64 X, .int .i64 Y, .int .i64 S, .int .i64 K, .int .i64 X2, .int .i64 Y2, .int .i64 S2, .int .i64 K2]] w fun z w' => z = .returned (.bool true) ∧ Below w.heap.size w w' := by
  have HN := Aside0.mk hN
  have HS := Aside0.mk hS
  clear hN hS
  go_enter Try.func6, Try.ntmps6
  go_wp2_with (first
    | (go_at_call 17; (with_reducible refine (rneed_any W H P D n e _ HN.out).mono ?_); rintro z w1 ⟨rfl, hB1⟩; have HM1 := Aside0.mk (blk_below (blk_new _ _) hB1); obtain ⟨k0, k1, k2, k3, k4, k5, k6, k7, k8, k9, k10, k11⟩ := cells12 HM1.out)
    | (go_at_call 20; (with_reducible refine (slot_any W P D X Y S K (((Y * W + X) * P + S) * slotsOf D + K) w1 HS.out).mono ?_); rintro z w2 ⟨rfl, hB2⟩; have HM2 := Aside0.mk (blk_below HM1.out hB2); clear k0 k1 k2 k3 k4 k5 k6 k7 k8 k9 k10 k11; obtain ⟨k0, k1, k2, k3, k4, k5, k6, k7, k8, k9, k10, k11⟩ := cells12 HM2.out))
  go_quiet ((go_at_call 19; exact Calls.quiet_of_same (rslots_q _ _)))
  go_wp2
  go_quiet ((go_at_call 19; first | exact Calls.quiet_of_same (rslots_q _ _) | exact quiet_add_same (rslots_q _ _)))
  go_wp2
  go_quiet ((go_at_call 19; first | exact Calls.quiet_of_same (rslots_q _ _) | exact quiet_add_same (rslots_q _ _)))
  go_wp2_with (first
    | (go_at_call 11; refine (awake06 _).mono ?_; rintro z w9 ⟨rfl, hB9⟩))
  go_ret
  exact ⟨rfl, below_thru (below_thru (below_thru (by go_grown) hB1) hB2) (by first | exact hB9 | exact hB9.drewN_left | exact below_quiet hB9)⟩

set_option maxHeartbeats 4000000 in
set_option maxRecDepth 100000 in
theorem apart_c6 (W H P D X Y S K X2 Y2 S2 K2 n e : Int) (w : World) (hN : needVal W H P D = (n, e)) (hS : slotVal W P D X Y S K = ((Y * W + X) * P + S) * slotsOf D + K) (c0 : 0 ≤ X) (c1 : 0 ≤ Y) (c2 : 0 ≤ S) (c3 : 0 ≤ K) (c4 : X ≤ 8192) (c5 : Y ≤ 8192) (c6 : S ≤ 65536) (c7 : K ≤ 516) (c8 : 0 ≤ W) (c9 : W ≤ 8192) (c10 : 0 ≤ P) (c11 : P ≤ 65536) (c12 : 0 ≤ D) (c13 : D ≤ 64) (x1 : 0 ≤ Y * W) (x2 : Y * W ≤ 67108864) (x3 : 0 ≤ (Y * W + X) * P) (x4 : (Y * W + X) * P ≤ 4398583382016) (x5 : 0 ≤ ((Y * W + X) * P + S) * slotsOf D) (x6 : ((Y * W + X) * P + S) * slotsOf D ≤ 2304892033037248) (hE : (e != 0) = false) (g0 : X < W) (g1 : Y < H) (g2 : S < P) (g3 : K < slotsOf D) (f0 : 0 ≤ X2) (f1 : X2 < W) (f2 : 0 ≤ Y2) (f3 : Y2 < H) (f4 : 0 ≤ S2) (f5 : S2 < P) (f6 : K2 < 0) (hlt : ((Y * W + X) * P + S) * slotsOf D + K < n) :
    Calls Try.prog 6 #[.agg #[.int .i64 W, .int .i64 H, .int .i64 P, .int .i64 D, .int .i64 X, .int .i64 Y, .int .i64 S, .int .i64 K, .int .i64 X2, .int .i64 Y2, .int .i64 S2, .int .i64 K2]] w fun z w' => z = .returned (.bool true) ∧ Below w.heap.size w w' := by
  have HN := Aside0.mk hN
  have HS := Aside0.mk hS
  clear hN hS
  go_enter Try.func6, Try.ntmps6
  go_wp2_with (first
    | (go_at_call 17; (with_reducible refine (rneed_any W H P D n e _ HN.out).mono ?_); rintro z w1 ⟨rfl, hB1⟩; have HM1 := Aside0.mk (blk_below (blk_new _ _) hB1); obtain ⟨k0, k1, k2, k3, k4, k5, k6, k7, k8, k9, k10, k11⟩ := cells12 HM1.out)
    | (go_at_call 20; (with_reducible refine (slot_any W P D X Y S K (((Y * W + X) * P + S) * slotsOf D + K) w1 HS.out).mono ?_); rintro z w2 ⟨rfl, hB2⟩; have HM2 := Aside0.mk (blk_below HM1.out hB2); clear k0 k1 k2 k3 k4 k5 k6 k7 k8 k9 k10 k11; obtain ⟨k0, k1, k2, k3, k4, k5, k6, k7, k8, k9, k10, k11⟩ := cells12 HM2.out))
  go_quiet ((go_at_call 19; exact Calls.quiet_of_same (rslots_q _ _)))
  go_wp2
  go_quiet ((go_at_call 19; first | exact Calls.quiet_of_same (rslots_q _ _) | exact quiet_add_same (rslots_q _ _)))
  go_wp2
  go_quiet ((go_at_call 19; first | exact Calls.quiet_of_same (rslots_q _ _) | exact quiet_add_same (rslots_q _ _)))
  go_wp2_with (first
    | (go_at_call 11; refine (awake06 _).mono ?_; rintro z w9 ⟨rfl, hB9⟩))
  go_ret
  exact ⟨rfl, below_thru (below_thru (below_thru (by go_grown) hB1) hB2) (by first | exact hB9 | exact hB9.drewN_left | exact below_quiet hB9)⟩

end Go.Proofs.Ytedifkidnpaejaa.Gv
