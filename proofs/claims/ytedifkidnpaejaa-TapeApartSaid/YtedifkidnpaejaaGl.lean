/- The statement TapeApart, walked case by case. -/
import Derived.Test.YtedifkidnpaejaaPf
import Derived.Test.YtedifkidnpaejaaGk
import Derived.Deep.QuietTactic
import Derived.BigQuiet
import Derived.Lib.Hide
namespace Go.Proofs.Ytedifkidnpaejaa.Gv
open Go.RowKit Go.Proofs.Ytedifkidnpaejaa.X Go.Proofs.YtedifkidnpaejaaW.PrintWords Go.Proofs.YtedifkidnpaejaaW.PrintLast Pe Pf

theorem rslots_q (d : Int) (w : World) : Calls Try.prog 19 #[.int .i64 d] w fun e w' => e = .returned (.int .i64 (slotsOf d)) ∧ w' = w := by
  by_cases c : d < 0
  · have H := Aside0.mk (show slotsOf d = 0 from if_neg (by omega))
    go_enter Try.func19, Try.ntmps19
    go_wp2
    go_ret
    exact ⟨ret_i H.out.symm, rfl⟩
  · have c0 : 0 ≤ d := by omega
    clear c
    by_cases e : 64 < d
    · have H := Aside0.mk (show slotsOf d = 0 from if_neg (by omega))
      go_enter Try.func19, Try.ntmps19
      go_wp2
      go_ret
      exact ⟨ret_i H.out.symm, rfl⟩
    · have e0 : d ≤ 64 := by omega
      clear e
      have H := Aside0.mk (show slotsOf d = 12 + 8 * d from if_pos ⟨c0, e0⟩)
      go_enter Try.func19, Try.ntmps19
      go_wp2
      go_ret
      exact ⟨ret_i H.out.symm, rfl⟩
theorem rneed_any (w h s d n e : Int) (W : World) (hv : needVal w h s d = (n, e)) : Calls Try.prog 17 #[.int .i64 w, .int .i64 h, .int .i64 s, .int .i64 d] W fun z w' => z = .returned (.tuple #[.int .i64 n, .int .i64 e]) ∧ Below W.heap.size W w' := by
  obtain ⟨k, hk⟩ := Ev.rounds (rneed_ev w h s d)
  rw [hv] at hk
  exact (penumbraref06_Need.calls k w h s d n e W hk).mono fun z w' ⟨hz, hw⟩ => ⟨hz, by obtain ⟨m, rfl⟩ := hw; exact pw_below_drewN (Below.refl _ _) m⟩

theorem cells12 {w : World} {g : Nat} {W H P D X Y S K X2 Y2 S2 K2 : Int} (h : w.heap[g]? = some (.cells #[.int .i64 W, .int .i64 H, .int .i64 P, .int .i64 D, .int .i64 X, .int .i64 Y, .int .i64 S, .int .i64 K, .int .i64 X2, .int .i64 Y2, .int .i64 S2, .int .i64 K2] 43 (0, 0))) :
    w.cell? ⟨g, 0, none⟩ = some (.int .i64 W) ∧ w.cell? ⟨g, 1, none⟩ = some (.int .i64 H) ∧ w.cell? ⟨g, 2, none⟩ = some (.int .i64 P) ∧ w.cell? ⟨g, 3, none⟩ = some (.int .i64 D) ∧ w.cell? ⟨g, 4, none⟩ = some (.int .i64 X) ∧ w.cell? ⟨g, 5, none⟩ = some (.int .i64 Y) ∧ w.cell? ⟨g, 6, none⟩ = some (.int .i64 S) ∧ w.cell? ⟨g, 7, none⟩ = some (.int .i64 K) ∧ w.cell? ⟨g, 8, none⟩ = some (.int .i64 X2) ∧ w.cell? ⟨g, 9, none⟩ = some (.int .i64 Y2) ∧ w.cell? ⟨g, 10, none⟩ = some (.int .i64 S2) ∧ w.cell? ⟨g, 11, none⟩ = some (.int .i64 K2) :=
  ⟨(blk_cell h 0).trans rfl, (blk_cell h 1).trans rfl, (blk_cell h 2).trans rfl, (blk_cell h 3).trans rfl, (blk_cell h 4).trans rfl, (blk_cell h 5).trans rfl, (blk_cell h 6).trans rfl, (blk_cell h 7).trans rfl, (blk_cell h 8).trans rfl, (blk_cell h 9).trans rfl, (blk_cell h 10).trans rfl, (blk_cell h 11).trans rfl⟩

set_option maxHeartbeats 4000000 in
set_option maxRecDepth 100000 in
theorem apart_a0 (W H P D X Y S K X2 Y2 S2 K2 n e : Int) (w : World) (hN : needVal W H P D = (n, e)) (hS : slotVal W P D X Y S K = -1)  (c0 : X < 0) :
    Calls Try.prog 6 #[.agg #[.int .i64 W, .int .i64 H, .int .i64 P, .int .i64 D, .int .i64 X, .int .i64 Y, .int .i64 S, .int .i64 K, .int .i64 X2, .int .i64 Y2, .int .i64 S2, .int .i64 K2]] w fun z w' => z = .returned (.bool true) ∧ Below w.heap.size w w' := by
  have HN := Aside0.mk hN
  have HS := Aside0.mk hS
  clear hN hS
  go_enter Try.func6, Try.ntmps6
  go_wp2_with (first
    | (go_at_call 17; (with_reducible refine (rneed_any W H P D n e _ HN.out).mono ?_); rintro z w1 ⟨rfl, hB1⟩; have HM1 := Aside0.mk (blk_below (blk_new _ _) hB1); obtain ⟨k0, k1, k2, k3, k4, k5, k6, k7, k8, k9, k10, k11⟩ := cells12 HM1.out)
    | (go_at_call 20; (with_reducible refine (slot_any W P D X Y S K (-1) w1 HS.out).mono ?_); rintro z w2 ⟨rfl, hB2⟩; have HM2 := Aside0.mk (blk_below HM1.out hB2); clear k0 k1 k2 k3 k4 k5 k6 k7 k8 k9 k10 k11; obtain ⟨k0, k1, k2, k3, k4, k5, k6, k7, k8, k9, k10, k11⟩ := cells12 HM2.out)
    | (go_at_call 11; refine (awake06 _).mono ?_; rintro z w9 ⟨rfl, hB9⟩))
  go_ret
  exact ⟨rfl, below_thru (below_thru (below_thru (by go_grown) hB1) hB2) (by first | exact hB9 | simpa using hB9)⟩

set_option maxHeartbeats 4000000 in
set_option maxRecDepth 100000 in
theorem apart_a1 (W H P D X Y S K X2 Y2 S2 K2 n e : Int) (w : World) (hN : needVal W H P D = (n, e)) (hS : slotVal W P D X Y S K = -1) (c0 : 0 ≤ X) (c1 : Y < 0) :
    Calls Try.prog 6 #[.agg #[.int .i64 W, .int .i64 H, .int .i64 P, .int .i64 D, .int .i64 X, .int .i64 Y, .int .i64 S, .int .i64 K, .int .i64 X2, .int .i64 Y2, .int .i64 S2, .int .i64 K2]] w fun z w' => z = .returned (.bool true) ∧ Below w.heap.size w w' := by
  have HN := Aside0.mk hN
  have HS := Aside0.mk hS
  clear hN hS
  go_enter Try.func6, Try.ntmps6
  go_wp2_with (first
    | (go_at_call 17; (with_reducible refine (rneed_any W H P D n e _ HN.out).mono ?_); rintro z w1 ⟨rfl, hB1⟩; have HM1 := Aside0.mk (blk_below (blk_new _ _) hB1); obtain ⟨k0, k1, k2, k3, k4, k5, k6, k7, k8, k9, k10, k11⟩ := cells12 HM1.out)
    | (go_at_call 20; (with_reducible refine (slot_any W P D X Y S K (-1) w1 HS.out).mono ?_); rintro z w2 ⟨rfl, hB2⟩; have HM2 := Aside0.mk (blk_below HM1.out hB2); clear k0 k1 k2 k3 k4 k5 k6 k7 k8 k9 k10 k11; obtain ⟨k0, k1, k2, k3, k4, k5, k6, k7, k8, k9, k10, k11⟩ := cells12 HM2.out)
    | (go_at_call 11; refine (awake06 _).mono ?_; rintro z w9 ⟨rfl, hB9⟩))
  go_ret
  exact ⟨rfl, below_thru (below_thru (below_thru (by go_grown) hB1) hB2) (by first | exact hB9 | simpa using hB9)⟩

set_option maxHeartbeats 4000000 in
set_option maxRecDepth 100000 in
theorem apart_a2 (W H P D X Y S K X2 Y2 S2 K2 n e : Int) (w : World) (hN : needVal W H P D = (n, e)) (hS : slotVal W P D X Y S K = -1) (c0 : 0 ≤ X) (c1 : 0 ≤ Y) (c2 : S < 0) :
    Calls Try.prog 6 #[.agg #[.int .i64 W, .int .i64 H, .int .i64 P, .int .i64 D, .int .i64 X, .int .i64 Y, .int .i64 S, .int .i64 K, .int .i64 X2, .int .i64 Y2, .int .i64 S2, .int .i64 K2]] w fun z w' => z = .returned (.bool true) ∧ Below w.heap.size w w' := by
  have HN := Aside0.mk hN
  have HS := Aside0.mk hS
  clear hN hS
  go_enter Try.func6, Try.ntmps6
  go_wp2_with (first
    | (go_at_call 17; (with_reducible refine (rneed_any W H P D n e _ HN.out).mono ?_); rintro z w1 ⟨rfl, hB1⟩; have HM1 := Aside0.mk (blk_below (blk_new _ _) hB1); obtain ⟨k0, k1, k2, k3, k4, k5, k6, k7, k8, k9, k10, k11⟩ := cells12 HM1.out)
    | (go_at_call 20; (with_reducible refine (slot_any W P D X Y S K (-1) w1 HS.out).mono ?_); rintro z w2 ⟨rfl, hB2⟩; have HM2 := Aside0.mk (blk_below HM1.out hB2); clear k0 k1 k2 k3 k4 k5 k6 k7 k8 k9 k10 k11; obtain ⟨k0, k1, k2, k3, k4, k5, k6, k7, k8, k9, k10, k11⟩ := cells12 HM2.out)
    | (go_at_call 11; refine (awake06 _).mono ?_; rintro z w9 ⟨rfl, hB9⟩))
  go_ret
  exact ⟨rfl, below_thru (below_thru (below_thru (by go_grown) hB1) hB2) (by first | exact hB9 | simpa using hB9)⟩

set_option maxHeartbeats 4000000 in
set_option maxRecDepth 100000 in
theorem apart_a3 (W H P D X Y S K X2 Y2 S2 K2 n e : Int) (w : World) (hN : needVal W H P D = (n, e)) (hS : slotVal W P D X Y S K = -1) (c0 : 0 ≤ X) (c1 : 0 ≤ Y) (c2 : 0 ≤ S) (c3 : K < 0) :
    Calls Try.prog 6 #[.agg #[.int .i64 W, .int .i64 H, .int .i64 P, .int .i64 D, .int .i64 X, .int .i64 Y, .int .i64 S, .int .i64 K, .int .i64 X2, .int .i64 Y2, .int .i64 S2, .int .i64 K2]] w fun z w' => z = .returned (.bool true) ∧ Below w.heap.size w w' := by
  have HN := Aside0.mk hN
  have HS := Aside0.mk hS
  clear hN hS
  go_enter Try.func6, Try.ntmps6
  go_wp2_with (first
    | (go_at_call 17; (with_reducible refine (rneed_any W H P D n e _ HN.out).mono ?_); rintro z w1 ⟨rfl, hB1⟩; have HM1 := Aside0.mk (blk_below (blk_new _ _) hB1); obtain ⟨k0, k1, k2, k3, k4, k5, k6, k7, k8, k9, k10, k11⟩ := cells12 HM1.out)
    | (go_at_call 20; (with_reducible refine (slot_any W P D X Y S K (-1) w1 HS.out).mono ?_); rintro z w2 ⟨rfl, hB2⟩; have HM2 := Aside0.mk (blk_below HM1.out hB2); clear k0 k1 k2 k3 k4 k5 k6 k7 k8 k9 k10 k11; obtain ⟨k0, k1, k2, k3, k4, k5, k6, k7, k8, k9, k10, k11⟩ := cells12 HM2.out)
    | (go_at_call 11; refine (awake06 _).mono ?_; rintro z w9 ⟨rfl, hB9⟩))
  go_ret
  exact ⟨rfl, below_thru (below_thru (below_thru (by go_grown) hB1) hB2) (by first | exact hB9 | simpa using hB9)⟩

set_option maxHeartbeats 4000000 in
set_option maxRecDepth 100000 in
theorem apart_a4 (W H P D X Y S K X2 Y2 S2 K2 n e : Int) (w : World) (hN : needVal W H P D = (n, e)) (hS : slotVal W P D X Y S K = -1) (c0 : 0 ≤ X) (c1 : 0 ≤ Y) (c2 : 0 ≤ S) (c3 : 0 ≤ K) (c4 : 8192 < X) :
    Calls Try.prog 6 #[.agg #[.int .i64 W, .int .i64 H, .int .i64 P, .int .i64 D, .int .i64 X, .int .i64 Y, .int .i64 S, .int .i64 K, .int .i64 X2, .int .i64 Y2, .int .i64 S2, .int .i64 K2]] w fun z w' => z = .returned (.bool true) ∧ Below w.heap.size w w' := by
  have HN := Aside0.mk hN
  have HS := Aside0.mk hS
  clear hN hS
  go_enter Try.func6, Try.ntmps6
  go_wp2_with (first
    | (go_at_call 17; (with_reducible refine (rneed_any W H P D n e _ HN.out).mono ?_); rintro z w1 ⟨rfl, hB1⟩; have HM1 := Aside0.mk (blk_below (blk_new _ _) hB1); obtain ⟨k0, k1, k2, k3, k4, k5, k6, k7, k8, k9, k10, k11⟩ := cells12 HM1.out)
    | (go_at_call 20; (with_reducible refine (slot_any W P D X Y S K (-1) w1 HS.out).mono ?_); rintro z w2 ⟨rfl, hB2⟩; have HM2 := Aside0.mk (blk_below HM1.out hB2); clear k0 k1 k2 k3 k4 k5 k6 k7 k8 k9 k10 k11; obtain ⟨k0, k1, k2, k3, k4, k5, k6, k7, k8, k9, k10, k11⟩ := cells12 HM2.out)
    | (go_at_call 11; refine (awake06 _).mono ?_; rintro z w9 ⟨rfl, hB9⟩))
  go_ret
  exact ⟨rfl, below_thru (below_thru (below_thru (by go_grown) hB1) hB2) (by first | exact hB9 | simpa using hB9)⟩

set_option maxHeartbeats 4000000 in
set_option maxRecDepth 100000 in
theorem apart_a5 (W H P D X Y S K X2 Y2 S2 K2 n e : Int) (w : World) (hN : needVal W H P D = (n, e)) (hS : slotVal W P D X Y S K = -1) (c0 : 0 ≤ X) (c1 : 0 ≤ Y) (c2 : 0 ≤ S) (c3 : 0 ≤ K) (c4 : X ≤ 8192) (c5 : 8192 < Y) :
    Calls Try.prog 6 #[.agg #[.int .i64 W, .int .i64 H, .int .i64 P, .int .i64 D, .int .i64 X, .int .i64 Y, .int .i64 S, .int .i64 K, .int .i64 X2, .int .i64 Y2, .int .i64 S2, .int .i64 K2]] w fun z w' => z = .returned (.bool true) ∧ Below w.heap.size w w' := by
  have HN := Aside0.mk hN
  have HS := Aside0.mk hS
  clear hN hS
  go_enter Try.func6, Try.ntmps6
  go_wp2_with (first
    | (go_at_call 17; (with_reducible refine (rneed_any W H P D n e _ HN.out).mono ?_); rintro z w1 ⟨rfl, hB1⟩; have HM1 := Aside0.mk (blk_below (blk_new _ _) hB1); obtain ⟨k0, k1, k2, k3, k4, k5, k6, k7, k8, k9, k10, k11⟩ := cells12 HM1.out)
    | (go_at_call 20; (with_reducible refine (slot_any W P D X Y S K (-1) w1 HS.out).mono ?_); rintro z w2 ⟨rfl, hB2⟩; have HM2 := Aside0.mk (blk_below HM1.out hB2); clear k0 k1 k2 k3 k4 k5 k6 k7 k8 k9 k10 k11; obtain ⟨k0, k1, k2, k3, k4, k5, k6, k7, k8, k9, k10, k11⟩ := cells12 HM2.out)
    | (go_at_call 11; refine (awake06 _).mono ?_; rintro z w9 ⟨rfl, hB9⟩))
  go_ret
  exact ⟨rfl, below_thru (below_thru (below_thru (by go_grown) hB1) hB2) (by first | exact hB9 | simpa using hB9)⟩

set_option maxHeartbeats 4000000 in
set_option maxRecDepth 100000 in
theorem apart_a6 (W H P D X Y S K X2 Y2 S2 K2 n e : Int) (w : World) (hN : needVal W H P D = (n, e)) (hS : slotVal W P D X Y S K = -1) (c0 : 0 ≤ X) (c1 : 0 ≤ Y) (c2 : 0 ≤ S) (c3 : 0 ≤ K) (c4 : X ≤ 8192) (c5 : Y ≤ 8192) (c6 : 65536 < S) :
    Calls Try.prog 6 #[.agg #[.int .i64 W, .int .i64 H, .int .i64 P, .int .i64 D, .int .i64 X, .int .i64 Y, .int .i64 S, .int .i64 K, .int .i64 X2, .int .i64 Y2, .int .i64 S2, .int .i64 K2]] w fun z w' => z = .returned (.bool true) ∧ Below w.heap.size w w' := by
  have HN := Aside0.mk hN
  have HS := Aside0.mk hS
  clear hN hS
  go_enter Try.func6, Try.ntmps6
  go_wp2_with (first
    | (go_at_call 17; (with_reducible refine (rneed_any W H P D n e _ HN.out).mono ?_); rintro z w1 ⟨rfl, hB1⟩; have HM1 := Aside0.mk (blk_below (blk_new _ _) hB1); obtain ⟨k0, k1, k2, k3, k4, k5, k6, k7, k8, k9, k10, k11⟩ := cells12 HM1.out)
    | (go_at_call 20; (with_reducible refine (slot_any W P D X Y S K (-1) w1 HS.out).mono ?_); rintro z w2 ⟨rfl, hB2⟩; have HM2 := Aside0.mk (blk_below HM1.out hB2); clear k0 k1 k2 k3 k4 k5 k6 k7 k8 k9 k10 k11; obtain ⟨k0, k1, k2, k3, k4, k5, k6, k7, k8, k9, k10, k11⟩ := cells12 HM2.out)
    | (go_at_call 11; refine (awake06 _).mono ?_; rintro z w9 ⟨rfl, hB9⟩))
  go_ret
  exact ⟨rfl, below_thru (below_thru (below_thru (by go_grown) hB1) hB2) (by first | exact hB9 | simpa using hB9)⟩

set_option maxHeartbeats 4000000 in
set_option maxRecDepth 100000 in
theorem apart_a7 (W H P D X Y S K X2 Y2 S2 K2 n e : Int) (w : World) (hN : needVal W H P D = (n, e)) (hS : slotVal W P D X Y S K = -1) (c0 : 0 ≤ X) (c1 : 0 ≤ Y) (c2 : 0 ≤ S) (c3 : 0 ≤ K) (c4 : X ≤ 8192) (c5 : Y ≤ 8192) (c6 : S ≤ 65536) (c7 : 516 < K) :
    Calls Try.prog 6 #[.agg #[.int .i64 W, .int .i64 H, .int .i64 P, .int .i64 D, .int .i64 X, .int .i64 Y, .int .i64 S, .int .i64 K, .int .i64 X2, .int .i64 Y2, .int .i64 S2, .int .i64 K2]] w fun z w' => z = .returned (.bool true) ∧ Below w.heap.size w w' := by
  have HN := Aside0.mk hN
  have HS := Aside0.mk hS
  clear hN hS
  go_enter Try.func6, Try.ntmps6
  go_wp2_with (first
    | (go_at_call 17; (with_reducible refine (rneed_any W H P D n e _ HN.out).mono ?_); rintro z w1 ⟨rfl, hB1⟩; have HM1 := Aside0.mk (blk_below (blk_new _ _) hB1); obtain ⟨k0, k1, k2, k3, k4, k5, k6, k7, k8, k9, k10, k11⟩ := cells12 HM1.out)
    | (go_at_call 20; (with_reducible refine (slot_any W P D X Y S K (-1) w1 HS.out).mono ?_); rintro z w2 ⟨rfl, hB2⟩; have HM2 := Aside0.mk (blk_below HM1.out hB2); clear k0 k1 k2 k3 k4 k5 k6 k7 k8 k9 k10 k11; obtain ⟨k0, k1, k2, k3, k4, k5, k6, k7, k8, k9, k10, k11⟩ := cells12 HM2.out)
    | (go_at_call 11; refine (awake06 _).mono ?_; rintro z w9 ⟨rfl, hB9⟩))
  go_ret
  exact ⟨rfl, below_thru (below_thru (below_thru (by go_grown) hB1) hB2) (by first | exact hB9 | simpa using hB9)⟩

set_option maxHeartbeats 4000000 in
set_option maxRecDepth 100000 in
theorem apart_a8 (W H P D X Y S K X2 Y2 S2 K2 n e : Int) (w : World) (hN : needVal W H P D = (n, e)) (hS : slotVal W P D X Y S K = -1) (c0 : 0 ≤ X) (c1 : 0 ≤ Y) (c2 : 0 ≤ S) (c3 : 0 ≤ K) (c4 : X ≤ 8192) (c5 : Y ≤ 8192) (c6 : S ≤ 65536) (c7 : K ≤ 516) (c8 : W < 0) :
    Calls Try.prog 6 #[.agg #[.int .i64 W, .int .i64 H, .int .i64 P, .int .i64 D, .int .i64 X, .int .i64 Y, .int .i64 S, .int .i64 K, .int .i64 X2, .int .i64 Y2, .int .i64 S2, .int .i64 K2]] w fun z w' => z = .returned (.bool true) ∧ Below w.heap.size w w' := by
  have HN := Aside0.mk hN
  have HS := Aside0.mk hS
  clear hN hS
  go_enter Try.func6, Try.ntmps6
  go_wp2_with (first
    | (go_at_call 17; (with_reducible refine (rneed_any W H P D n e _ HN.out).mono ?_); rintro z w1 ⟨rfl, hB1⟩; have HM1 := Aside0.mk (blk_below (blk_new _ _) hB1); obtain ⟨k0, k1, k2, k3, k4, k5, k6, k7, k8, k9, k10, k11⟩ := cells12 HM1.out)
    | (go_at_call 20; (with_reducible refine (slot_any W P D X Y S K (-1) w1 HS.out).mono ?_); rintro z w2 ⟨rfl, hB2⟩; have HM2 := Aside0.mk (blk_below HM1.out hB2); clear k0 k1 k2 k3 k4 k5 k6 k7 k8 k9 k10 k11; obtain ⟨k0, k1, k2, k3, k4, k5, k6, k7, k8, k9, k10, k11⟩ := cells12 HM2.out)
    | (go_at_call 11; refine (awake06 _).mono ?_; rintro z w9 ⟨rfl, hB9⟩))
  go_ret
  exact ⟨rfl, below_thru (below_thru (below_thru (by go_grown) hB1) hB2) (by first | exact hB9 | simpa using hB9)⟩

set_option maxHeartbeats 4000000 in
set_option maxRecDepth 100000 in
theorem apart_a9 (W H P D X Y S K X2 Y2 S2 K2 n e : Int) (w : World) (hN : needVal W H P D = (n, e)) (hS : slotVal W P D X Y S K = -1) (c0 : 0 ≤ X) (c1 : 0 ≤ Y) (c2 : 0 ≤ S) (c3 : 0 ≤ K) (c4 : X ≤ 8192) (c5 : Y ≤ 8192) (c6 : S ≤ 65536) (c7 : K ≤ 516) (c8 : 0 ≤ W) (c9 : 8192 < W) :
    Calls Try.prog 6 #[.agg #[.int .i64 W, .int .i64 H, .int .i64 P, .int .i64 D, .int .i64 X, .int .i64 Y, .int .i64 S, .int .i64 K, .int .i64 X2, .int .i64 Y2, .int .i64 S2, .int .i64 K2]] w fun z w' => z = .returned (.bool true) ∧ Below w.heap.size w w' := by
  have HN := Aside0.mk hN
  have HS := Aside0.mk hS
  clear hN hS
  go_enter Try.func6, Try.ntmps6
  go_wp2_with (first
    | (go_at_call 17; (with_reducible refine (rneed_any W H P D n e _ HN.out).mono ?_); rintro z w1 ⟨rfl, hB1⟩; have HM1 := Aside0.mk (blk_below (blk_new _ _) hB1); obtain ⟨k0, k1, k2, k3, k4, k5, k6, k7, k8, k9, k10, k11⟩ := cells12 HM1.out)
    | (go_at_call 20; (with_reducible refine (slot_any W P D X Y S K (-1) w1 HS.out).mono ?_); rintro z w2 ⟨rfl, hB2⟩; have HM2 := Aside0.mk (blk_below HM1.out hB2); clear k0 k1 k2 k3 k4 k5 k6 k7 k8 k9 k10 k11; obtain ⟨k0, k1, k2, k3, k4, k5, k6, k7, k8, k9, k10, k11⟩ := cells12 HM2.out)
    | (go_at_call 11; refine (awake06 _).mono ?_; rintro z w9 ⟨rfl, hB9⟩))
  go_ret
  exact ⟨rfl, below_thru (below_thru (below_thru (by go_grown) hB1) hB2) (by first | exact hB9 | simpa using hB9)⟩

set_option maxHeartbeats 4000000 in
set_option maxRecDepth 100000 in
theorem apart_a10 (W H P D X Y S K X2 Y2 S2 K2 n e : Int) (w : World) (hN : needVal W H P D = (n, e)) (hS : slotVal W P D X Y S K = -1) (c0 : 0 ≤ X) (c1 : 0 ≤ Y) (c2 : 0 ≤ S) (c3 : 0 ≤ K) (c4 : X ≤ 8192) (c5 : Y ≤ 8192) (c6 : S ≤ 65536) (c7 : K ≤ 516) (c8 : 0 ≤ W) (c9 : W ≤ 8192) (c10 : P < 0) :
    Calls Try.prog 6 #[.agg #[.int .i64 W, .int .i64 H, .int .i64 P, .int .i64 D, .int .i64 X, .int .i64 Y, .int .i64 S, .int .i64 K, .int .i64 X2, .int .i64 Y2, .int .i64 S2, .int .i64 K2]] w fun z w' => z = .returned (.bool true) ∧ Below w.heap.size w w' := by
  have HN := Aside0.mk hN
  have HS := Aside0.mk hS
  clear hN hS
  go_enter Try.func6, Try.ntmps6
  go_wp2_with (first
    | (go_at_call 17; (with_reducible refine (rneed_any W H P D n e _ HN.out).mono ?_); rintro z w1 ⟨rfl, hB1⟩; have HM1 := Aside0.mk (blk_below (blk_new _ _) hB1); obtain ⟨k0, k1, k2, k3, k4, k5, k6, k7, k8, k9, k10, k11⟩ := cells12 HM1.out)
    | (go_at_call 20; (with_reducible refine (slot_any W P D X Y S K (-1) w1 HS.out).mono ?_); rintro z w2 ⟨rfl, hB2⟩; have HM2 := Aside0.mk (blk_below HM1.out hB2); clear k0 k1 k2 k3 k4 k5 k6 k7 k8 k9 k10 k11; obtain ⟨k0, k1, k2, k3, k4, k5, k6, k7, k8, k9, k10, k11⟩ := cells12 HM2.out)
    | (go_at_call 11; refine (awake06 _).mono ?_; rintro z w9 ⟨rfl, hB9⟩))
  go_ret
  exact ⟨rfl, below_thru (below_thru (below_thru (by go_grown) hB1) hB2) (by first | exact hB9 | simpa using hB9)⟩

set_option maxHeartbeats 4000000 in
set_option maxRecDepth 100000 in
theorem apart_a11 (W H P D X Y S K X2 Y2 S2 K2 n e : Int) (w : World) (hN : needVal W H P D = (n, e)) (hS : slotVal W P D X Y S K = -1) (c0 : 0 ≤ X) (c1 : 0 ≤ Y) (c2 : 0 ≤ S) (c3 : 0 ≤ K) (c4 : X ≤ 8192) (c5 : Y ≤ 8192) (c6 : S ≤ 65536) (c7 : K ≤ 516) (c8 : 0 ≤ W) (c9 : W ≤ 8192) (c10 : 0 ≤ P) (c11 : 65536 < P) :
    Calls Try.prog 6 #[.agg #[.int .i64 W, .int .i64 H, .int .i64 P, .int .i64 D, .int .i64 X, .int .i64 Y, .int .i64 S, .int .i64 K, .int .i64 X2, .int .i64 Y2, .int .i64 S2, .int .i64 K2]] w fun z w' => z = .returned (.bool true) ∧ Below w.heap.size w w' := by
  have HN := Aside0.mk hN
  have HS := Aside0.mk hS
  clear hN hS
  go_enter Try.func6, Try.ntmps6
  go_wp2_with (first
    | (go_at_call 17; (with_reducible refine (rneed_any W H P D n e _ HN.out).mono ?_); rintro z w1 ⟨rfl, hB1⟩; have HM1 := Aside0.mk (blk_below (blk_new _ _) hB1); obtain ⟨k0, k1, k2, k3, k4, k5, k6, k7, k8, k9, k10, k11⟩ := cells12 HM1.out)
    | (go_at_call 20; (with_reducible refine (slot_any W P D X Y S K (-1) w1 HS.out).mono ?_); rintro z w2 ⟨rfl, hB2⟩; have HM2 := Aside0.mk (blk_below HM1.out hB2); clear k0 k1 k2 k3 k4 k5 k6 k7 k8 k9 k10 k11; obtain ⟨k0, k1, k2, k3, k4, k5, k6, k7, k8, k9, k10, k11⟩ := cells12 HM2.out)
    | (go_at_call 11; refine (awake06 _).mono ?_; rintro z w9 ⟨rfl, hB9⟩))
  go_ret
  exact ⟨rfl, below_thru (below_thru (below_thru (by go_grown) hB1) hB2) (by first | exact hB9 | simpa using hB9)⟩

set_option maxHeartbeats 4000000 in
set_option maxRecDepth 100000 in
theorem apart_a12 (W H P D X Y S K X2 Y2 S2 K2 n e : Int) (w : World) (hN : needVal W H P D = (n, e)) (hS : slotVal W P D X Y S K = -1) (c0 : 0 ≤ X) (c1 : 0 ≤ Y) (c2 : 0 ≤ S) (c3 : 0 ≤ K) (c4 : X ≤ 8192) (c5 : Y ≤ 8192) (c6 : S ≤ 65536) (c7 : K ≤ 516) (c8 : 0 ≤ W) (c9 : W ≤ 8192) (c10 : 0 ≤ P) (c11 : P ≤ 65536) (c12 : D < 0) :
    Calls Try.prog 6 #[.agg #[.int .i64 W, .int .i64 H, .int .i64 P, .int .i64 D, .int .i64 X, .int .i64 Y, .int .i64 S, .int .i64 K, .int .i64 X2, .int .i64 Y2, .int .i64 S2, .int .i64 K2]] w fun z w' => z = .returned (.bool true) ∧ Below w.heap.size w w' := by
  have HN := Aside0.mk hN
  have HS := Aside0.mk hS
  clear hN hS
  go_enter Try.func6, Try.ntmps6
  go_wp2_with (first
    | (go_at_call 17; (with_reducible refine (rneed_any W H P D n e _ HN.out).mono ?_); rintro z w1 ⟨rfl, hB1⟩; have HM1 := Aside0.mk (blk_below (blk_new _ _) hB1); obtain ⟨k0, k1, k2, k3, k4, k5, k6, k7, k8, k9, k10, k11⟩ := cells12 HM1.out)
    | (go_at_call 20; (with_reducible refine (slot_any W P D X Y S K (-1) w1 HS.out).mono ?_); rintro z w2 ⟨rfl, hB2⟩; have HM2 := Aside0.mk (blk_below HM1.out hB2); clear k0 k1 k2 k3 k4 k5 k6 k7 k8 k9 k10 k11; obtain ⟨k0, k1, k2, k3, k4, k5, k6, k7, k8, k9, k10, k11⟩ := cells12 HM2.out)
    | (go_at_call 11; refine (awake06 _).mono ?_; rintro z w9 ⟨rfl, hB9⟩))
  go_ret
  exact ⟨rfl, below_thru (below_thru (below_thru (by go_grown) hB1) hB2) (by first | exact hB9 | simpa using hB9)⟩

set_option maxHeartbeats 4000000 in
set_option maxRecDepth 100000 in
theorem apart_a13 (W H P D X Y S K X2 Y2 S2 K2 n e : Int) (w : World) (hN : needVal W H P D = (n, e)) (hS : slotVal W P D X Y S K = -1) (c0 : 0 ≤ X) (c1 : 0 ≤ Y) (c2 : 0 ≤ S) (c3 : 0 ≤ K) (c4 : X ≤ 8192) (c5 : Y ≤ 8192) (c6 : S ≤ 65536) (c7 : K ≤ 516) (c8 : 0 ≤ W) (c9 : W ≤ 8192) (c10 : 0 ≤ P) (c11 : P ≤ 65536) (c12 : 0 ≤ D) (c13 : 64 < D) :
    Calls Try.prog 6 #[.agg #[.int .i64 W, .int .i64 H, .int .i64 P, .int .i64 D, .int .i64 X, .int .i64 Y, .int .i64 S, .int .i64 K, .int .i64 X2, .int .i64 Y2, .int .i64 S2, .int .i64 K2]] w fun z w' => z = .returned (.bool true) ∧ Below w.heap.size w w' := by
  have HN := Aside0.mk hN
  have HS := Aside0.mk hS
  clear hN hS
  go_enter Try.func6, Try.ntmps6
  go_wp2_with (first
    | (go_at_call 17; (with_reducible refine (rneed_any W H P D n e _ HN.out).mono ?_); rintro z w1 ⟨rfl, hB1⟩; have HM1 := Aside0.mk (blk_below (blk_new _ _) hB1); obtain ⟨k0, k1, k2, k3, k4, k5, k6, k7, k8, k9, k10, k11⟩ := cells12 HM1.out)
    | (go_at_call 20; (with_reducible refine (slot_any W P D X Y S K (-1) w1 HS.out).mono ?_); rintro z w2 ⟨rfl, hB2⟩; have HM2 := Aside0.mk (blk_below HM1.out hB2); clear k0 k1 k2 k3 k4 k5 k6 k7 k8 k9 k10 k11; obtain ⟨k0, k1, k2, k3, k4, k5, k6, k7, k8, k9, k10, k11⟩ := cells12 HM2.out)
    | (go_at_call 11; refine (awake06 _).mono ?_; rintro z w9 ⟨rfl, hB9⟩))
  go_ret
  exact ⟨rfl, below_thru (below_thru (below_thru (by go_grown) hB1) hB2) (by first | exact hB9 | simpa using hB9)⟩

end Go.Proofs.Ytedifkidnpaejaa.Gv
