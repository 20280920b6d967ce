-- written by xprint.py (a program of this session, over the kit's print)
import Derived.Test.YtmpbjmjphapnoaaXx0
import Derived.Test.YtmpbjmjphapnoaaXxI44
import Derived.Test.YtmpbjmjphapnoaaXxI44b
import Derived.Test.YtmpbjmjphapnoaaXxL44awake
namespace Go.Proofs.Ytmpbjmjphapnoaa.X
open Go.RowKit Go.Proofs.YtmpbjmjphapnoaaW.PrintWords Go.Proofs.YtmpbjmjphapnoaaW.PrintLast Go.Proofs.YtmpbjmjphapnoaaW.PrintMore
attribute [local go_sem] max2_int min2_int max_two min_two max_three min_three max_four min_four   -- for this text's walks alone
set_option linter.unusedVariables false
set_option linter.unusedSimpArgs false

/-! ### penumbralaw44_PpmTurns: function 6 -/
mutual
def penumbralaw44_PpmTurns.j0 : Nat → Int → Int → List Int → List Int → List Int → List Int → Bool → Option (Bool)
  | 0, _, _, _, _, _, _, _ => none
  | k + 1, x0, x1, x2, x7, x9, x11, x109 => if x109 = true then (some false) else (penumbralaw44_PpmTurns.l0 k x0 x1 x2 x7 x9 x11 0)
def penumbralaw44_PpmTurns.l0 : Nat → Int → Int → List Int → List Int → List Int → List Int → Int → Option (Bool)
  | 0, _, _, _, _, _, _, _ => none
  | k + 1, x0, x1, x2, x7, x9, x11, x14 => if x14 < (x2.length : Int) then (if x0 = 0 then (none) else (if x1 = 0 then (none) else (if 0 ≤ (wrap64 (3 * (wrap64 (Int.tdiv x14 3)))) then (if (wrap64 (3 * (wrap64 (Int.tdiv x14 3)))) < (x2.length : Int) then (if 0 ≤ (wrap64 ((wrap64 (3 * (wrap64 (Int.tdiv x14 3)))) + 1)) then (if (wrap64 ((wrap64 (3 * (wrap64 (Int.tdiv x14 3)))) + 1)) < (x2.length : Int) then (if 0 ≤ (wrap64 ((wrap64 (3 * (wrap64 (Int.tdiv x14 3)))) + 2)) then (if (wrap64 ((wrap64 (3 * (wrap64 (Int.tdiv x14 3)))) + 2)) < (x2.length : Int) then (if 0 ≤ x14 then (if x14 < (x7.length : Int) then (if 0 ≤ (wrap64 ((wrap64 (3 * (wrap64 ((wrap64 ((wrap64 ((wrap64 ((wrap64 (Int.tdiv (wrap64 (Int.tdiv x14 3)) x0)) * x0)) + x0)) - 1)) - (Int.tmod (wrap64 (Int.tdiv x14 3)) x0))))) + (Int.tmod x14 3))) then (if (wrap64 ((wrap64 (3 * (wrap64 ((wrap64 ((wrap64 ((wrap64 ((wrap64 (Int.tdiv (wrap64 (Int.tdiv x14 3)) x0)) * x0)) + x0)) - 1)) - (Int.tmod (wrap64 (Int.tdiv x14 3)) x0))))) + (Int.tmod x14 3))) < (x2.length : Int) then (if (rd x7 x14) = (rd x2 (wrap64 ((wrap64 (3 * (wrap64 ((wrap64 ((wrap64 ((wrap64 ((wrap64 (Int.tdiv (wrap64 (Int.tdiv x14 3)) x0)) * x0)) + x0)) - 1)) - (Int.tmod (wrap64 (Int.tdiv x14 3)) x0))))) + (Int.tmod x14 3)))) then (if x14 < (x9.length : Int) then (if 0 ≤ (wrap64 ((wrap64 (3 * (wrap64 ((wrap64 ((wrap64 ((wrap64 (x1 - 1)) - (Int.tmod (wrap64 (Int.tdiv x14 3)) x1))) * x0)) + (wrap64 (Int.tdiv (wrap64 (Int.tdiv x14 3)) x1)))))) + (Int.tmod x14 3))) then (if (wrap64 ((wrap64 (3 * (wrap64 ((wrap64 ((wrap64 ((wrap64 (x1 - 1)) - (Int.tmod (wrap64 (Int.tdiv x14 3)) x1))) * x0)) + (wrap64 (Int.tdiv (wrap64 (Int.tdiv x14 3)) x1)))))) + (Int.tmod x14 3))) < (x2.length : Int) then (if (rd x9 x14) = (rd x2 (wrap64 ((wrap64 (3 * (wrap64 ((wrap64 ((wrap64 ((wrap64 (x1 - 1)) - (Int.tmod (wrap64 (Int.tdiv x14 3)) x1))) * x0)) + (wrap64 (Int.tdiv (wrap64 (Int.tdiv x14 3)) x1)))))) + (Int.tmod x14 3)))) then (if x14 < (x11.length : Int) then (if (wrap64 (rd x11 x14)) = (wrap64 (Int.tdiv (wrap64 ((wrap64 ((wrap64 (rd x2 (wrap64 (3 * (wrap64 (Int.tdiv x14 3)))))) + (wrap64 (rd x2 (wrap64 ((wrap64 (3 * (wrap64 (Int.tdiv x14 3)))) + 1)))))) + (wrap64 (rd x2 (wrap64 ((wrap64 (3 * (wrap64 (Int.tdiv x14 3)))) + 2)))))) 3)) then (penumbralaw44_PpmTurns.l0 k x0 x1 x2 x7 x9 x11 (wrap64 (x14 + 1))) else (some false)) else (none)) else (some false)) else (none)) else (none)) else (none)) else (some false)) else (none)) else (none)) else (none)) else (none)) else (none)) else (none)) else (none)) else (none)) else (none)) else (none)))) else ((penumbralaw44_awake.f k).bind fun t124 => (some t124))
end
def penumbralaw44_PpmTurns.f (k : Nat) (a0 : Int) (a1 : Int) (l2 : List Int) : Option (Bool) := if (l2.length : Int) > 600 then ((penumbralaw44_awake.f k).bind fun t101 => (some t101)) else ((ppm_Flip.f a0 a1 l2).bind fun bt102 => ((ppm_Turn.f a0 a1 l2).bind fun bt106 => ((ppm_Gray.f k a0 a1 l2).bind fun bt110 => ((penumbraref44_Check.f k a0 a1 l2).bind fun t114 => (if t114 = 0 then (if bt102.2 = 0 then (if bt106.2 = 0 then (if bt110.2 = 0 then (if (bt102.1.length : Int) = (l2.length : Int) then (if (bt106.1.length : Int) = (l2.length : Int) then (penumbralaw44_PpmTurns.j0 k a0 a1 l2 bt102.1 bt106.1 bt110.1 ((bt110.1.length : Int) != (l2.length : Int))) else (penumbralaw44_PpmTurns.j0 k a0 a1 l2 bt102.1 bt106.1 bt110.1 true)) else (penumbralaw44_PpmTurns.j0 k a0 a1 l2 bt102.1 bt106.1 bt110.1 true)) else (penumbralaw44_PpmTurns.j0 k a0 a1 l2 bt102.1 bt106.1 bt110.1 true)) else (penumbralaw44_PpmTurns.j0 k a0 a1 l2 bt102.1 bt106.1 bt110.1 true)) else (penumbralaw44_PpmTurns.j0 k a0 a1 l2 bt102.1 bt106.1 bt110.1 true)) else ((penumbralaw44_awake.f k).bind fun t115 => (if t115 = true then (if bt102.2 = t114 then (if bt106.2 = t114 then (if bt110.2 = t114 then (some ((wrap64 ((wrap64 ((bt102.1.length : Int) + (bt106.1.length : Int))) + (bt110.1.length : Int))) == 0)) else (some false)) else (some false)) else (some false)) else (some false))))))))
theorem penumbralaw44_PpmTurns.mono_l : ∀ k, (∀ y0 y1 y2 y3 y4 y5 y6, LeO (penumbralaw44_PpmTurns.j0 k y0 y1 y2 y3 y4 y5 y6) (penumbralaw44_PpmTurns.j0 (k + 1) y0 y1 y2 y3 y4 y5 y6)) ∧ (∀ y0 y1 y2 y3 y4 y5 y6, LeO (penumbralaw44_PpmTurns.l0 k y0 y1 y2 y3 y4 y5 y6) (penumbralaw44_PpmTurns.l0 (k + 1) y0 y1 y2 y3 y4 y5 y6))
  | 0 => ⟨fun _ _ _ _ _ _ _ r h => by simp [penumbralaw44_PpmTurns.j0] at h, fun _ _ _ _ _ _ _ r h => by simp [penumbralaw44_PpmTurns.l0] at h⟩
  | k + 1 => by
    obtain ⟨ih0, ih1⟩ := penumbralaw44_PpmTurns.mono_l k
    refine ⟨?_, ?_⟩
    · intro y0 y1 y2 y3 y4 y5 y6
      unfold penumbralaw44_PpmTurns.j0
      repeat' first
      | (with_reducible exact ih0 _ _ _ _ _ _ _)
      | (with_reducible exact ih1 _ _ _ _ _ _ _)
      | (with_reducible exact penumbralaw44_awake.mono _)
      | (with_reducible exact penumbraref44_Check.mono _ _ _ _)
      | (with_reducible exact ppm_Gray.mono _ _ _ _)
      | (with_reducible exact LeO.refl _)
      | (with_reducible exact LeO.none _)
      | (with_reducible refine LeO.ite ?_ ?_)
      | (with_reducible refine LeO.bind ?_ (fun _ => ?_))
      | exact ih0 _ _ _ _ _ _ _
      | exact ih1 _ _ _ _ _ _ _
      | exact penumbralaw44_awake.mono _
      | exact penumbraref44_Check.mono _ _ _ _
      | exact ppm_Gray.mono _ _ _ _
      | exact LeO.none _
      | refine LeO.ite ?_ ?_
      | refine LeO.bind ?_ (fun _ => ?_)
    · intro y0 y1 y2 y3 y4 y5 y6
      unfold penumbralaw44_PpmTurns.l0
      repeat' first
      | (with_reducible exact ih0 _ _ _ _ _ _ _)
      | (with_reducible exact ih1 _ _ _ _ _ _ _)
      | (with_reducible exact penumbralaw44_awake.mono _)
      | (with_reducible exact penumbraref44_Check.mono _ _ _ _)
      | (with_reducible exact ppm_Gray.mono _ _ _ _)
      | (with_reducible exact LeO.refl _)
      | (with_reducible exact LeO.none _)
      | (with_reducible refine LeO.ite ?_ ?_)
      | (with_reducible refine LeO.bind ?_ (fun _ => ?_))
      | exact ih0 _ _ _ _ _ _ _
      | exact ih1 _ _ _ _ _ _ _
      | exact penumbralaw44_awake.mono _
      | exact penumbraref44_Check.mono _ _ _ _
      | exact ppm_Gray.mono _ _ _ _
      | exact LeO.none _
      | refine LeO.ite ?_ ?_
      | refine LeO.bind ?_ (fun _ => ?_)
theorem penumbralaw44_PpmTurns.mono : ∀ a0 a1 a2 k, LeO (penumbralaw44_PpmTurns.f k a0 a1 a2) (penumbralaw44_PpmTurns.f (k + 1) a0 a1 a2) := by
  intro a0 a1 a2 k
  obtain ⟨ih0, ih1⟩ := penumbralaw44_PpmTurns.mono_l k
  unfold penumbralaw44_PpmTurns.f
  repeat' first
      | (with_reducible exact ih0 _ _ _ _ _ _ _)
      | (with_reducible exact ih1 _ _ _ _ _ _ _)
      | (with_reducible exact penumbralaw44_awake.mono _)
      | (with_reducible exact penumbraref44_Check.mono _ _ _ _)
      | (with_reducible exact ppm_Gray.mono _ _ _ _)
      | (with_reducible exact LeO.refl _)
      | (with_reducible exact LeO.none _)
      | (with_reducible refine LeO.ite ?_ ?_)
      | (with_reducible refine LeO.bind ?_ (fun _ => ?_))
      | exact ih0 _ _ _ _ _ _ _
      | exact ih1 _ _ _ _ _ _ _
      | exact penumbralaw44_awake.mono _
      | exact penumbraref44_Check.mono _ _ _ _
      | exact ppm_Gray.mono _ _ _ _
      | exact LeO.none _
      | refine LeO.ite ?_ ?_
      | refine LeO.bind ?_ (fun _ => ?_)
set_option maxHeartbeats 8000000 in
set_option maxRecDepth 100000 in
theorem penumbralaw44_PpmTurns.calls (k : Nat) (a0 : Int) (a1 : Int) (A2 : Option Addr) (c2 : Nat) (l2 : List Int) (r : Bool) (w : World) (hr2 : Kd.C (Kd.int .u8) w A2 l2.length l2) (hc2 : l2.length ≤ c2) (h : penumbralaw44_PpmTurns.f k a0 a1 l2 = some r) (hr_ : r = true) :
    Calls Try.prog 6 #[.int .i64 a0, .int .i64 a1, .slice A2 l2.length c2] w fun e w' => e = .returned (.bool r) ∧ Below w.heap.size w w' := by
  have HR2 := Aside0.mk hr2
  have HC2 := Aside0.mk hc2
  clear hr2 hc2
  have HB := Aside0.mk (Below.refl w.heap.size w)
  have H : (if (l2.length : Int) > 600 then ((penumbralaw44_awake.f k).bind fun t101 => (some t101)) else ((ppm_Flip.f a0 a1 l2).bind fun bt102 => ((ppm_Turn.f a0 a1 l2).bind fun bt106 => ((ppm_Gray.f k a0 a1 l2).bind fun bt110 => ((penumbraref44_Check.f k a0 a1 l2).bind fun t114 => (if t114 = 0 then (if bt102.2 = 0 then (if bt106.2 = 0 then (if bt110.2 = 0 then (if (bt102.1.length : Int) = (l2.length : Int) then (if (bt106.1.length : Int) = (l2.length : Int) then (penumbralaw44_PpmTurns.j0 k a0 a1 l2 bt102.1 bt106.1 bt110.1 ((bt110.1.length : Int) != (l2.length : Int))) else (penumbralaw44_PpmTurns.j0 k a0 a1 l2 bt102.1 bt106.1 bt110.1 true)) else (penumbralaw44_PpmTurns.j0 k a0 a1 l2 bt102.1 bt106.1 bt110.1 true)) else (penumbralaw44_PpmTurns.j0 k a0 a1 l2 bt102.1 bt106.1 bt110.1 true)) else (penumbralaw44_PpmTurns.j0 k a0 a1 l2 bt102.1 bt106.1 bt110.1 true)) else (penumbralaw44_PpmTurns.j0 k a0 a1 l2 bt102.1 bt106.1 bt110.1 true)) else ((penumbralaw44_awake.f k).bind fun t115 => (if t115 = true then (if bt102.2 = t114 then (if bt106.2 = t114 then (if bt110.2 = t114 then (some ((wrap64 ((wrap64 ((bt102.1.length : Int) + (bt106.1.length : Int))) + (bt110.1.length : Int))) == 0)) else (some false)) else (some false)) else (some false)) else (some false))))))))) = some r := h
  clear h
  by_cases c4 : (l2.length : Int) > 600
  · rw [if_pos c4] at H
    have c4b0 : decide (600 < (l2.length : Int)) = true := decide_eq_true c4
    have c4b1 : decide (600 < l2.length) = true := decide_eq_true (by omega)
    clear c4
    replace H := Option.bind_eq_some_iff.mp H
    obtain ⟨t101, A50, H⟩ := H
    replace H : (some t101) = some r := H
    have A5 := Aside0.mk A50
    clear A50
    obtain rfl := Option.some.inj H
    go_enter Try.func6, Try.ntmps6
    go_wp2_with (first | (go_at_call 7; (with_reducible refine (penumbralaw44_awake.calls k  t101 _ A5.out).mono ?_); rintro e w6 ⟨rfl, hb⟩; have n0_ := Aside0.mk (below_step (by repeat (first | (with_reducible first | exact HB.out | apply below_alloc | apply pw_below_drewN | apply below_drew1) | exact HB.out)) hb); clear HB; have HB := n0_; clear n0_; (try clear hb); (try clear hb2); (try clear hk); (try clear hi); (try clear A5)))
    repeat (go_quiet (first | (go_at_call 7; (with_reducible refine (penumbralaw44_awake.calls k  t101 _ A5.out).mono ?_); rintro e w6 ⟨rfl, hb⟩; have n0_ := Aside0.mk (below_step (by repeat (first | (with_reducible first | exact HB.out | apply below_alloc | apply pw_below_drewN | apply below_drew1) | exact HB.out)) hb); clear HB; have HB := n0_; clear n0_; (try clear hb); (try clear hb2); (try clear hk); (try clear hi); (try clear A5))); try go_wp2_with (first | (go_at_call 7; (with_reducible refine (penumbralaw44_awake.calls k  t101 _ A5.out).mono ?_); rintro e w6 ⟨rfl, hb⟩; have n0_ := Aside0.mk (below_step (by repeat (first | (with_reducible first | exact HB.out | apply below_alloc | apply pw_below_drewN | apply below_drew1) | exact HB.out)) hb); clear HB; have HB := n0_; clear n0_; (try clear hb); (try clear hb2); (try clear hk); (try clear hi); (try clear A5))))
    go_ret
    exact ⟨by first | rfl | (simp [errW_none, errW_some] <;> rfl) | (simp [*, errW_none, errW_some] <;> rfl), by repeat (first | (with_reducible first | exact HB.out | apply below_alloc | apply pw_below_drewN | apply below_drew1) | exact HB.out)⟩
  · rw [if_neg c4] at H
    have c4b0 : decide (600 < (l2.length : Int)) = false := decide_eq_false c4
    have c4b1 : decide (600 < l2.length) = false := decide_eq_false (by omega)
    clear c4
    replace H := Option.bind_eq_some_iff.mp H
    obtain ⟨⟨t102, t103⟩, A70, H⟩ := H
    replace H : ((ppm_Turn.f a0 a1 l2).bind fun bt106 => ((ppm_Gray.f k a0 a1 l2).bind fun bt110 => ((penumbraref44_Check.f k a0 a1 l2).bind fun t114 => (if t114 = 0 then (if t103 = 0 then (if bt106.2 = 0 then (if bt110.2 = 0 then (if (t102.length : Int) = (l2.length : Int) then (if (bt106.1.length : Int) = (l2.length : Int) then (penumbralaw44_PpmTurns.j0 k a0 a1 l2 t102 bt106.1 bt110.1 ((bt110.1.length : Int) != (l2.length : Int))) else (penumbralaw44_PpmTurns.j0 k a0 a1 l2 t102 bt106.1 bt110.1 true)) else (penumbralaw44_PpmTurns.j0 k a0 a1 l2 t102 bt106.1 bt110.1 true)) else (penumbralaw44_PpmTurns.j0 k a0 a1 l2 t102 bt106.1 bt110.1 true)) else (penumbralaw44_PpmTurns.j0 k a0 a1 l2 t102 bt106.1 bt110.1 true)) else (penumbralaw44_PpmTurns.j0 k a0 a1 l2 t102 bt106.1 bt110.1 true)) else ((penumbralaw44_awake.f k).bind fun t115 => (if t115 = true then (if t103 = t114 then (if bt106.2 = t114 then (if bt110.2 = t114 then (some ((wrap64 ((wrap64 ((t102.length : Int) + (bt106.1.length : Int))) + (bt110.1.length : Int))) == 0)) else (some false)) else (some false)) else (some false)) else (some false))))))) = some r := H
    have A7 := Aside0.mk A70
    clear A70
    replace H := Option.bind_eq_some_iff.mp H
    obtain ⟨⟨t106, t107⟩, A80, H⟩ := H
    replace H : ((ppm_Gray.f k a0 a1 l2).bind fun bt110 => ((penumbraref44_Check.f k a0 a1 l2).bind fun t114 => (if t114 = 0 then (if t103 = 0 then (if t107 = 0 then (if bt110.2 = 0 then (if (t102.length : Int) = (l2.length : Int) then (if (t106.length : Int) = (l2.length : Int) then (penumbralaw44_PpmTurns.j0 k a0 a1 l2 t102 t106 bt110.1 ((bt110.1.length : Int) != (l2.length : Int))) else (penumbralaw44_PpmTurns.j0 k a0 a1 l2 t102 t106 bt110.1 true)) else (penumbralaw44_PpmTurns.j0 k a0 a1 l2 t102 t106 bt110.1 true)) else (penumbralaw44_PpmTurns.j0 k a0 a1 l2 t102 t106 bt110.1 true)) else (penumbralaw44_PpmTurns.j0 k a0 a1 l2 t102 t106 bt110.1 true)) else (penumbralaw44_PpmTurns.j0 k a0 a1 l2 t102 t106 bt110.1 true)) else ((penumbralaw44_awake.f k).bind fun t115 => (if t115 = true then (if t103 = t114 then (if t107 = t114 then (if bt110.2 = t114 then (some ((wrap64 ((wrap64 ((t102.length : Int) + (t106.length : Int))) + (bt110.1.length : Int))) == 0)) else (some false)) else (some false)) else (some false)) else (some false)))))) = some r := H
    have A8 := Aside0.mk A80
    clear A80
    replace H := Option.bind_eq_some_iff.mp H
    obtain ⟨⟨t110, t111⟩, A90, H⟩ := H
    replace H : ((penumbraref44_Check.f k a0 a1 l2).bind fun t114 => (if t114 = 0 then (if t103 = 0 then (if t107 = 0 then (if t111 = 0 then (if (t102.length : Int) = (l2.length : Int) then (if (t106.length : Int) = (l2.length : Int) then (penumbralaw44_PpmTurns.j0 k a0 a1 l2 t102 t106 t110 ((t110.length : Int) != (l2.length : Int))) else (penumbralaw44_PpmTurns.j0 k a0 a1 l2 t102 t106 t110 true)) else (penumbralaw44_PpmTurns.j0 k a0 a1 l2 t102 t106 t110 true)) else (penumbralaw44_PpmTurns.j0 k a0 a1 l2 t102 t106 t110 true)) else (penumbralaw44_PpmTurns.j0 k a0 a1 l2 t102 t106 t110 true)) else (penumbralaw44_PpmTurns.j0 k a0 a1 l2 t102 t106 t110 true)) else ((penumbralaw44_awake.f k).bind fun t115 => (if t115 = true then (if t103 = t114 then (if t107 = t114 then (if t111 = t114 then (some ((wrap64 ((wrap64 ((t102.length : Int) + (t106.length : Int))) + (t110.length : Int))) == 0)) else (some false)) else (some false)) else (some false)) else (some false))))) = some r := H
    have A9 := Aside0.mk A90
    clear A90
    replace H := Option.bind_eq_some_iff.mp H
    obtain ⟨t114, A100, H⟩ := H
    replace H : (if t114 = 0 then (if t103 = 0 then (if t107 = 0 then (if t111 = 0 then (if (t102.length : Int) = (l2.length : Int) then (if (t106.length : Int) = (l2.length : Int) then (penumbralaw44_PpmTurns.j0 k a0 a1 l2 t102 t106 t110 ((t110.length : Int) != (l2.length : Int))) else (penumbralaw44_PpmTurns.j0 k a0 a1 l2 t102 t106 t110 true)) else (penumbralaw44_PpmTurns.j0 k a0 a1 l2 t102 t106 t110 true)) else (penumbralaw44_PpmTurns.j0 k a0 a1 l2 t102 t106 t110 true)) else (penumbralaw44_PpmTurns.j0 k a0 a1 l2 t102 t106 t110 true)) else (penumbralaw44_PpmTurns.j0 k a0 a1 l2 t102 t106 t110 true)) else ((penumbralaw44_awake.f k).bind fun t115 => (if t115 = true then (if t103 = t114 then (if t107 = t114 then (if t111 = t114 then (some ((wrap64 ((wrap64 ((t102.length : Int) + (t106.length : Int))) + (t110.length : Int))) == 0)) else (some false)) else (some false)) else (some false)) else (some false)))) = some r := H
    have A10 := Aside0.mk A100
    clear A100
    by_cases c11 : t114 = 0
    · rw [if_pos c11] at H
      have c11b0 : (t114 == 0) = true := beq_iff_eq.mpr c11
      have c11b1 : (t114 != 0) = false := bne_eq_false_iff_eq.mpr c11
      clear c11
      have HC12 := Aside0.mk H
      clear H
      go_enter Try.func6, Try.ntmps6
      go_upto_region 9 with (first | (go_at_call 14; (with_reducible refine (ppm_Flip.calls a0 a1 _ _ l2 t102 t103 _ ?side1 ?side2 A7.out).mono ?_); (case side1 => repeat (first | exact HR2.out | (with_reducible refine Kd.C_alloc ?_ _) | (with_reducible refine Kd.C_drewN ?_ _) | (with_reducible refine Kd.C_drew ?_))); (case side2 => exact HC2.out); rintro e w13 ⟨v104, rfl, ho0, hb⟩; have n0_ := Aside0.mk (Kd.R_lower ho0 (below_size (by repeat (first | (with_reducible first | exact HB.out | apply below_alloc | apply pw_below_drewN | apply below_drew1) | exact HB.out)))); have n1_ := Aside0.mk (below_step (by repeat (first | (with_reducible first | exact HB.out | apply below_alloc | apply pw_below_drewN | apply below_drew1) | exact HB.out)) hb); clear HB; have HO105 := n0_; have HB := n1_; clear n0_ n1_; (try clear hb); (try clear hb2); (try clear hk); (try clear hi); (try clear ho0); (try clear A7)) | (go_at_call 15; (with_reducible refine (ppm_Turn.calls a0 a1 _ _ l2 t106 t107 _ ?side1 ?side2 A8.out).mono ?_); (case side1 => repeat (first | exact (Kd.C_below HR2.out HB.out) | (with_reducible refine Kd.C_alloc ?_ _) | (with_reducible refine Kd.C_drewN ?_ _) | (with_reducible refine Kd.C_drew ?_))); (case side2 => exact HC2.out); rintro e w14 ⟨v108, rfl, ho0, hb⟩; have n0_ := Aside0.mk (Kd.R_elder' (by (with_reducible repeat (first | apply Kd.R_alloc | apply Kd.R_drewN | apply Kd.R_drew)); exact HO105.out) (Kd.R_base ho0) hb); have n1_ := Aside0.mk (Kd.R_lower (Kd.R_new' ho0 (Kd.R_lt (by (with_reducible repeat (first | apply Kd.R_alloc | apply Kd.R_drewN | apply Kd.R_drew)); exact HO105.out))) (below_size (by repeat (first | (with_reducible first | exact HB.out | apply below_alloc | apply pw_below_drewN | apply below_drew1) | exact HB.out)))); have n2_ := Aside0.mk (below_step (by repeat (first | (with_reducible first | exact HB.out | apply below_alloc | apply pw_below_drewN | apply below_drew1) | exact HB.out)) hb); clear HO105; clear HB; have HO105 := n0_; have HO109 := n1_; have HB := n2_; clear n0_ n1_ n2_; (try clear hb); (try clear hb2); (try clear hk); (try clear hi); (try clear ho0); (try clear A8)) | (go_at_call 16; (with_reducible refine (ppm_Gray.calls k a0 a1 _ _ l2 t110 t111 _ ?side1 ?side2 A9.out).mono ?_); (case side1 => repeat (first | exact (Kd.C_below HR2.out HB.out) | (with_reducible refine Kd.C_alloc ?_ _) | (with_reducible refine Kd.C_drewN ?_ _) | (with_reducible refine Kd.C_drew ?_))); (case side2 => exact HC2.out); rintro e w15 ⟨v112, rfl, ho0, hb⟩; have n0_ := Aside0.mk (Kd.R_elder' (by (with_reducible repeat (first | apply Kd.R_alloc | apply Kd.R_drewN | apply Kd.R_drew)); exact HO105.out) (Kd.R_base ho0) hb); have n1_ := Aside0.mk (Kd.R_elder' (by (with_reducible repeat (first | apply Kd.R_alloc | apply Kd.R_drewN | apply Kd.R_drew)); exact HO109.out) (Kd.R_base ho0) hb); have n2_ := Aside0.mk (Kd.R_lower (Kd.R_new' (Kd.R_new' ho0 (Kd.R_lt (by (with_reducible repeat (first | apply Kd.R_alloc | apply Kd.R_drewN | apply Kd.R_drew)); exact HO105.out))) (Kd.R_lt (by (with_reducible repeat (first | apply Kd.R_alloc | apply Kd.R_drewN | apply Kd.R_drew)); exact HO109.out))) (below_size (by repeat (first | (with_reducible first | exact HB.out | apply below_alloc | apply pw_below_drewN | apply below_drew1) | exact HB.out)))); have n3_ := Aside0.mk (below_step (by repeat (first | (with_reducible first | exact HB.out | apply below_alloc | apply pw_below_drewN | apply below_drew1) | exact HB.out)) hb); clear HO105; clear HO109; clear HB; have HO105 := n0_; have HO109 := n1_; have HO113 := n2_; have HB := n3_; clear n0_ n1_ n2_ n3_; (try clear hb); (try clear hb2); (try clear hk); (try clear hi); (try clear ho0); (try clear A9)) | (go_at_call 9; (with_reducible refine (penumbraref44_Check.calls k a0 a1 _ _ l2 t114 _ ?side1 ?side2 A10.out).mono ?_); (case side1 => repeat (first | exact (Kd.C_below HR2.out HB.out) | (with_reducible refine Kd.C_alloc ?_ _) | (with_reducible refine Kd.C_drewN ?_ _) | (with_reducible refine Kd.C_drew ?_))); (case side2 => exact HC2.out); rintro e w' ⟨rfl, ⟨nd, rfl⟩⟩; (try first | exact ⟨rfl, _, World.drewN_drewN _ _ _⟩ | exact ⟨rfl, _, Eq.trans (World.drewN_drewN _ _ _) (congrArg (World.drewN _) (Nat.add_assoc _ _ _))⟩); (try clear A10)))
      repeat (go_quiet (first | (go_at_call 14; (with_reducible refine (ppm_Flip.calls a0 a1 _ _ l2 t102 t103 _ ?side1 ?side2 A7.out).mono ?_); (case side1 => repeat (first | exact HR2.out | (with_reducible refine Kd.C_alloc ?_ _) | (with_reducible refine Kd.C_drewN ?_ _) | (with_reducible refine Kd.C_drew ?_))); (case side2 => exact HC2.out); rintro e w13 ⟨v104, rfl, ho0, hb⟩; have n0_ := Aside0.mk (Kd.R_lower ho0 (below_size (by repeat (first | (with_reducible first | exact HB.out | apply below_alloc | apply pw_below_drewN | apply below_drew1) | exact HB.out)))); have n1_ := Aside0.mk (below_step (by repeat (first | (with_reducible first | exact HB.out | apply below_alloc | apply pw_below_drewN | apply below_drew1) | exact HB.out)) hb); clear HB; have HO105 := n0_; have HB := n1_; clear n0_ n1_; (try clear hb); (try clear hb2); (try clear hk); (try clear hi); (try clear ho0); (try clear A7)) | (go_at_call 15; (with_reducible refine (ppm_Turn.calls a0 a1 _ _ l2 t106 t107 _ ?side1 ?side2 A8.out).mono ?_); (case side1 => repeat (first | exact (Kd.C_below HR2.out HB.out) | (with_reducible refine Kd.C_alloc ?_ _) | (with_reducible refine Kd.C_drewN ?_ _) | (with_reducible refine Kd.C_drew ?_))); (case side2 => exact HC2.out); rintro e w14 ⟨v108, rfl, ho0, hb⟩; have n0_ := Aside0.mk (Kd.R_elder' (by (with_reducible repeat (first | apply Kd.R_alloc | apply Kd.R_drewN | apply Kd.R_drew)); exact HO105.out) (Kd.R_base ho0) hb); have n1_ := Aside0.mk (Kd.R_lower (Kd.R_new' ho0 (Kd.R_lt (by (with_reducible repeat (first | apply Kd.R_alloc | apply Kd.R_drewN | apply Kd.R_drew)); exact HO105.out))) (below_size (by repeat (first | (with_reducible first | exact HB.out | apply below_alloc | apply pw_below_drewN | apply below_drew1) | exact HB.out)))); have n2_ := Aside0.mk (below_step (by repeat (first | (with_reducible first | exact HB.out | apply below_alloc | apply pw_below_drewN | apply below_drew1) | exact HB.out)) hb); clear HO105; clear HB; have HO105 := n0_; have HO109 := n1_; have HB := n2_; clear n0_ n1_ n2_; (try clear hb); (try clear hb2); (try clear hk); (try clear hi); (try clear ho0); (try clear A8)) | (go_at_call 16; (with_reducible refine (ppm_Gray.calls k a0 a1 _ _ l2 t110 t111 _ ?side1 ?side2 A9.out).mono ?_); (case side1 => repeat (first | exact (Kd.C_below HR2.out HB.out) | (with_reducible refine Kd.C_alloc ?_ _) | (with_reducible refine Kd.C_drewN ?_ _) | (with_reducible refine Kd.C_drew ?_))); (case side2 => exact HC2.out); rintro e w15 ⟨v112, rfl, ho0, hb⟩; have n0_ := Aside0.mk (Kd.R_elder' (by (with_reducible repeat (first | apply Kd.R_alloc | apply Kd.R_drewN | apply Kd.R_drew)); exact HO105.out) (Kd.R_base ho0) hb); have n1_ := Aside0.mk (Kd.R_elder' (by (with_reducible repeat (first | apply Kd.R_alloc | apply Kd.R_drewN | apply Kd.R_drew)); exact HO109.out) (Kd.R_base ho0) hb); have n2_ := Aside0.mk (Kd.R_lower (Kd.R_new' (Kd.R_new' ho0 (Kd.R_lt (by (with_reducible repeat (first | apply Kd.R_alloc | apply Kd.R_drewN | apply Kd.R_drew)); exact HO105.out))) (Kd.R_lt (by (with_reducible repeat (first | apply Kd.R_alloc | apply Kd.R_drewN | apply Kd.R_drew)); exact HO109.out))) (below_size (by repeat (first | (with_reducible first | exact HB.out | apply below_alloc | apply pw_below_drewN | apply below_drew1) | exact HB.out)))); have n3_ := Aside0.mk (below_step (by repeat (first | (with_reducible first | exact HB.out | apply below_alloc | apply pw_below_drewN | apply below_drew1) | exact HB.out)) hb); clear HO105; clear HO109; clear HB; have HO105 := n0_; have HO109 := n1_; have HO113 := n2_; have HB := n3_; clear n0_ n1_ n2_ n3_; (try clear hb); (try clear hb2); (try clear hk); (try clear hi); (try clear ho0); (try clear A9)) | (go_at_call 9; (with_reducible refine (penumbraref44_Check.calls k a0 a1 _ _ l2 t114 _ ?side1 ?side2 A10.out).mono ?_); (case side1 => repeat (first | exact (Kd.C_below HR2.out HB.out) | (with_reducible refine Kd.C_alloc ?_ _) | (with_reducible refine Kd.C_drewN ?_ _) | (with_reducible refine Kd.C_drew ?_))); (case side2 => exact HC2.out); rintro e w' ⟨rfl, ⟨nd, rfl⟩⟩; (try first | exact ⟨rfl, _, World.drewN_drewN _ _ _⟩ | exact ⟨rfl, _, Eq.trans (World.drewN_drewN _ _ _) (congrArg (World.drewN _) (Nat.add_assoc _ _ _))⟩); (try clear A10))); go_upto_region 9 with (first | (go_at_call 14; (with_reducible refine (ppm_Flip.calls a0 a1 _ _ l2 t102 t103 _ ?side1 ?side2 A7.out).mono ?_); (case side1 => repeat (first | exact HR2.out | (with_reducible refine Kd.C_alloc ?_ _) | (with_reducible refine Kd.C_drewN ?_ _) | (with_reducible refine Kd.C_drew ?_))); (case side2 => exact HC2.out); rintro e w13 ⟨v104, rfl, ho0, hb⟩; have n0_ := Aside0.mk (Kd.R_lower ho0 (below_size (by repeat (first | (with_reducible first | exact HB.out | apply below_alloc | apply pw_below_drewN | apply below_drew1) | exact HB.out)))); have n1_ := Aside0.mk (below_step (by repeat (first | (with_reducible first | exact HB.out | apply below_alloc | apply pw_below_drewN | apply below_drew1) | exact HB.out)) hb); clear HB; have HO105 := n0_; have HB := n1_; clear n0_ n1_; (try clear hb); (try clear hb2); (try clear hk); (try clear hi); (try clear ho0); (try clear A7)) | (go_at_call 15; (with_reducible refine (ppm_Turn.calls a0 a1 _ _ l2 t106 t107 _ ?side1 ?side2 A8.out).mono ?_); (case side1 => repeat (first | exact (Kd.C_below HR2.out HB.out) | (with_reducible refine Kd.C_alloc ?_ _) | (with_reducible refine Kd.C_drewN ?_ _) | (with_reducible refine Kd.C_drew ?_))); (case side2 => exact HC2.out); rintro e w14 ⟨v108, rfl, ho0, hb⟩; have n0_ := Aside0.mk (Kd.R_elder' (by (with_reducible repeat (first | apply Kd.R_alloc | apply Kd.R_drewN | apply Kd.R_drew)); exact HO105.out) (Kd.R_base ho0) hb); have n1_ := Aside0.mk (Kd.R_lower (Kd.R_new' ho0 (Kd.R_lt (by (with_reducible repeat (first | apply Kd.R_alloc | apply Kd.R_drewN | apply Kd.R_drew)); exact HO105.out))) (below_size (by repeat (first | (with_reducible first | exact HB.out | apply below_alloc | apply pw_below_drewN | apply below_drew1) | exact HB.out)))); have n2_ := Aside0.mk (below_step (by repeat (first | (with_reducible first | exact HB.out | apply below_alloc | apply pw_below_drewN | apply below_drew1) | exact HB.out)) hb); clear HO105; clear HB; have HO105 := n0_; have HO109 := n1_; have HB := n2_; clear n0_ n1_ n2_; (try clear hb); (try clear hb2); (try clear hk); (try clear hi); (try clear ho0); (try clear A8)) | (go_at_call 16; (with_reducible refine (ppm_Gray.calls k a0 a1 _ _ l2 t110 t111 _ ?side1 ?side2 A9.out).mono ?_); (case side1 => repeat (first | exact (Kd.C_below HR2.out HB.out) | (with_reducible refine Kd.C_alloc ?_ _) | (with_reducible refine Kd.C_drewN ?_ _) | (with_reducible refine Kd.C_drew ?_))); (case side2 => exact HC2.out); rintro e w15 ⟨v112, rfl, ho0, hb⟩; have n0_ := Aside0.mk (Kd.R_elder' (by (with_reducible repeat (first | apply Kd.R_alloc | apply Kd.R_drewN | apply Kd.R_drew)); exact HO105.out) (Kd.R_base ho0) hb); have n1_ := Aside0.mk (Kd.R_elder' (by (with_reducible repeat (first | apply Kd.R_alloc | apply Kd.R_drewN | apply Kd.R_drew)); exact HO109.out) (Kd.R_base ho0) hb); have n2_ := Aside0.mk (Kd.R_lower (Kd.R_new' (Kd.R_new' ho0 (Kd.R_lt (by (with_reducible repeat (first | apply Kd.R_alloc | apply Kd.R_drewN | apply Kd.R_drew)); exact HO105.out))) (Kd.R_lt (by (with_reducible repeat (first | apply Kd.R_alloc | apply Kd.R_drewN | apply Kd.R_drew)); exact HO109.out))) (below_size (by repeat (first | (with_reducible first | exact HB.out | apply below_alloc | apply pw_below_drewN | apply below_drew1) | exact HB.out)))); have n3_ := Aside0.mk (below_step (by repeat (first | (with_reducible first | exact HB.out | apply below_alloc | apply pw_below_drewN | apply below_drew1) | exact HB.out)) hb); clear HO105; clear HO109; clear HB; have HO105 := n0_; have HO109 := n1_; have HO113 := n2_; have HB := n3_; clear n0_ n1_ n2_ n3_; (try clear hb); (try clear hb2); (try clear hk); (try clear hi); (try clear ho0); (try clear A9)) | (go_at_call 9; (with_reducible refine (penumbraref44_Check.calls k a0 a1 _ _ l2 t114 _ ?side1 ?side2 A10.out).mono ?_); (case side1 => repeat (first | exact (Kd.C_below HR2.out HB.out) | (with_reducible refine Kd.C_alloc ?_ _) | (with_reducible refine Kd.C_drewN ?_ _) | (with_reducible refine Kd.C_drew ?_))); (case side2 => exact HC2.out); rintro e w' ⟨rfl, ⟨nd, rfl⟩⟩; (try first | exact ⟨rfl, _, World.drewN_drewN _ _ _⟩ | exact ⟨rfl, _, Eq.trans (World.drewN_drewN _ _ _) (congrArg (World.drewN _) (Nat.add_assoc _ _ _))⟩); (try clear A10))))
      (try simp only [Act.put, List.setIfInBounds_toArray, List.set_cons_zero, List.set_cons_succ])
      go_cut [109] (fun v109 wc => ∃ (kq : Nat) (x109_11 : Bool), v109 = .bool x109_11 ∧ Aside0 (penumbralaw44_PpmTurns.j0 kq a0 a1 l2 t102 t106 t110 x109_11 = some r) ∧ Aside0 (kq ≤ k) ∧ Aside0 (Kd.R (Kd.int .u8) 5 wc w.heap.size (fun k_ => some k_ ≠ (v108 : Value).ownBlock ∧ some k_ ≠ (v112 : Value).ownBlock) v104 t102) ∧ Aside0 (Kd.R (Kd.int .u8) 5 wc w.heap.size (fun k_ => some k_ ≠ (v104 : Value).ownBlock ∧ some k_ ≠ (v112 : Value).ownBlock) v108 t106) ∧ Aside0 (Kd.R (Kd.int .u8) 5 wc w.heap.size (fun k_ => some k_ ≠ (v104 : Value).ownBlock ∧ some k_ ≠ (v108 : Value).ownBlock) v112 t110) ∧ Aside0 (Below w.heap.size w wc))
      case first =>
        have H := HC12.out
        clear HC12
        by_cases c16 : t103 = 0
        · rw [if_pos c16] at H
          have c16b0 : (t103 == 0) = true := beq_iff_eq.mpr c16
          have c16b1 : (t103 != 0) = false := bne_eq_false_iff_eq.mpr c16
          clear c16
          (first | rw [c16b0] | (simp only [i64_w, i32_w]; rw [c16b0]) | skip)
          by_cases c17 : t107 = 0
          · rw [if_pos c17] at H
            have c17b0 : (t107 == 0) = true := beq_iff_eq.mpr c17
            have c17b1 : (t107 != 0) = false := bne_eq_false_iff_eq.mpr c17
            clear c17
            by_cases c18 : t111 = 0
            · rw [if_pos c18] at H
              have c18b0 : (t111 == 0) = true := beq_iff_eq.mpr c18
              have c18b1 : (t111 != 0) = false := bne_eq_false_iff_eq.mpr c18
              clear c18
              by_cases c19 : (t102.length : Int) = (l2.length : Int)
              · rw [if_pos c19] at H
                have c19b0 : ((t102.length : Int) == (l2.length : Int)) = true := beq_iff_eq.mpr c19
                have c19b1 : ((t102.length : Int) != (l2.length : Int)) = false := bne_eq_false_iff_eq.mpr c19
                have c19b2 : (t102.length == l2.length) = true := by first | simpa using c19 | (simp at c19 ⊢; omega)
                clear c19
                by_cases c20 : (t106.length : Int) = (l2.length : Int)
                · rw [if_pos c20] at H
                  have c20b0 : ((t106.length : Int) == (l2.length : Int)) = true := beq_iff_eq.mpr c20
                  have c20b1 : ((t106.length : Int) != (l2.length : Int)) = false := bne_eq_false_iff_eq.mpr c20
                  have c20b2 : (t106.length == l2.length) = true := by first | simpa using c20 | (simp at c20 ⊢; omega)
                  clear c20
                  have H' := Aside0.mk H
                  clear H
                  obtain ⟨Ao21, co21, eo21⟩ := Kd.R_slice HO105.out
                  subst eo21
                  obtain ⟨Ao22, co22, eo22⟩ := Kd.R_slice HO109.out
                  subst eo22
                  obtain ⟨Ao23, co23, eo23⟩ := Kd.R_slice HO113.out
                  subst eo23
                  go_wp2
                  repeat (go_quiet (fail); try go_wp2)
                  go_meet
                  case rel => exact ⟨_, (((t110.length : Int) != (l2.length : Int))), (by first | rfl | (simp; done) | (simp [*]; done)), H', ⟨by first | omega | exact Nat.le_refl _⟩, ⟨by (with_reducible repeat (first | apply Kd.R_alloc | apply Kd.R_drewN | apply Kd.R_drew)); exact Kd.R_mono HO105.out (fun _ hk => by first | exact ⟨hk.1.2, hk.2⟩ | (revert hk; simp only [and_imp]; intros; and_intros <;> assumption))⟩, ⟨by (with_reducible repeat (first | apply Kd.R_alloc | apply Kd.R_drewN | apply Kd.R_drew)); exact Kd.R_mono HO109.out (fun _ hk => by first | exact ⟨hk.1.2, hk.2⟩ | (revert hk; simp only [and_imp]; intros; and_intros <;> assumption))⟩, ⟨by (with_reducible repeat (first | apply Kd.R_alloc | apply Kd.R_drewN | apply Kd.R_drew)); exact Kd.R_mono HO113.out (fun _ hk => by first | exact ⟨hk.1.2, hk.2⟩ | (revert hk; simp only [and_imp]; intros; and_intros <;> assumption))⟩, ⟨by repeat (first | (with_reducible first | exact HB.out | apply below_alloc | apply pw_below_drewN | apply below_drew1) | exact HB.out)⟩⟩
                · rw [if_neg c20] at H
                  have c20b0 : ((t106.length : Int) == (l2.length : Int)) = false := beq_eq_false_iff_ne.mpr c20
                  have c20b1 : ((t106.length : Int) != (l2.length : Int)) = true := bne_iff_ne.mpr c20
                  have c20b2 : (t106.length == l2.length) = false := by first | simpa using c20 | (simp at c20 ⊢; omega)
                  have H' := Aside0.mk H
                  clear H
                  obtain ⟨Ao24, co24, eo24⟩ := Kd.R_slice HO105.out
                  subst eo24
                  obtain ⟨Ao25, co25, eo25⟩ := Kd.R_slice HO109.out
                  subst eo25
                  go_wp2
                  repeat (go_quiet (fail); try go_wp2)
                  go_meet
                  case rel => exact ⟨_, (true), (by first | rfl | (simp; done) | (simp [*]; done)), H', ⟨by first | omega | exact Nat.le_refl _⟩, ⟨by (with_reducible repeat (first | apply Kd.R_alloc | apply Kd.R_drewN | apply Kd.R_drew)); exact Kd.R_mono HO105.out (fun _ hk => by first | exact ⟨hk.1.2, hk.2⟩ | (revert hk; simp only [and_imp]; intros; and_intros <;> assumption))⟩, ⟨by (with_reducible repeat (first | apply Kd.R_alloc | apply Kd.R_drewN | apply Kd.R_drew)); exact Kd.R_mono HO109.out (fun _ hk => by first | exact ⟨hk.1.2, hk.2⟩ | (revert hk; simp only [and_imp]; intros; and_intros <;> assumption))⟩, ⟨by (with_reducible repeat (first | apply Kd.R_alloc | apply Kd.R_drewN | apply Kd.R_drew)); exact Kd.R_mono HO113.out (fun _ hk => by first | exact ⟨hk.1.2, hk.2⟩ | (revert hk; simp only [and_imp]; intros; and_intros <;> assumption))⟩, ⟨by repeat (first | (with_reducible first | exact HB.out | apply below_alloc | apply pw_below_drewN | apply below_drew1) | exact HB.out)⟩⟩
              · rw [if_neg c19] at H
                have c19b0 : ((t102.length : Int) == (l2.length : Int)) = false := beq_eq_false_iff_ne.mpr c19
                have c19b1 : ((t102.length : Int) != (l2.length : Int)) = true := bne_iff_ne.mpr c19
                have c19b2 : (t102.length == l2.length) = false := by first | simpa using c19 | (simp at c19 ⊢; omega)
                have H' := Aside0.mk H
                clear H
                obtain ⟨Ao26, co26, eo26⟩ := Kd.R_slice HO105.out
                subst eo26
                go_wp2
                repeat (go_quiet (fail); try go_wp2)
                go_meet
                case rel => exact ⟨_, (true), (by first | rfl | (simp; done) | (simp [*]; done)), H', ⟨by first | omega | exact Nat.le_refl _⟩, ⟨by (with_reducible repeat (first | apply Kd.R_alloc | apply Kd.R_drewN | apply Kd.R_drew)); exact Kd.R_mono HO105.out (fun _ hk => by first | exact ⟨hk.1.2, hk.2⟩ | (revert hk; simp only [and_imp]; intros; and_intros <;> assumption))⟩, ⟨by (with_reducible repeat (first | apply Kd.R_alloc | apply Kd.R_drewN | apply Kd.R_drew)); exact Kd.R_mono HO109.out (fun _ hk => by first | exact ⟨hk.1.2, hk.2⟩ | (revert hk; simp only [and_imp]; intros; and_intros <;> assumption))⟩, ⟨by (with_reducible repeat (first | apply Kd.R_alloc | apply Kd.R_drewN | apply Kd.R_drew)); exact Kd.R_mono HO113.out (fun _ hk => by first | exact ⟨hk.1.2, hk.2⟩ | (revert hk; simp only [and_imp]; intros; and_intros <;> assumption))⟩, ⟨by repeat (first | (with_reducible first | exact HB.out | apply below_alloc | apply pw_below_drewN | apply below_drew1) | exact HB.out)⟩⟩
            · rw [if_neg c18] at H
              have c18b0 : (t111 == 0) = false := beq_eq_false_iff_ne.mpr c18
              have c18b1 : (t111 != 0) = true := bne_iff_ne.mpr c18
              have H' := Aside0.mk H
              clear H
              go_wp2
              repeat (go_quiet (fail); try go_wp2)
              go_meet
              case rel => exact ⟨_, (true), (by first | rfl | (simp; done) | (simp [*]; done)), H', ⟨by first | omega | exact Nat.le_refl _⟩, ⟨by (with_reducible repeat (first | apply Kd.R_alloc | apply Kd.R_drewN | apply Kd.R_drew)); exact Kd.R_mono HO105.out (fun _ hk => by first | exact ⟨hk.1.2, hk.2⟩ | (revert hk; simp only [and_imp]; intros; and_intros <;> assumption))⟩, ⟨by (with_reducible repeat (first | apply Kd.R_alloc | apply Kd.R_drewN | apply Kd.R_drew)); exact Kd.R_mono HO109.out (fun _ hk => by first | exact ⟨hk.1.2, hk.2⟩ | (revert hk; simp only [and_imp]; intros; and_intros <;> assumption))⟩, ⟨by (with_reducible repeat (first | apply Kd.R_alloc | apply Kd.R_drewN | apply Kd.R_drew)); exact Kd.R_mono HO113.out (fun _ hk => by first | exact ⟨hk.1.2, hk.2⟩ | (revert hk; simp only [and_imp]; intros; and_intros <;> assumption))⟩, ⟨by repeat (first | (with_reducible first | exact HB.out | apply below_alloc | apply pw_below_drewN | apply below_drew1) | exact HB.out)⟩⟩
          · rw [if_neg c17] at H
            have c17b0 : (t107 == 0) = false := beq_eq_false_iff_ne.mpr c17
            have c17b1 : (t107 != 0) = true := bne_iff_ne.mpr c17
            have H' := Aside0.mk H
            clear H
            go_wp2
            repeat (go_quiet (fail); try go_wp2)
            go_meet
            case rel => exact ⟨_, (true), (by first | rfl | (simp; done) | (simp [*]; done)), H', ⟨by first | omega | exact Nat.le_refl _⟩, ⟨by (with_reducible repeat (first | apply Kd.R_alloc | apply Kd.R_drewN | apply Kd.R_drew)); exact Kd.R_mono HO105.out (fun _ hk => by first | exact ⟨hk.1.2, hk.2⟩ | (revert hk; simp only [and_imp]; intros; and_intros <;> assumption))⟩, ⟨by (with_reducible repeat (first | apply Kd.R_alloc | apply Kd.R_drewN | apply Kd.R_drew)); exact Kd.R_mono HO109.out (fun _ hk => by first | exact ⟨hk.1.2, hk.2⟩ | (revert hk; simp only [and_imp]; intros; and_intros <;> assumption))⟩, ⟨by (with_reducible repeat (first | apply Kd.R_alloc | apply Kd.R_drewN | apply Kd.R_drew)); exact Kd.R_mono HO113.out (fun _ hk => by first | exact ⟨hk.1.2, hk.2⟩ | (revert hk; simp only [and_imp]; intros; and_intros <;> assumption))⟩, ⟨by repeat (first | (with_reducible first | exact HB.out | apply below_alloc | apply pw_below_drewN | apply below_drew1) | exact HB.out)⟩⟩
        · rw [if_neg c16] at H
          have c16b0 : (t103 == 0) = false := beq_eq_false_iff_ne.mpr c16
          have c16b1 : (t103 != 0) = true := bne_iff_ne.mpr c16
          (first | rw [c16b0] | (simp only [i64_w, i32_w]; rw [c16b0]) | skip)
          have H' := Aside0.mk H
          clear H
          go_wp2
          repeat (go_quiet (fail); try go_wp2)
          go_meet
          case rel => exact ⟨_, (true), (by first | rfl | (simp; done) | (simp [*]; done)), H', ⟨by first | omega | exact Nat.le_refl _⟩, ⟨by (with_reducible repeat (first | apply Kd.R_alloc | apply Kd.R_drewN | apply Kd.R_drew)); exact Kd.R_mono HO105.out (fun _ hk => by first | exact ⟨hk.1.2, hk.2⟩ | (revert hk; simp only [and_imp]; intros; and_intros <;> assumption))⟩, ⟨by (with_reducible repeat (first | apply Kd.R_alloc | apply Kd.R_drewN | apply Kd.R_drew)); exact Kd.R_mono HO109.out (fun _ hk => by first | exact ⟨hk.1.2, hk.2⟩ | (revert hk; simp only [and_imp]; intros; and_intros <;> assumption))⟩, ⟨by (with_reducible repeat (first | apply Kd.R_alloc | apply Kd.R_drewN | apply Kd.R_drew)); exact Kd.R_mono HO113.out (fun _ hk => by first | exact ⟨hk.1.2, hk.2⟩ | (revert hk; simp only [and_imp]; intros; and_intros <;> assumption))⟩, ⟨by repeat (first | (with_reducible first | exact HB.out | apply below_alloc | apply pw_below_drewN | apply below_drew1) | exact HB.out)⟩⟩
      case rest =>
        clear HC12
        try clear c1
        try clear c2
        try clear p2
        try clear c4
        try clear c4b0
        try clear c4b1
        try clear c6
        try clear p6
        try clear c11
        try clear c11b0
        try clear c11b1
        try clear c16
        try clear c16b0
        try clear c16b1
        try clear c17
        try clear c17b0
        try clear c17b1
        try clear c18
        try clear c18b0
        try clear c18b1
        try clear c19
        try clear c19b0
        try clear c19b1
        try clear c19b2
        try clear c20
        try clear c20b0
        try clear c20b1
        try clear c20b2
        obtain ⟨kq, x109_11, rfl, HA, HJ11, HO_7, HO_9, HO_11, HB⟩ := hcut
        cases kq with
        | zero => exact absurd HA.out (by simp [penumbralaw44_PpmTurns.j0])
        | succ kj11 =>
          have H := HA.out
          clear HA
          simp only [penumbralaw44_PpmTurns.j0] at H
          by_cases c27 : x109_11 = true
          · subst c27
            have H1 : (some false) = some r := by rw [if_pos rfl] at H; exact H
            clear H
            have H := H1
            clear H1
            exact absurd ((Option.some.inj H).trans hr_) (by decide)
          · replace c27 := Bool.eq_false_iff.mpr c27
            subst c27
            have H1 : (penumbralaw44_PpmTurns.l0 kj11 a0 a1 l2 t102 t106 t110 0) = some r := by rw [if_neg (show ¬ (false = true) by decide)] at H; exact H
            clear H
            have H := H1
            clear H1
            have H' := Aside0.mk H
            clear H
            go_wp2
            repeat (go_quiet (fail); try go_wp2)
            go_loopg [14] kj11 (fun kq v14 w' => ∃ (x14_2 : Int), v14 = .int .i64 x14_2 ∧ Aside0 (penumbralaw44_PpmTurns.l0 kq a0 a1 l2 t102 t106 t110 x14_2 = some r) ∧ Aside0 (kq ≤ kj11) ∧ Aside0 (Kd.R (Kd.int .u8) 5 w' w.heap.size (fun k_ => some k_ ≠ (v108 : Value).ownBlock ∧ some k_ ≠ (v112 : Value).ownBlock) v104 t102) ∧ Aside0 (Kd.R (Kd.int .u8) 5 w' w.heap.size (fun k_ => some k_ ≠ (v104 : Value).ownBlock ∧ some k_ ≠ (v112 : Value).ownBlock) v108 t106) ∧ Aside0 (Kd.R (Kd.int .u8) 5 w' w.heap.size (fun k_ => some k_ ≠ (v104 : Value).ownBlock ∧ some k_ ≠ (v108 : Value).ownBlock) v112 t110) ∧ Aside0 (Below w.heap.size w w'))
            case atStart => exact ⟨(0), (by first | rfl | (simp; done) | (simp [*]; done)), H', ⟨Nat.le_refl _⟩, ⟨by (with_reducible repeat (first | apply Kd.R_alloc | apply Kd.R_drewN | apply Kd.R_drew)); exact HO_7.out⟩, ⟨by (with_reducible repeat (first | apply Kd.R_alloc | apply Kd.R_drewN | apply Kd.R_drew)); exact HO_9.out⟩, ⟨by (with_reducible repeat (first | apply Kd.R_alloc | apply Kd.R_drewN | apply Kd.R_drew)); exact HO_11.out⟩, ⟨by repeat (first | (with_reducible first | exact HB.out | apply below_alloc | apply pw_below_drewN | apply below_drew1) | exact HB.out)⟩⟩
            case round =>
              clear H'
              try clear c1
              try clear c2
              try clear p2
              try clear c4
              try clear c4b0
              try clear c4b1
              try clear c6
              try clear p6
              try clear c11
              try clear c11b0
              try clear c11b1
              try clear c16
              try clear c16b0
              try clear c16b1
              try clear c17
              try clear c17b0
              try clear c17b1
              try clear c18
              try clear c18b0
              try clear c18b1
              try clear c19
              try clear c19b0
              try clear c19b1
              try clear c19b2
              try clear c20
              try clear c20b0
              try clear c20b1
              try clear c20b2
              try clear c27
              try clear p2
              try clear p6
              obtain ⟨x14_2, rfl, HA, HK2, HO_7, HO_9, HO_11, HB⟩ := hrel
              cases gk with
              | zero => exact absurd HA.out (by simp [penumbralaw44_PpmTurns.l0])
              | succ k2 =>
                have H := HA.out
                clear HA
                simp only [penumbralaw44_PpmTurns.l0] at H
                by_cases c28 : x14_2 < (l2.length : Int)
                · rw [if_pos c28] at H
                  have c28b0 : decide (x14_2 < (l2.length : Int)) = true := decide_eq_true c28
                  clear c28
                  by_cases c29 : a0 = 0
                  · rw [if_pos c29] at H
                    exact absurd H (by simp)
                  · rw [if_neg c29] at H
                    have c29b0 : (a0 == 0) = false := beq_eq_false_iff_ne.mpr c29
                    have c29b1 : (a0 != 0) = true := bne_iff_ne.mpr c29
                    by_cases c30 : a1 = 0
                    · rw [if_pos c30] at H
                      exact absurd H (by simp)
                    · rw [if_neg c30] at H
                      have c30b0 : (a1 == 0) = false := beq_eq_false_iff_ne.mpr c30
                      have c30b1 : (a1 != 0) = true := bne_iff_ne.mpr c30
                      obtain ⟨ji31, hji31⟩ : ∃ j_ : Int, (wrap64 (3 * (wrap64 (Int.tdiv x14_2 3)))) = j_ := ⟨_, rfl⟩
                      replace H : (if 0 ≤ (ji31) then (if (ji31) < (l2.length : Int) then (if 0 ≤ (wrap64 ((ji31) + 1)) then (if (wrap64 ((ji31) + 1)) < (l2.length : Int) then (if 0 ≤ (wrap64 ((ji31) + 2)) then (if (wrap64 ((ji31) + 2)) < (l2.length : Int) then (if 0 ≤ x14_2 then (if x14_2 < (t102.length : Int) then (if 0 ≤ (wrap64 ((wrap64 (3 * (wrap64 ((wrap64 ((wrap64 ((wrap64 ((wrap64 (Int.tdiv (wrap64 (Int.tdiv x14_2 3)) a0)) * a0)) + a0)) - 1)) - (Int.tmod (wrap64 (Int.tdiv x14_2 3)) a0))))) + (Int.tmod x14_2 3))) then (if (wrap64 ((wrap64 (3 * (wrap64 ((wrap64 ((wrap64 ((wrap64 ((wrap64 (Int.tdiv (wrap64 (Int.tdiv x14_2 3)) a0)) * a0)) + a0)) - 1)) - (Int.tmod (wrap64 (Int.tdiv x14_2 3)) a0))))) + (Int.tmod x14_2 3))) < (l2.length : Int) then (if (rd t102 x14_2) = (rd l2 (wrap64 ((wrap64 (3 * (wrap64 ((wrap64 ((wrap64 ((wrap64 ((wrap64 (Int.tdiv (wrap64 (Int.tdiv x14_2 3)) a0)) * a0)) + a0)) - 1)) - (Int.tmod (wrap64 (Int.tdiv x14_2 3)) a0))))) + (Int.tmod x14_2 3)))) then (if x14_2 < (t106.length : Int) then (if 0 ≤ (wrap64 ((wrap64 (3 * (wrap64 ((wrap64 ((wrap64 ((wrap64 (a1 - 1)) - (Int.tmod (wrap64 (Int.tdiv x14_2 3)) a1))) * a0)) + (wrap64 (Int.tdiv (wrap64 (Int.tdiv x14_2 3)) a1)))))) + (Int.tmod x14_2 3))) then (if (wrap64 ((wrap64 (3 * (wrap64 ((wrap64 ((wrap64 ((wrap64 (a1 - 1)) - (Int.tmod (wrap64 (Int.tdiv x14_2 3)) a1))) * a0)) + (wrap64 (Int.tdiv (wrap64 (Int.tdiv x14_2 3)) a1)))))) + (Int.tmod x14_2 3))) < (l2.length : Int) then (if (rd t106 x14_2) = (rd l2 (wrap64 ((wrap64 (3 * (wrap64 ((wrap64 ((wrap64 ((wrap64 (a1 - 1)) - (Int.tmod (wrap64 (Int.tdiv x14_2 3)) a1))) * a0)) + (wrap64 (Int.tdiv (wrap64 (Int.tdiv x14_2 3)) a1)))))) + (Int.tmod x14_2 3)))) then (if x14_2 < (t110.length : Int) then (if (wrap64 (rd t110 x14_2)) = (wrap64 (Int.tdiv (wrap64 ((wrap64 ((wrap64 (rd l2 (ji31))) + (wrap64 (rd l2 (wrap64 ((ji31) + 1)))))) + (wrap64 (rd l2 (wrap64 ((ji31) + 2)))))) 3)) then (penumbralaw44_PpmTurns.l0 k2 a0 a1 l2 t102 t106 t110 (wrap64 (x14_2 + 1))) else (some false)) else (none)) else (some false)) else (none)) else (none)) else (none)) else (some false)) else (none)) else (none)) else (none)) else (none)) else (none)) else (none)) else (none)) else (none)) else (none)) else (none)) = some r := by first | (rw [hji31] at H; exact H) | (simp only [hji31] at H ⊢; exact H)
                      have hji31w : (IntKind.i64.wrap (3 * (wrap64 (Int.tdiv x14_2 3)))) = ji31 := (i64_w _).trans hji31
                      by_cases c32 : 0 ≤ (ji31)
                      · rw [if_pos c32] at H
                        have c32b0 : decide (0 ≤ (ji31)) = true := decide_eq_true c32
                        clear c32
                        by_cases c33 : (ji31) < (l2.length : Int)
                        · rw [if_pos c33] at H
                          have c33b0 : decide ((ji31) < (l2.length : Int)) = true := decide_eq_true c33
                          clear c33
                          obtain ⟨ji34, hji34⟩ : ∃ j_ : Int, (wrap64 ((ji31) + 1)) = j_ := ⟨_, rfl⟩
                          replace H : (if 0 ≤ (ji34) then (if (ji34) < (l2.length : Int) then (if 0 ≤ (wrap64 ((ji31) + 2)) then (if (wrap64 ((ji31) + 2)) < (l2.length : Int) then (if 0 ≤ x14_2 then (if x14_2 < (t102.length : Int) then (if 0 ≤ (wrap64 ((wrap64 (3 * (wrap64 ((wrap64 ((wrap64 ((wrap64 ((wrap64 (Int.tdiv (wrap64 (Int.tdiv x14_2 3)) a0)) * a0)) + a0)) - 1)) - (Int.tmod (wrap64 (Int.tdiv x14_2 3)) a0))))) + (Int.tmod x14_2 3))) then (if (wrap64 ((wrap64 (3 * (wrap64 ((wrap64 ((wrap64 ((wrap64 ((wrap64 (Int.tdiv (wrap64 (Int.tdiv x14_2 3)) a0)) * a0)) + a0)) - 1)) - (Int.tmod (wrap64 (Int.tdiv x14_2 3)) a0))))) + (Int.tmod x14_2 3))) < (l2.length : Int) then (if (rd t102 x14_2) = (rd l2 (wrap64 ((wrap64 (3 * (wrap64 ((wrap64 ((wrap64 ((wrap64 ((wrap64 (Int.tdiv (wrap64 (Int.tdiv x14_2 3)) a0)) * a0)) + a0)) - 1)) - (Int.tmod (wrap64 (Int.tdiv x14_2 3)) a0))))) + (Int.tmod x14_2 3)))) then (if x14_2 < (t106.length : Int) then (if 0 ≤ (wrap64 ((wrap64 (3 * (wrap64 ((wrap64 ((wrap64 ((wrap64 (a1 - 1)) - (Int.tmod (wrap64 (Int.tdiv x14_2 3)) a1))) * a0)) + (wrap64 (Int.tdiv (wrap64 (Int.tdiv x14_2 3)) a1)))))) + (Int.tmod x14_2 3))) then (if (wrap64 ((wrap64 (3 * (wrap64 ((wrap64 ((wrap64 ((wrap64 (a1 - 1)) - (Int.tmod (wrap64 (Int.tdiv x14_2 3)) a1))) * a0)) + (wrap64 (Int.tdiv (wrap64 (Int.tdiv x14_2 3)) a1)))))) + (Int.tmod x14_2 3))) < (l2.length : Int) then (if (rd t106 x14_2) = (rd l2 (wrap64 ((wrap64 (3 * (wrap64 ((wrap64 ((wrap64 ((wrap64 (a1 - 1)) - (Int.tmod (wrap64 (Int.tdiv x14_2 3)) a1))) * a0)) + (wrap64 (Int.tdiv (wrap64 (Int.tdiv x14_2 3)) a1)))))) + (Int.tmod x14_2 3)))) then (if x14_2 < (t110.length : Int) then (if (wrap64 (rd t110 x14_2)) = (wrap64 (Int.tdiv (wrap64 ((wrap64 ((wrap64 (rd l2 (ji31))) + (wrap64 (rd l2 (ji34))))) + (wrap64 (rd l2 (wrap64 ((ji31) + 2)))))) 3)) then (penumbralaw44_PpmTurns.l0 k2 a0 a1 l2 t102 t106 t110 (wrap64 (x14_2 + 1))) else (some false)) else (none)) else (some false)) else (none)) else (none)) else (none)) else (some false)) else (none)) else (none)) else (none)) else (none)) else (none)) else (none)) else (none)) else (none)) = some r := by first | (rw [hji34] at H; exact H) | (simp only [hji34] at H ⊢; exact H)
                          have hji34w : (IntKind.i64.wrap ((ji31) + 1)) = ji34 := (i64_w _).trans hji34
                          by_cases c35 : 0 ≤ (ji34)
                          · rw [if_pos c35] at H
                            have c35b0 : decide (0 ≤ (ji34)) = true := decide_eq_true c35
                            clear c35
                            by_cases c36 : (ji34) < (l2.length : Int)
                            · rw [if_pos c36] at H
                              have c36b0 : decide ((ji34) < (l2.length : Int)) = true := decide_eq_true c36
                              clear c36
                              obtain ⟨ji37, hji37⟩ : ∃ j_ : Int, (wrap64 ((ji31) + 2)) = j_ := ⟨_, rfl⟩
                              replace H : (if 0 ≤ (ji37) then (if (ji37) < (l2.length : Int) then (if 0 ≤ x14_2 then (if x14_2 < (t102.length : Int) then (if 0 ≤ (wrap64 ((wrap64 (3 * (wrap64 ((wrap64 ((wrap64 ((wrap64 ((wrap64 (Int.tdiv (wrap64 (Int.tdiv x14_2 3)) a0)) * a0)) + a0)) - 1)) - (Int.tmod (wrap64 (Int.tdiv x14_2 3)) a0))))) + (Int.tmod x14_2 3))) then (if (wrap64 ((wrap64 (3 * (wrap64 ((wrap64 ((wrap64 ((wrap64 ((wrap64 (Int.tdiv (wrap64 (Int.tdiv x14_2 3)) a0)) * a0)) + a0)) - 1)) - (Int.tmod (wrap64 (Int.tdiv x14_2 3)) a0))))) + (Int.tmod x14_2 3))) < (l2.length : Int) then (if (rd t102 x14_2) = (rd l2 (wrap64 ((wrap64 (3 * (wrap64 ((wrap64 ((wrap64 ((wrap64 ((wrap64 (Int.tdiv (wrap64 (Int.tdiv x14_2 3)) a0)) * a0)) + a0)) - 1)) - (Int.tmod (wrap64 (Int.tdiv x14_2 3)) a0))))) + (Int.tmod x14_2 3)))) then (if x14_2 < (t106.length : Int) then (if 0 ≤ (wrap64 ((wrap64 (3 * (wrap64 ((wrap64 ((wrap64 ((wrap64 (a1 - 1)) - (Int.tmod (wrap64 (Int.tdiv x14_2 3)) a1))) * a0)) + (wrap64 (Int.tdiv (wrap64 (Int.tdiv x14_2 3)) a1)))))) + (Int.tmod x14_2 3))) then (if (wrap64 ((wrap64 (3 * (wrap64 ((wrap64 ((wrap64 ((wrap64 (a1 - 1)) - (Int.tmod (wrap64 (Int.tdiv x14_2 3)) a1))) * a0)) + (wrap64 (Int.tdiv (wrap64 (Int.tdiv x14_2 3)) a1)))))) + (Int.tmod x14_2 3))) < (l2.length : Int) then (if (rd t106 x14_2) = (rd l2 (wrap64 ((wrap64 (3 * (wrap64 ((wrap64 ((wrap64 ((wrap64 (a1 - 1)) - (Int.tmod (wrap64 (Int.tdiv x14_2 3)) a1))) * a0)) + (wrap64 (Int.tdiv (wrap64 (Int.tdiv x14_2 3)) a1)))))) + (Int.tmod x14_2 3)))) then (if x14_2 < (t110.length : Int) then (if (wrap64 (rd t110 x14_2)) = (wrap64 (Int.tdiv (wrap64 ((wrap64 ((wrap64 (rd l2 (ji31))) + (wrap64 (rd l2 (ji34))))) + (wrap64 (rd l2 (ji37))))) 3)) then (penumbralaw44_PpmTurns.l0 k2 a0 a1 l2 t102 t106 t110 (wrap64 (x14_2 + 1))) else (some false)) else (none)) else (some false)) else (none)) else (none)) else (none)) else (some false)) else (none)) else (none)) else (none)) else (none)) else (none)) else (none)) = some r := by first | (rw [hji37] at H; exact H) | (simp only [hji37] at H ⊢; exact H)
                              have hji37w : (IntKind.i64.wrap ((ji31) + 2)) = ji37 := (i64_w _).trans hji37
                              by_cases c38 : 0 ≤ (ji37)
                              · rw [if_pos c38] at H
                                have c38b0 : decide (0 ≤ (ji37)) = true := decide_eq_true c38
                                clear c38
                                by_cases c39 : (ji37) < (l2.length : Int)
                                · rw [if_pos c39] at H
                                  have c39b0 : decide ((ji37) < (l2.length : Int)) = true := decide_eq_true c39
                                  clear c39
                                  by_cases c40 : 0 ≤ x14_2
                                  · rw [if_pos c40] at H
                                    have c40b0 : decide (0 ≤ x14_2) = true := decide_eq_true c40
                                    clear c40
                                    by_cases c41 : x14_2 < (t102.length : Int)
                                    · rw [if_pos c41] at H
                                      have c41b0 : decide (x14_2 < (t102.length : Int)) = true := decide_eq_true c41
                                      clear c41
                                      obtain ⟨ji42, hji42⟩ : ∃ j_ : Int, (wrap64 ((wrap64 (3 * (wrap64 ((wrap64 ((wrap64 ((wrap64 ((wrap64 (Int.tdiv (wrap64 (Int.tdiv x14_2 3)) a0)) * a0)) + a0)) - 1)) - (Int.tmod (wrap64 (Int.tdiv x14_2 3)) a0))))) + (Int.tmod x14_2 3))) = j_ := ⟨_, rfl⟩
                                      replace H : (if 0 ≤ (ji42) then (if (ji42) < (l2.length : Int) then (if (rd t102 x14_2) = (rd l2 (ji42)) then (if x14_2 < (t106.length : Int) then (if 0 ≤ (wrap64 ((wrap64 (3 * (wrap64 ((wrap64 ((wrap64 ((wrap64 (a1 - 1)) - (Int.tmod (wrap64 (Int.tdiv x14_2 3)) a1))) * a0)) + (wrap64 (Int.tdiv (wrap64 (Int.tdiv x14_2 3)) a1)))))) + (Int.tmod x14_2 3))) then (if (wrap64 ((wrap64 (3 * (wrap64 ((wrap64 ((wrap64 ((wrap64 (a1 - 1)) - (Int.tmod (wrap64 (Int.tdiv x14_2 3)) a1))) * a0)) + (wrap64 (Int.tdiv (wrap64 (Int.tdiv x14_2 3)) a1)))))) + (Int.tmod x14_2 3))) < (l2.length : Int) then (if (rd t106 x14_2) = (rd l2 (wrap64 ((wrap64 (3 * (wrap64 ((wrap64 ((wrap64 ((wrap64 (a1 - 1)) - (Int.tmod (wrap64 (Int.tdiv x14_2 3)) a1))) * a0)) + (wrap64 (Int.tdiv (wrap64 (Int.tdiv x14_2 3)) a1)))))) + (Int.tmod x14_2 3)))) then (if x14_2 < (t110.length : Int) then (if (wrap64 (rd t110 x14_2)) = (wrap64 (Int.tdiv (wrap64 ((wrap64 ((wrap64 (rd l2 (ji31))) + (wrap64 (rd l2 (ji34))))) + (wrap64 (rd l2 (ji37))))) 3)) then (penumbralaw44_PpmTurns.l0 k2 a0 a1 l2 t102 t106 t110 (wrap64 (x14_2 + 1))) else (some false)) else (none)) else (some false)) else (none)) else (none)) else (none)) else (some false)) else (none)) else (none)) = some r := by first | (rw [hji42] at H; exact H) | (simp only [hji42] at H ⊢; exact H)
                                      have hji42w : (IntKind.i64.wrap ((wrap64 (3 * (wrap64 ((wrap64 ((wrap64 ((wrap64 ((wrap64 (Int.tdiv (wrap64 (Int.tdiv x14_2 3)) a0)) * a0)) + a0)) - 1)) - (Int.tmod (wrap64 (Int.tdiv x14_2 3)) a0))))) + (Int.tmod x14_2 3))) = ji42 := (i64_w _).trans hji42
                                      by_cases c43 : 0 ≤ (ji42)
                                      · rw [if_pos c43] at H
                                        have c43b0 : decide (0 ≤ (ji42)) = true := decide_eq_true c43
                                        clear c43
                                        by_cases c44 : (ji42) < (l2.length : Int)
                                        · rw [if_pos c44] at H
                                          have c44b0 : decide ((ji42) < (l2.length : Int)) = true := decide_eq_true c44
                                          clear c44
                                          by_cases c45 : (rd t102 x14_2) = (rd l2 (ji42))
                                          · rw [if_pos c45] at H
                                            have c45b0 : ((rd t102 x14_2) == (rd l2 (ji42))) = true := beq_iff_eq.mpr c45
                                            have c45b1 : ((rd t102 x14_2) != (rd l2 (ji42))) = false := bne_eq_false_iff_eq.mpr c45
                                            clear c45
                                            by_cases c46 : x14_2 < (t106.length : Int)
                                            · rw [if_pos c46] at H
                                              have c46b0 : decide (x14_2 < (t106.length : Int)) = true := decide_eq_true c46
                                              clear c46
                                              obtain ⟨ji47, hji47⟩ : ∃ j_ : Int, (wrap64 ((wrap64 (3 * (wrap64 ((wrap64 ((wrap64 ((wrap64 (a1 - 1)) - (Int.tmod (wrap64 (Int.tdiv x14_2 3)) a1))) * a0)) + (wrap64 (Int.tdiv (wrap64 (Int.tdiv x14_2 3)) a1)))))) + (Int.tmod x14_2 3))) = j_ := ⟨_, rfl⟩
                                              replace H : (if 0 ≤ (ji47) then (if (ji47) < (l2.length : Int) then (if (rd t106 x14_2) = (rd l2 (ji47)) then (if x14_2 < (t110.length : Int) then (if (wrap64 (rd t110 x14_2)) = (wrap64 (Int.tdiv (wrap64 ((wrap64 ((wrap64 (rd l2 (ji31))) + (wrap64 (rd l2 (ji34))))) + (wrap64 (rd l2 (ji37))))) 3)) then (penumbralaw44_PpmTurns.l0 k2 a0 a1 l2 t102 t106 t110 (wrap64 (x14_2 + 1))) else (some false)) else (none)) else (some false)) else (none)) else (none)) = some r := by first | (rw [hji47] at H; exact H) | (simp only [hji47] at H ⊢; exact H)
                                              have hji47w : (IntKind.i64.wrap ((wrap64 (3 * (wrap64 ((wrap64 ((wrap64 ((wrap64 (a1 - 1)) - (Int.tmod (wrap64 (Int.tdiv x14_2 3)) a1))) * a0)) + (wrap64 (Int.tdiv (wrap64 (Int.tdiv x14_2 3)) a1)))))) + (Int.tmod x14_2 3))) = ji47 := (i64_w _).trans hji47
                                              by_cases c48 : 0 ≤ (ji47)
                                              · rw [if_pos c48] at H
                                                have c48b0 : decide (0 ≤ (ji47)) = true := decide_eq_true c48
                                                clear c48
                                                by_cases c49 : (ji47) < (l2.length : Int)
                                                · rw [if_pos c49] at H
                                                  have c49b0 : decide ((ji47) < (l2.length : Int)) = true := decide_eq_true c49
                                                  clear c49
                                                  by_cases c50 : (rd t106 x14_2) = (rd l2 (ji47))
                                                  · rw [if_pos c50] at H
                                                    have c50b0 : ((rd t106 x14_2) == (rd l2 (ji47))) = true := beq_iff_eq.mpr c50
                                                    have c50b1 : ((rd t106 x14_2) != (rd l2 (ji47))) = false := bne_eq_false_iff_eq.mpr c50
                                                    clear c50
                                                    by_cases c51 : x14_2 < (t110.length : Int)
                                                    · rw [if_pos c51] at H
                                                      have c51b0 : decide (x14_2 < (t110.length : Int)) = true := decide_eq_true c51
                                                      clear c51
                                                      by_cases c52 : (wrap64 (rd t110 x14_2)) = (wrap64 (Int.tdiv (wrap64 ((wrap64 ((wrap64 (rd l2 (ji31))) + (wrap64 (rd l2 (ji34))))) + (wrap64 (rd l2 (ji37))))) 3))
                                                      · rw [if_pos c52] at H
                                                        have c52b0 : ((wrap64 (rd t110 x14_2)) == (wrap64 (Int.tdiv (wrap64 ((wrap64 ((wrap64 (rd l2 (ji31))) + (wrap64 (rd l2 (ji34))))) + (wrap64 (rd l2 (ji37))))) 3))) = true := beq_iff_eq.mpr c52
                                                        have c52b1 : ((wrap64 (rd t110 x14_2)) != (wrap64 (Int.tdiv (wrap64 ((wrap64 ((wrap64 (rd l2 (ji31))) + (wrap64 (rd l2 (ji34))))) + (wrap64 (rd l2 (ji37))))) 3))) = false := bne_eq_false_iff_eq.mpr c52
                                                        clear c52
                                                        have H' := Aside0.mk H
                                                        clear H
                                                        have p116 : 0 ≤ ((ji31) : Int) := of_decide_eq_true (by first | (with_reducible assumption) | assumption)
                                                        have q116 : (ji31) < (l2.length : Int) := of_decide_eq_true (by first | (with_reducible assumption) | assumption)
                                                        obtain ⟨ad116, e116, hx116_0⟩ := Kd.at_int HR2.out (ji31) p116 q116
                                                        cases e116
                                                        replace hx116_0 := (HB.out.cell (World.block_lt_of_cell? w _ hx116_0)).trans hx116_0
                                                        replace p116 := eq_true p116
                                                        replace q116 := eq_true q116
                                                        have p117 : 0 ≤ ((ji34) : Int) := of_decide_eq_true (by first | (with_reducible assumption) | assumption)
                                                        have q117 : (ji34) < (l2.length : Int) := of_decide_eq_true (by first | (with_reducible assumption) | assumption)
                                                        obtain ⟨ad117, e117, hx117_0⟩ := Kd.at_int HR2.out (ji34) p117 q117
                                                        obtain rfl : ad116 = ad117 := (by injection e117)
                                                        replace hx117_0 := (HB.out.cell (World.block_lt_of_cell? w _ hx117_0)).trans hx117_0
                                                        replace p117 := eq_true p117
                                                        replace q117 := eq_true q117
                                                        have p118 : 0 ≤ ((ji37) : Int) := of_decide_eq_true (by first | (with_reducible assumption) | assumption)
                                                        have q118 : (ji37) < (l2.length : Int) := of_decide_eq_true (by first | (with_reducible assumption) | assumption)
                                                        obtain ⟨ad118, e118, hx118_0⟩ := Kd.at_int HR2.out (ji37) p118 q118
                                                        obtain rfl : ad116 = ad118 := (by injection e118)
                                                        replace hx118_0 := (HB.out.cell (World.block_lt_of_cell? w _ hx118_0)).trans hx118_0
                                                        replace p118 := eq_true p118
                                                        replace q118 := eq_true q118
                                                        obtain ⟨Ao53, co53, eo53⟩ := Kd.R_slice HO_7.out
                                                        subst eo53
                                                        have p119 : 0 ≤ (x14_2 : Int) := of_decide_eq_true (by first | (with_reducible assumption) | assumption)
                                                        have q119 : x14_2 < (t102.length : Int) := of_decide_eq_true (by first | (with_reducible assumption) | assumption)
                                                        obtain ⟨ad119, e119, hx119_0⟩ := Kd.at_int (Kd.R_reads' HO_7.out).2.2 x14_2 p119 q119
                                                        cases e119
                                                        replace p119 := eq_true p119
                                                        replace q119 := eq_true q119
                                                        have p120 : 0 ≤ ((ji42) : Int) := of_decide_eq_true (by first | (with_reducible assumption) | assumption)
                                                        have q120 : (ji42) < (l2.length : Int) := of_decide_eq_true (by first | (with_reducible assumption) | assumption)
                                                        obtain ⟨ad120, e120, hx120_0⟩ := Kd.at_int HR2.out (ji42) p120 q120
                                                        obtain rfl : ad116 = ad120 := (by injection e120)
                                                        replace hx120_0 := (HB.out.cell (World.block_lt_of_cell? w _ hx120_0)).trans hx120_0
                                                        replace p120 := eq_true p120
                                                        replace q120 := eq_true q120
                                                        obtain ⟨Ao54, co54, eo54⟩ := Kd.R_slice HO_9.out
                                                        subst eo54
                                                        have p121 : 0 ≤ (x14_2 : Int) := of_decide_eq_true (by first | (with_reducible assumption) | assumption)
                                                        have q121 : x14_2 < (t106.length : Int) := of_decide_eq_true (by first | (with_reducible assumption) | assumption)
                                                        obtain ⟨ad121, e121, hx121_0⟩ := Kd.at_int (Kd.R_reads' HO_9.out).2.2 x14_2 p121 q121
                                                        cases e121
                                                        replace p121 := eq_true p121
                                                        replace q121 := eq_true q121
                                                        have p122 : 0 ≤ ((ji47) : Int) := of_decide_eq_true (by first | (with_reducible assumption) | assumption)
                                                        have q122 : (ji47) < (l2.length : Int) := of_decide_eq_true (by first | (with_reducible assumption) | assumption)
                                                        obtain ⟨ad122, e122, hx122_0⟩ := Kd.at_int HR2.out (ji47) p122 q122
                                                        obtain rfl : ad116 = ad122 := (by injection e122)
                                                        replace hx122_0 := (HB.out.cell (World.block_lt_of_cell? w _ hx122_0)).trans hx122_0
                                                        replace p122 := eq_true p122
                                                        replace q122 := eq_true q122
                                                        obtain ⟨Ao55, co55, eo55⟩ := Kd.R_slice HO_11.out
                                                        subst eo55
                                                        have p123 : 0 ≤ (x14_2 : Int) := of_decide_eq_true (by first | (with_reducible assumption) | assumption)
                                                        have q123 : x14_2 < (t110.length : Int) := of_decide_eq_true (by first | (with_reducible assumption) | assumption)
                                                        obtain ⟨ad123, e123, hx123_0⟩ := Kd.at_int (Kd.R_reads' HO_11.out).2.2 x14_2 p123 q123
                                                        cases e123
                                                        replace p123 := eq_true p123
                                                        replace q123 := eq_true q123
                                                        go_wp2
                                                        repeat (go_quiet (fail); try go_wp2)
                                                        go_roundg k2
                                                        case measure => have := HJ11.out; have := HK2.out; omega
                                                        case rel => exact ⟨(wrap64 (x14_2 + 1)), (by first | rfl | (simp; done) | (simp [*]; done)), H', ⟨by have := HJ11.out; have := HK2.out; omega⟩, ⟨by (with_reducible repeat (first | apply Kd.R_alloc | apply Kd.R_drewN | apply Kd.R_drew)); exact HO_7.out⟩, ⟨by (with_reducible repeat (first | apply Kd.R_alloc | apply Kd.R_drewN | apply Kd.R_drew)); exact HO_9.out⟩, ⟨by (with_reducible repeat (first | apply Kd.R_alloc | apply Kd.R_drewN | apply Kd.R_drew)); exact HO_11.out⟩, ⟨by repeat (first | (with_reducible first | exact HB.out | apply below_alloc | apply pw_below_drewN | apply below_drew1) | exact HB.out)⟩⟩
                                                      · rw [if_neg c52] at H
                                                        have c52b0 : ((wrap64 (rd t110 x14_2)) == (wrap64 (Int.tdiv (wrap64 ((wrap64 ((wrap64 (rd l2 (ji31))) + (wrap64 (rd l2 (ji34))))) + (wrap64 (rd l2 (ji37))))) 3))) = false := beq_eq_false_iff_ne.mpr c52
                                                        have c52b1 : ((wrap64 (rd t110 x14_2)) != (wrap64 (Int.tdiv (wrap64 ((wrap64 ((wrap64 (rd l2 (ji31))) + (wrap64 (rd l2 (ji34))))) + (wrap64 (rd l2 (ji37))))) 3))) = true := bne_iff_ne.mpr c52
                                                        exact absurd ((Option.some.inj H).trans hr_) (by decide)
                                                    · rw [if_neg c51] at H
                                                      exact absurd H (by simp)
                                                  · rw [if_neg c50] at H
                                                    have c50b0 : ((rd t106 x14_2) == (rd l2 (ji47))) = false := beq_eq_false_iff_ne.mpr c50
                                                    have c50b1 : ((rd t106 x14_2) != (rd l2 (ji47))) = true := bne_iff_ne.mpr c50
                                                    exact absurd ((Option.some.inj H).trans hr_) (by decide)
                                                · rw [if_neg c49] at H
                                                  exact absurd H (by simp)
                                              · rw [if_neg c48] at H
                                                exact absurd H (by simp)
                                            · rw [if_neg c46] at H
                                              exact absurd H (by simp)
                                          · rw [if_neg c45] at H
                                            have c45b0 : ((rd t102 x14_2) == (rd l2 (ji42))) = false := beq_eq_false_iff_ne.mpr c45
                                            have c45b1 : ((rd t102 x14_2) != (rd l2 (ji42))) = true := bne_iff_ne.mpr c45
                                            exact absurd ((Option.some.inj H).trans hr_) (by decide)
                                        · rw [if_neg c44] at H
                                          exact absurd H (by simp)
                                      · rw [if_neg c43] at H
                                        exact absurd H (by simp)
                                    · rw [if_neg c41] at H
                                      exact absurd H (by simp)
                                  · rw [if_neg c40] at H
                                    exact absurd H (by simp)
                                · rw [if_neg c39] at H
                                  exact absurd H (by simp)
                              · rw [if_neg c38] at H
                                exact absurd H (by simp)
                            · rw [if_neg c36] at H
                              exact absurd H (by simp)
                          · rw [if_neg c35] at H
                            exact absurd H (by simp)
                        · rw [if_neg c33] at H
                          exact absurd H (by simp)
                      · rw [if_neg c32] at H
                        exact absurd H (by simp)
                · rw [if_neg c28] at H
                  have c28b0 : decide (x14_2 < (l2.length : Int)) = false := decide_eq_false c28
                  clear c28
                  replace H := Option.bind_eq_some_iff.mp H
                  obtain ⟨t124, A560, H⟩ := H
                  replace H : (some t124) = some r := H
                  have A56 := Aside0.mk A560
                  clear A560
                  obtain rfl := Option.some.inj H
                  go_wp2_with (first | (go_at_call 7; (with_reducible refine (penumbralaw44_awake.calls k2  t124 _ A56.out).mono ?_); rintro e w57 ⟨rfl, hb⟩; have n0_ := Aside0.mk (Kd.R_below (by (with_reducible repeat (first | apply Kd.R_alloc | apply Kd.R_drewN | apply Kd.R_drew)); exact HO_7.out) hb); have n1_ := Aside0.mk (Kd.R_below (by (with_reducible repeat (first | apply Kd.R_alloc | apply Kd.R_drewN | apply Kd.R_drew)); exact HO_9.out) hb); have n2_ := Aside0.mk (Kd.R_below (by (with_reducible repeat (first | apply Kd.R_alloc | apply Kd.R_drewN | apply Kd.R_drew)); exact HO_11.out) hb); have n3_ := Aside0.mk (below_step (by repeat (first | (with_reducible first | exact HB.out | apply below_alloc | apply pw_below_drewN | apply below_drew1) | exact HB.out)) hb); clear HO_7; clear HO_9; clear HO_11; clear HB; have HO_7 := n0_; have HO_9 := n1_; have HO_11 := n2_; have HB := n3_; clear n0_ n1_ n2_ n3_; (try clear hb); (try clear hb2); (try clear hk); (try clear hi); (try clear A56)))
                  repeat (go_quiet (first | (go_at_call 7; (with_reducible refine (penumbralaw44_awake.calls k2  t124 _ A56.out).mono ?_); rintro e w57 ⟨rfl, hb⟩; have n0_ := Aside0.mk (Kd.R_below (by (with_reducible repeat (first | apply Kd.R_alloc | apply Kd.R_drewN | apply Kd.R_drew)); exact HO_7.out) hb); have n1_ := Aside0.mk (Kd.R_below (by (with_reducible repeat (first | apply Kd.R_alloc | apply Kd.R_drewN | apply Kd.R_drew)); exact HO_9.out) hb); have n2_ := Aside0.mk (Kd.R_below (by (with_reducible repeat (first | apply Kd.R_alloc | apply Kd.R_drewN | apply Kd.R_drew)); exact HO_11.out) hb); have n3_ := Aside0.mk (below_step (by repeat (first | (with_reducible first | exact HB.out | apply below_alloc | apply pw_below_drewN | apply below_drew1) | exact HB.out)) hb); clear HO_7; clear HO_9; clear HO_11; clear HB; have HO_7 := n0_; have HO_9 := n1_; have HO_11 := n2_; have HB := n3_; clear n0_ n1_ n2_ n3_; (try clear hb); (try clear hb2); (try clear hk); (try clear hi); (try clear A56))); try go_wp2_with (first | (go_at_call 7; (with_reducible refine (penumbralaw44_awake.calls k2  t124 _ A56.out).mono ?_); rintro e w57 ⟨rfl, hb⟩; have n0_ := Aside0.mk (Kd.R_below (by (with_reducible repeat (first | apply Kd.R_alloc | apply Kd.R_drewN | apply Kd.R_drew)); exact HO_7.out) hb); have n1_ := Aside0.mk (Kd.R_below (by (with_reducible repeat (first | apply Kd.R_alloc | apply Kd.R_drewN | apply Kd.R_drew)); exact HO_9.out) hb); have n2_ := Aside0.mk (Kd.R_below (by (with_reducible repeat (first | apply Kd.R_alloc | apply Kd.R_drewN | apply Kd.R_drew)); exact HO_11.out) hb); have n3_ := Aside0.mk (below_step (by repeat (first | (with_reducible first | exact HB.out | apply below_alloc | apply pw_below_drewN | apply below_drew1) | exact HB.out)) hb); clear HO_7; clear HO_9; clear HO_11; clear HB; have HO_7 := n0_; have HO_9 := n1_; have HO_11 := n2_; have HB := n3_; clear n0_ n1_ n2_ n3_; (try clear hb); (try clear hb2); (try clear hk); (try clear hi); (try clear A56))))
                  go_ret
                  exact ⟨by first | rfl | (simp [errW_none, errW_some] <;> rfl) | (simp [*, errW_none, errW_some] <;> rfl), by repeat (first | (with_reducible first | exact HB.out | apply below_alloc | apply pw_below_drewN | apply below_drew1) | exact HB.out)⟩
    · rw [if_neg c11] at H
      have c11b0 : (t114 == 0) = false := beq_eq_false_iff_ne.mpr c11
      have c11b1 : (t114 != 0) = true := bne_iff_ne.mpr c11
      replace H := Option.bind_eq_some_iff.mp H
      obtain ⟨t115, A580, H⟩ := H
      replace H : (if t115 = true then (if t103 = t114 then (if t107 = t114 then (if t111 = t114 then (some ((wrap64 ((wrap64 ((t102.length : Int) + (t106.length : Int))) + (t110.length : Int))) == 0)) else (some false)) else (some false)) else (some false)) else (some false)) = some r := H
      have A58 := Aside0.mk A580
      clear A580
      by_cases c59 : t115 = true
      · subst c59
        have H1 : (if t103 = t114 then (if t107 = t114 then (if t111 = t114 then (some ((wrap64 ((wrap64 ((t102.length : Int) + (t106.length : Int))) + (t110.length : Int))) == 0)) else (some false)) else (some false)) else (some false)) = some r := by rw [if_pos rfl] at H; exact H
        clear H
        have H := H1
        clear H1
        by_cases c60 : t103 = t114
        · rw [if_pos c60] at H
          have c60b0 : (t103 == t114) = true := beq_iff_eq.mpr c60
          have c60b1 : (t103 != t114) = false := bne_eq_false_iff_eq.mpr c60
          clear c60
          by_cases c61 : t107 = t114
          · rw [if_pos c61] at H
            have c61b0 : (t107 == t114) = true := beq_iff_eq.mpr c61
            have c61b1 : (t107 != t114) = false := bne_eq_false_iff_eq.mpr c61
            clear c61
            by_cases c62 : t111 = t114
            · rw [if_pos c62] at H
              have c62b0 : (t111 == t114) = true := beq_iff_eq.mpr c62
              have c62b1 : (t111 != t114) = false := bne_eq_false_iff_eq.mpr c62
              clear c62
              obtain rfl := Option.some.inj H
              go_enter Try.func6, Try.ntmps6
              go_wp2_with (first | (go_at_call 14; (with_reducible refine (ppm_Flip.calls a0 a1 _ _ l2 t102 t103 _ ?side1 ?side2 A7.out).mono ?_); (case side1 => repeat (first | exact HR2.out | (with_reducible refine Kd.C_alloc ?_ _) | (with_reducible refine Kd.C_drewN ?_ _) | (with_reducible refine Kd.C_drew ?_))); (case side2 => exact HC2.out); rintro e w63 ⟨v104, rfl, ho0, hb⟩; have n0_ := Aside0.mk (Kd.R_lower ho0 (below_size (by repeat (first | (with_reducible first | exact HB.out | apply below_alloc | apply pw_below_drewN | apply below_drew1) | exact HB.out)))); have n1_ := Aside0.mk (below_step (by repeat (first | (with_reducible first | exact HB.out | apply below_alloc | apply pw_below_drewN | apply below_drew1) | exact HB.out)) hb); clear HB; have HO105 := n0_; have HB := n1_; clear n0_ n1_; (try clear hb); (try clear hb2); (try clear hk); (try clear hi); (try clear ho0); (try clear A7)) | (go_at_call 15; (with_reducible refine (ppm_Turn.calls a0 a1 _ _ l2 t106 t107 _ ?side1 ?side2 A8.out).mono ?_); (case side1 => repeat (first | exact (Kd.C_below HR2.out HB.out) | (with_reducible refine Kd.C_alloc ?_ _) | (with_reducible refine Kd.C_drewN ?_ _) | (with_reducible refine Kd.C_drew ?_))); (case side2 => exact HC2.out); rintro e w64 ⟨v108, rfl, ho0, hb⟩; have n0_ := Aside0.mk (Kd.R_elder' (by (with_reducible repeat (first | apply Kd.R_alloc | apply Kd.R_drewN | apply Kd.R_drew)); exact HO105.out) (Kd.R_base ho0) hb); have n1_ := Aside0.mk (Kd.R_lower (Kd.R_new' ho0 (Kd.R_lt (by (with_reducible repeat (first | apply Kd.R_alloc | apply Kd.R_drewN | apply Kd.R_drew)); exact HO105.out))) (below_size (by repeat (first | (with_reducible first | exact HB.out | apply below_alloc | apply pw_below_drewN | apply below_drew1) | exact HB.out)))); have n2_ := Aside0.mk (below_step (by repeat (first | (with_reducible first | exact HB.out | apply below_alloc | apply pw_below_drewN | apply below_drew1) | exact HB.out)) hb); clear HO105; clear HB; have HO105 := n0_; have HO109 := n1_; have HB := n2_; clear n0_ n1_ n2_; (try clear hb); (try clear hb2); (try clear hk); (try clear hi); (try clear ho0); (try clear A8)) | (go_at_call 16; (with_reducible refine (ppm_Gray.calls k a0 a1 _ _ l2 t110 t111 _ ?side1 ?side2 A9.out).mono ?_); (case side1 => repeat (first | exact (Kd.C_below HR2.out HB.out) | (with_reducible refine Kd.C_alloc ?_ _) | (with_reducible refine Kd.C_drewN ?_ _) | (with_reducible refine Kd.C_drew ?_))); (case side2 => exact HC2.out); rintro e w65 ⟨v112, rfl, ho0, hb⟩; have n0_ := Aside0.mk (Kd.R_elder' (by (with_reducible repeat (first | apply Kd.R_alloc | apply Kd.R_drewN | apply Kd.R_drew)); exact HO105.out) (Kd.R_base ho0) hb); have n1_ := Aside0.mk (Kd.R_elder' (by (with_reducible repeat (first | apply Kd.R_alloc | apply Kd.R_drewN | apply Kd.R_drew)); exact HO109.out) (Kd.R_base ho0) hb); have n2_ := Aside0.mk (Kd.R_lower (Kd.R_new' (Kd.R_new' ho0 (Kd.R_lt (by (with_reducible repeat (first | apply Kd.R_alloc | apply Kd.R_drewN | apply Kd.R_drew)); exact HO105.out))) (Kd.R_lt (by (with_reducible repeat (first | apply Kd.R_alloc | apply Kd.R_drewN | apply Kd.R_drew)); exact HO109.out))) (below_size (by repeat (first | (with_reducible first | exact HB.out | apply below_alloc | apply pw_below_drewN | apply below_drew1) | exact HB.out)))); have n3_ := Aside0.mk (below_step (by repeat (first | (with_reducible first | exact HB.out | apply below_alloc | apply pw_below_drewN | apply below_drew1) | exact HB.out)) hb); clear HO105; clear HO109; clear HB; have HO105 := n0_; have HO109 := n1_; have HO113 := n2_; have HB := n3_; clear n0_ n1_ n2_ n3_; (try clear hb); (try clear hb2); (try clear hk); (try clear hi); (try clear ho0); (try clear A9)) | (go_at_call 9; (with_reducible refine (penumbraref44_Check.calls k a0 a1 _ _ l2 t114 _ ?side1 ?side2 A10.out).mono ?_); (case side1 => repeat (first | exact (Kd.C_below HR2.out HB.out) | (with_reducible refine Kd.C_alloc ?_ _) | (with_reducible refine Kd.C_drewN ?_ _) | (with_reducible refine Kd.C_drew ?_))); (case side2 => exact HC2.out); rintro e w' ⟨rfl, ⟨nd, rfl⟩⟩; (try first | exact ⟨rfl, _, World.drewN_drewN _ _ _⟩ | exact ⟨rfl, _, Eq.trans (World.drewN_drewN _ _ _) (congrArg (World.drewN _) (Nat.add_assoc _ _ _))⟩); (try clear A10)) | (go_at_call 7; (with_reducible refine (penumbralaw44_awake.calls k  true _ A58.out).mono ?_); rintro e w66 ⟨rfl, hb⟩; have n0_ := Aside0.mk (Kd.R_below (by (with_reducible repeat (first | apply Kd.R_alloc | apply Kd.R_drewN | apply Kd.R_drew)); exact HO105.out) hb); have n1_ := Aside0.mk (Kd.R_below (by (with_reducible repeat (first | apply Kd.R_alloc | apply Kd.R_drewN | apply Kd.R_drew)); exact HO109.out) hb); have n2_ := Aside0.mk (Kd.R_below (by (with_reducible repeat (first | apply Kd.R_alloc | apply Kd.R_drewN | apply Kd.R_drew)); exact HO113.out) hb); have n3_ := Aside0.mk (below_step (by repeat (first | (with_reducible first | exact HB.out | apply below_alloc | apply pw_below_drewN | apply below_drew1) | exact HB.out)) hb); clear HO105; clear HO109; clear HO113; clear HB; have HO105 := n0_; have HO109 := n1_; have HO113 := n2_; have HB := n3_; clear n0_ n1_ n2_ n3_; (try clear hb); (try clear hb2); (try clear hk); (try clear hi); obtain ⟨Ao67, co67, eo67⟩ := Kd.R_slice HO105.out; subst eo67; obtain ⟨Ao68, co68, eo68⟩ := Kd.R_slice HO109.out; subst eo68; obtain ⟨Ao69, co69, eo69⟩ := Kd.R_slice HO113.out; subst eo69; (try clear A58)))
              repeat (go_quiet (first | (go_at_call 14; (with_reducible refine (ppm_Flip.calls a0 a1 _ _ l2 t102 t103 _ ?side1 ?side2 A7.out).mono ?_); (case side1 => repeat (first | exact HR2.out | (with_reducible refine Kd.C_alloc ?_ _) | (with_reducible refine Kd.C_drewN ?_ _) | (with_reducible refine Kd.C_drew ?_))); (case side2 => exact HC2.out); rintro e w63 ⟨v104, rfl, ho0, hb⟩; have n0_ := Aside0.mk (Kd.R_lower ho0 (below_size (by repeat (first | (with_reducible first | exact HB.out | apply below_alloc | apply pw_below_drewN | apply below_drew1) | exact HB.out)))); have n1_ := Aside0.mk (below_step (by repeat (first | (with_reducible first | exact HB.out | apply below_alloc | apply pw_below_drewN | apply below_drew1) | exact HB.out)) hb); clear HB; have HO105 := n0_; have HB := n1_; clear n0_ n1_; (try clear hb); (try clear hb2); (try clear hk); (try clear hi); (try clear ho0); (try clear A7)) | (go_at_call 15; (with_reducible refine (ppm_Turn.calls a0 a1 _ _ l2 t106 t107 _ ?side1 ?side2 A8.out).mono ?_); (case side1 => repeat (first | exact (Kd.C_below HR2.out HB.out) | (with_reducible refine Kd.C_alloc ?_ _) | (with_reducible refine Kd.C_drewN ?_ _) | (with_reducible refine Kd.C_drew ?_))); (case side2 => exact HC2.out); rintro e w64 ⟨v108, rfl, ho0, hb⟩; have n0_ := Aside0.mk (Kd.R_elder' (by (with_reducible repeat (first | apply Kd.R_alloc | apply Kd.R_drewN | apply Kd.R_drew)); exact HO105.out) (Kd.R_base ho0) hb); have n1_ := Aside0.mk (Kd.R_lower (Kd.R_new' ho0 (Kd.R_lt (by (with_reducible repeat (first | apply Kd.R_alloc | apply Kd.R_drewN | apply Kd.R_drew)); exact HO105.out))) (below_size (by repeat (first | (with_reducible first | exact HB.out | apply below_alloc | apply pw_below_drewN | apply below_drew1) | exact HB.out)))); have n2_ := Aside0.mk (below_step (by repeat (first | (with_reducible first | exact HB.out | apply below_alloc | apply pw_below_drewN | apply below_drew1) | exact HB.out)) hb); clear HO105; clear HB; have HO105 := n0_; have HO109 := n1_; have HB := n2_; clear n0_ n1_ n2_; (try clear hb); (try clear hb2); (try clear hk); (try clear hi); (try clear ho0); (try clear A8)) | (go_at_call 16; (with_reducible refine (ppm_Gray.calls k a0 a1 _ _ l2 t110 t111 _ ?side1 ?side2 A9.out).mono ?_); (case side1 => repeat (first | exact (Kd.C_below HR2.out HB.out) | (with_reducible refine Kd.C_alloc ?_ _) | (with_reducible refine Kd.C_drewN ?_ _) | (with_reducible refine Kd.C_drew ?_))); (case side2 => exact HC2.out); rintro e w65 ⟨v112, rfl, ho0, hb⟩; have n0_ := Aside0.mk (Kd.R_elder' (by (with_reducible repeat (first | apply Kd.R_alloc | apply Kd.R_drewN | apply Kd.R_drew)); exact HO105.out) (Kd.R_base ho0) hb); have n1_ := Aside0.mk (Kd.R_elder' (by (with_reducible repeat (first | apply Kd.R_alloc | apply Kd.R_drewN | apply Kd.R_drew)); exact HO109.out) (Kd.R_base ho0) hb); have n2_ := Aside0.mk (Kd.R_lower (Kd.R_new' (Kd.R_new' ho0 (Kd.R_lt (by (with_reducible repeat (first | apply Kd.R_alloc | apply Kd.R_drewN | apply Kd.R_drew)); exact HO105.out))) (Kd.R_lt (by (with_reducible repeat (first | apply Kd.R_alloc | apply Kd.R_drewN | apply Kd.R_drew)); exact HO109.out))) (below_size (by repeat (first | (with_reducible first | exact HB.out | apply below_alloc | apply pw_below_drewN | apply below_drew1) | exact HB.out)))); have n3_ := Aside0.mk (below_step (by repeat (first | (with_reducible first | exact HB.out | apply below_alloc | apply pw_below_drewN | apply below_drew1) | exact HB.out)) hb); clear HO105; clear HO109; clear HB; have HO105 := n0_; have HO109 := n1_; have HO113 := n2_; have HB := n3_; clear n0_ n1_ n2_ n3_; (try clear hb); (try clear hb2); (try clear hk); (try clear hi); (try clear ho0); (try clear A9)) | (go_at_call 9; (with_reducible refine (penumbraref44_Check.calls k a0 a1 _ _ l2 t114 _ ?side1 ?side2 A10.out).mono ?_); (case side1 => repeat (first | exact (Kd.C_below HR2.out HB.out) | (with_reducible refine Kd.C_alloc ?_ _) | (with_reducible refine Kd.C_drewN ?_ _) | (with_reducible refine Kd.C_drew ?_))); (case side2 => exact HC2.out); rintro e w' ⟨rfl, ⟨nd, rfl⟩⟩; (try first | exact ⟨rfl, _, World.drewN_drewN _ _ _⟩ | exact ⟨rfl, _, Eq.trans (World.drewN_drewN _ _ _) (congrArg (World.drewN _) (Nat.add_assoc _ _ _))⟩); (try clear A10)) | (go_at_call 7; (with_reducible refine (penumbralaw44_awake.calls k  true _ A58.out).mono ?_); rintro e w66 ⟨rfl, hb⟩; have n0_ := Aside0.mk (Kd.R_below (by (with_reducible repeat (first | apply Kd.R_alloc | apply Kd.R_drewN | apply Kd.R_drew)); exact HO105.out) hb); have n1_ := Aside0.mk (Kd.R_below (by (with_reducible repeat (first | apply Kd.R_alloc | apply Kd.R_drewN | apply Kd.R_drew)); exact HO109.out) hb); have n2_ := Aside0.mk (Kd.R_below (by (with_reducible repeat (first | apply Kd.R_alloc | apply Kd.R_drewN | apply Kd.R_drew)); exact HO113.out) hb); have n3_ := Aside0.mk (below_step (by repeat (first | (with_reducible first | exact HB.out | apply below_alloc | apply pw_below_drewN | apply below_drew1) | exact HB.out)) hb); clear HO105; clear HO109; clear HO113; clear HB; have HO105 := n0_; have HO109 := n1_; have HO113 := n2_; have HB := n3_; clear n0_ n1_ n2_ n3_; (try clear hb); (try clear hb2); (try clear hk); (try clear hi); obtain ⟨Ao67, co67, eo67⟩ := Kd.R_slice HO105.out; subst eo67; obtain ⟨Ao68, co68, eo68⟩ := Kd.R_slice HO109.out; subst eo68; obtain ⟨Ao69, co69, eo69⟩ := Kd.R_slice HO113.out; subst eo69; (try clear A58))); try go_wp2_with (first | (go_at_call 14; (with_reducible refine (ppm_Flip.calls a0 a1 _ _ l2 t102 t103 _ ?side1 ?side2 A7.out).mono ?_); (case side1 => repeat (first | exact HR2.out | (with_reducible refine Kd.C_alloc ?_ _) | (with_reducible refine Kd.C_drewN ?_ _) | (with_reducible refine Kd.C_drew ?_))); (case side2 => exact HC2.out); rintro e w63 ⟨v104, rfl, ho0, hb⟩; have n0_ := Aside0.mk (Kd.R_lower ho0 (below_size (by repeat (first | (with_reducible first | exact HB.out | apply below_alloc | apply pw_below_drewN | apply below_drew1) | exact HB.out)))); have n1_ := Aside0.mk (below_step (by repeat (first | (with_reducible first | exact HB.out | apply below_alloc | apply pw_below_drewN | apply below_drew1) | exact HB.out)) hb); clear HB; have HO105 := n0_; have HB := n1_; clear n0_ n1_; (try clear hb); (try clear hb2); (try clear hk); (try clear hi); (try clear ho0); (try clear A7)) | (go_at_call 15; (with_reducible refine (ppm_Turn.calls a0 a1 _ _ l2 t106 t107 _ ?side1 ?side2 A8.out).mono ?_); (case side1 => repeat (first | exact (Kd.C_below HR2.out HB.out) | (with_reducible refine Kd.C_alloc ?_ _) | (with_reducible refine Kd.C_drewN ?_ _) | (with_reducible refine Kd.C_drew ?_))); (case side2 => exact HC2.out); rintro e w64 ⟨v108, rfl, ho0, hb⟩; have n0_ := Aside0.mk (Kd.R_elder' (by (with_reducible repeat (first | apply Kd.R_alloc | apply Kd.R_drewN | apply Kd.R_drew)); exact HO105.out) (Kd.R_base ho0) hb); have n1_ := Aside0.mk (Kd.R_lower (Kd.R_new' ho0 (Kd.R_lt (by (with_reducible repeat (first | apply Kd.R_alloc | apply Kd.R_drewN | apply Kd.R_drew)); exact HO105.out))) (below_size (by repeat (first | (with_reducible first | exact HB.out | apply below_alloc | apply pw_below_drewN | apply below_drew1) | exact HB.out)))); have n2_ := Aside0.mk (below_step (by repeat (first | (with_reducible first | exact HB.out | apply below_alloc | apply pw_below_drewN | apply below_drew1) | exact HB.out)) hb); clear HO105; clear HB; have HO105 := n0_; have HO109 := n1_; have HB := n2_; clear n0_ n1_ n2_; (try clear hb); (try clear hb2); (try clear hk); (try clear hi); (try clear ho0); (try clear A8)) | (go_at_call 16; (with_reducible refine (ppm_Gray.calls k a0 a1 _ _ l2 t110 t111 _ ?side1 ?side2 A9.out).mono ?_); (case side1 => repeat (first | exact (Kd.C_below HR2.out HB.out) | (with_reducible refine Kd.C_alloc ?_ _) | (with_reducible refine Kd.C_drewN ?_ _) | (with_reducible refine Kd.C_drew ?_))); (case side2 => exact HC2.out); rintro e w65 ⟨v112, rfl, ho0, hb⟩; have n0_ := Aside0.mk (Kd.R_elder' (by (with_reducible repeat (first | apply Kd.R_alloc | apply Kd.R_drewN | apply Kd.R_drew)); exact HO105.out) (Kd.R_base ho0) hb); have n1_ := Aside0.mk (Kd.R_elder' (by (with_reducible repeat (first | apply Kd.R_alloc | apply Kd.R_drewN | apply Kd.R_drew)); exact HO109.out) (Kd.R_base ho0) hb); have n2_ := Aside0.mk (Kd.R_lower (Kd.R_new' (Kd.R_new' ho0 (Kd.R_lt (by (with_reducible repeat (first | apply Kd.R_alloc | apply Kd.R_drewN | apply Kd.R_drew)); exact HO105.out))) (Kd.R_lt (by (with_reducible repeat (first | apply Kd.R_alloc | apply Kd.R_drewN | apply Kd.R_drew)); exact HO109.out))) (below_size (by repeat (first | (with_reducible first | exact HB.out | apply below_alloc | apply pw_below_drewN | apply below_drew1) | exact HB.out)))); have n3_ := Aside0.mk (below_step (by repeat (first | (with_reducible first | exact HB.out | apply below_alloc | apply pw_below_drewN | apply below_drew1) | exact HB.out)) hb); clear HO105; clear HO109; clear HB; have HO105 := n0_; have HO109 := n1_; have HO113 := n2_; have HB := n3_; clear n0_ n1_ n2_ n3_; (try clear hb); (try clear hb2); (try clear hk); (try clear hi); (try clear ho0); (try clear A9)) | (go_at_call 9; (with_reducible refine (penumbraref44_Check.calls k a0 a1 _ _ l2 t114 _ ?side1 ?side2 A10.out).mono ?_); (case side1 => repeat (first | exact (Kd.C_below HR2.out HB.out) | (with_reducible refine Kd.C_alloc ?_ _) | (with_reducible refine Kd.C_drewN ?_ _) | (with_reducible refine Kd.C_drew ?_))); (case side2 => exact HC2.out); rintro e w' ⟨rfl, ⟨nd, rfl⟩⟩; (try first | exact ⟨rfl, _, World.drewN_drewN _ _ _⟩ | exact ⟨rfl, _, Eq.trans (World.drewN_drewN _ _ _) (congrArg (World.drewN _) (Nat.add_assoc _ _ _))⟩); (try clear A10)) | (go_at_call 7; (with_reducible refine (penumbralaw44_awake.calls k  true _ A58.out).mono ?_); rintro e w66 ⟨rfl, hb⟩; have n0_ := Aside0.mk (Kd.R_below (by (with_reducible repeat (first | apply Kd.R_alloc | apply Kd.R_drewN | apply Kd.R_drew)); exact HO105.out) hb); have n1_ := Aside0.mk (Kd.R_below (by (with_reducible repeat (first | apply Kd.R_alloc | apply Kd.R_drewN | apply Kd.R_drew)); exact HO109.out) hb); have n2_ := Aside0.mk (Kd.R_below (by (with_reducible repeat (first | apply Kd.R_alloc | apply Kd.R_drewN | apply Kd.R_drew)); exact HO113.out) hb); have n3_ := Aside0.mk (below_step (by repeat (first | (with_reducible first | exact HB.out | apply below_alloc | apply pw_below_drewN | apply below_drew1) | exact HB.out)) hb); clear HO105; clear HO109; clear HO113; clear HB; have HO105 := n0_; have HO109 := n1_; have HO113 := n2_; have HB := n3_; clear n0_ n1_ n2_ n3_; (try clear hb); (try clear hb2); (try clear hk); (try clear hi); obtain ⟨Ao67, co67, eo67⟩ := Kd.R_slice HO105.out; subst eo67; obtain ⟨Ao68, co68, eo68⟩ := Kd.R_slice HO109.out; subst eo68; obtain ⟨Ao69, co69, eo69⟩ := Kd.R_slice HO113.out; subst eo69; (try clear A58))))
              go_ret
              exact ⟨by first | rfl | (simp [errW_none, errW_some] <;> rfl) | (simp [*, errW_none, errW_some] <;> rfl), by repeat (first | (with_reducible first | exact HB.out | apply below_alloc | apply pw_below_drewN | apply below_drew1) | exact HB.out)⟩
            · rw [if_neg c62] at H
              have c62b0 : (t111 == t114) = false := beq_eq_false_iff_ne.mpr c62
              have c62b1 : (t111 != t114) = true := bne_iff_ne.mpr c62
              exact absurd ((Option.some.inj H).trans hr_) (by decide)
          · rw [if_neg c61] at H
            have c61b0 : (t107 == t114) = false := beq_eq_false_iff_ne.mpr c61
            have c61b1 : (t107 != t114) = true := bne_iff_ne.mpr c61
            exact absurd ((Option.some.inj H).trans hr_) (by decide)
        · rw [if_neg c60] at H
          have c60b0 : (t103 == t114) = false := beq_eq_false_iff_ne.mpr c60
          have c60b1 : (t103 != t114) = true := bne_iff_ne.mpr c60
          exact absurd ((Option.some.inj H).trans hr_) (by decide)
      · replace c59 := Bool.eq_false_iff.mpr c59
        subst c59
        have H1 : (some false) = some r := by rw [if_neg (show ¬ (false = true) by decide)] at H; exact H
        clear H
        have H := H1
        clear H1
        exact absurd ((Option.some.inj H).trans hr_) (by decide)

/-- THE ONE PURE STATEMENT of penumbralaw44_PpmTurns: yours. -/
def penumbralaw44_PpmTurns.Pure : Prop := ∀ (a0 : Int) (a1 : Int) (l2 : List Int), (Lit.int .i64 a0).wf = true → (Lit.int .i64 a1).wf = true → l2.length ≤ maxLen → l2.length * 1 ≤ 140737488351232 → (∀ x ∈ l2, (Lit.int .u8 x).wf = true) → ∃ k, penumbralaw44_PpmTurns.f k a0 a1 l2 = some true
theorem penumbralaw44_PpmTurns.walk (P : penumbralaw44_PpmTurns.Pure) (a0 : Int) (a1 : Int) (a2 : Option Addr) (len2 cap2 : Nat) (z2 : List Int) (w : World) (w0 : (Lit.int .i64 a0).wf = true) (w1 : (Lit.int .i64 a1).wf = true) (w2 : (a2 = none ∧ len2 = 0 ∧ cap2 = 0 ∧ z2 = []) ∨ ∃ x, a2 = some x ∧ len2 ≤ cap2 ∧ cap2 ≤ maxLen ∧ z2.length = cap2 ∧ (∀ i, i < z2.length → w.cell? (x.add i) = some (.int .u8 (z2.getD i 0))) ∧ ∀ n ∈ z2, (Lit.int .u8 n).wf = true) (y2 : len2 * 1 ≤ 140737488351232) :
    Calls Try.prog 6 #[.int .i64 a0, .int .i64 a1, .slice a2 len2 cap2] w fun e w' => e = .returned (.bool true) ∧ Below w.heap.size w w' := by
  obtain ⟨l2, rfl, hr2, hm2, hw2, hc2⟩ := ReadsInt.ofRowC w2
  obtain ⟨k, h⟩ := P a0 a1 l2 w0 w1 hm2 y2 hw2
  refine (penumbralaw44_PpmTurns.calls k a0 a1 _ _ l2 true w (Kd.C_of_reads (d := (0 : Int)) (h1 := fun _ => rfl) hr2) hc2 h rfl).mono ?_
  rintro e w' ⟨rfl, hd⟩
  exact ⟨rfl, hd⟩

end Go.Proofs.Ytmpbjmjphapnoaa.X
