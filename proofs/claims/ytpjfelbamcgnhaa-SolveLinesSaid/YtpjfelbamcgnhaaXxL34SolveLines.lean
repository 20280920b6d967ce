-- written by xprint.py (a program of this session, over the kit's print)
import Derived.Test.YtpjfelbamcgnhaaXx0
import Derived.Test.YtpjfelbamcgnhaaXxB31
import Derived.Test.YtpjfelbamcgnhaaXxA30
import Derived.Test.YtpjfelbamcgnhaaXxE34
import Derived.Test.YtpjfelbamcgnhaaXxL34awake
namespace Go.Proofs.Ytpjfelbamcgnhaa.X
open Go.RowKit Go.Proofs.YtpjfelbamcgnhaaW.PrintWords Go.Proofs.YtpjfelbamcgnhaaW.PrintLast Go.Proofs.YtpjfelbamcgnhaaW.PrintMore
attribute [local go_sem] max2_int min2_int max_two min_two max_three min_three max_four min_four   -- for this text's walks alone
set_option linter.unusedVariables false
set_option linter.unusedSimpArgs false

/-! ### penumbralaw34_SolveLines: function 3 -/
mutual
def penumbralaw34_SolveLines.j0 : Nat → List Int → List Int → Bool → Option (Bool)
  | 0, _, _, _ => none
  | k + 1, x0, x1, x19 => if x19 = true then ((penumbralaw34_awake.f k).bind fun t101 => (some t101)) else ((solve_Line.f x0 x1).bind fun bt102 => ((solve_Det.f x0).bind fun bt106 => ((penumbraref31_Side.f k x0).bind fun t108 => (if t108 = 0 then ((penumbralaw34_awake.f k).bind fun t109 => (if t109 = true then (if (bt102.1.length : Int) = 0 then (if bt102.2 = 14 then (if bt106.1 = 0 then (some (bt106.2 == 14)) else (some false)) else (some false)) else (some false)) else (some false))) else (if t108 > 4 then ((penumbralaw34_awake.f k).bind fun t110 => (if t110 = true then (if bt106.2 = 0 then (if bt102.2 = 0 then ((penumbraref31_Apply.f k x0 bt102.1 t108).bind fun t111 => ((penumbraref31_Rests.f k x1).bind fun t114 => ((penumbraref01_Ints.f k t111 t114).bind fun t117 => (some t117)))) else (some true)) else (some false)) else (some false))) else (if bt106.2 = 0 then ((penumbraref34_Det.f k x0 t108).bind fun t118 => (penumbralaw34_SolveLines.j1 k x0 x1 bt102.1 bt102.2 t108 (bt106.1 != t118))) else (penumbralaw34_SolveLines.j1 k x0 x1 bt102.1 bt102.2 t108 true)))))))
def penumbralaw34_SolveLines.j1 : Nat → List Int → List Int → List Int → Int → Int → Bool → Option (Bool)
  | 0, _, _, _, _, _, _ => none
  | k + 1, x0, x1, x5, x6, x9, x82 => if x82 = true then (some false) else (if x9 = (x1.length : Int) then ((penumbraref34_Line.f k x0 x1 x9).bind fun bt120 => (if bt120.2 = true then ((penumbralaw34_awake.f k).bind fun t125 => (if t125 = true then (if x6 = 0 then ((penumbraref01_Ints.f k x5 bt120.1).bind fun t126 => (if t126 = true then ((penumbraref31_Apply.f k x0 x5 x9).bind fun t127 => ((penumbraref31_Rests.f k x1).bind fun t130 => ((penumbraref01_Ints.f k t127 t130).bind fun t133 => (some t133)))) else (some false))) else (some false)) else (some false))) else ((penumbralaw34_awake.f k).bind fun t124 => (if t124 = true then (if (x5.length : Int) = 0 then (some (x6 == 13)) else (some false)) else (some false))))) else ((penumbralaw34_awake.f k).bind fun t119 => (if t119 = true then (if (x5.length : Int) = 0 then (some (x6 == 14)) else (some false)) else (some false))))
end
def penumbralaw34_SolveLines.f (k : Nat) (l0 : List Int) (l1 : List Int) : Option (Bool) := if (l0.length : Int) > 200 then (penumbralaw34_SolveLines.j0 k l0 l1 true) else (penumbralaw34_SolveLines.j0 k l0 l1 (decide ((l1.length : Int) > 30)))
theorem penumbralaw34_SolveLines.mono_l : ∀ k, (∀ y0 y1 y2, LeO (penumbralaw34_SolveLines.j0 k y0 y1 y2) (penumbralaw34_SolveLines.j0 (k + 1) y0 y1 y2)) ∧ (∀ y0 y1 y2 y3 y4 y5, LeO (penumbralaw34_SolveLines.j1 k y0 y1 y2 y3 y4 y5) (penumbralaw34_SolveLines.j1 (k + 1) y0 y1 y2 y3 y4 y5))
  | 0 => ⟨fun _ _ _ r h => by simp [penumbralaw34_SolveLines.j0] at h, fun _ _ _ _ _ _ r h => by simp [penumbralaw34_SolveLines.j1] at h⟩
  | k + 1 => by
    obtain ⟨ih0, ih1⟩ := penumbralaw34_SolveLines.mono_l k
    refine ⟨?_, ?_⟩
    · intro y0 y1 y2
      unfold penumbralaw34_SolveLines.j0
      repeat' first
      | (with_reducible exact ih0 _ _ _)
      | (with_reducible exact ih1 _ _ _ _ _ _)
      | (with_reducible exact penumbralaw34_awake.mono _)
      | (with_reducible exact penumbraref01_Ints.mono _ _ _)
      | (with_reducible exact penumbraref31_Apply.mono _ _ _ _)
      | (with_reducible exact penumbraref31_Rests.mono _ _)
      | (with_reducible exact penumbraref31_Side.mono _ _)
      | (with_reducible exact penumbraref34_Det.mono _ _ _)
      | (with_reducible exact penumbraref34_Line.mono _ _ _ _)
      | (with_reducible exact LeO.refl _)
      | (with_reducible exact LeO.none _)
      | (with_reducible refine LeO.ite ?_ ?_)
      | (with_reducible refine LeO.bind ?_ (fun _ => ?_))
      | exact ih0 _ _ _
      | exact ih1 _ _ _ _ _ _
      | exact penumbralaw34_awake.mono _
      | exact penumbraref01_Ints.mono _ _ _
      | exact penumbraref31_Apply.mono _ _ _ _
      | exact penumbraref31_Rests.mono _ _
      | exact penumbraref31_Side.mono _ _
      | exact penumbraref34_Det.mono _ _ _
      | exact penumbraref34_Line.mono _ _ _ _
      | exact LeO.none _
      | refine LeO.ite ?_ ?_
      | refine LeO.bind ?_ (fun _ => ?_)
    · intro y0 y1 y2 y3 y4 y5
      unfold penumbralaw34_SolveLines.j1
      repeat' first
      | (with_reducible exact ih0 _ _ _)
      | (with_reducible exact ih1 _ _ _ _ _ _)
      | (with_reducible exact penumbralaw34_awake.mono _)
      | (with_reducible exact penumbraref01_Ints.mono _ _ _)
      | (with_reducible exact penumbraref31_Apply.mono _ _ _ _)
      | (with_reducible exact penumbraref31_Rests.mono _ _)
      | (with_reducible exact penumbraref31_Side.mono _ _)
      | (with_reducible exact penumbraref34_Det.mono _ _ _)
      | (with_reducible exact penumbraref34_Line.mono _ _ _ _)
      | (with_reducible exact LeO.refl _)
      | (with_reducible exact LeO.none _)
      | (with_reducible refine LeO.ite ?_ ?_)
      | (with_reducible refine LeO.bind ?_ (fun _ => ?_))
      | exact ih0 _ _ _
      | exact ih1 _ _ _ _ _ _
      | exact penumbralaw34_awake.mono _
      | exact penumbraref01_Ints.mono _ _ _
      | exact penumbraref31_Apply.mono _ _ _ _
      | exact penumbraref31_Rests.mono _ _
      | exact penumbraref31_Side.mono _ _
      | exact penumbraref34_Det.mono _ _ _
      | exact penumbraref34_Line.mono _ _ _ _
      | exact LeO.none _
      | refine LeO.ite ?_ ?_
      | refine LeO.bind ?_ (fun _ => ?_)
theorem penumbralaw34_SolveLines.mono : ∀ a0 a1 k, LeO (penumbralaw34_SolveLines.f k a0 a1) (penumbralaw34_SolveLines.f (k + 1) a0 a1) := by
  intro a0 a1 k
  obtain ⟨ih0, ih1⟩ := penumbralaw34_SolveLines.mono_l k
  unfold penumbralaw34_SolveLines.f
  repeat' first
      | (with_reducible exact ih0 _ _ _)
      | (with_reducible exact ih1 _ _ _ _ _ _)
      | (with_reducible exact penumbralaw34_awake.mono _)
      | (with_reducible exact penumbraref01_Ints.mono _ _ _)
      | (with_reducible exact penumbraref31_Apply.mono _ _ _ _)
      | (with_reducible exact penumbraref31_Rests.mono _ _)
      | (with_reducible exact penumbraref31_Side.mono _ _)
      | (with_reducible exact penumbraref34_Det.mono _ _ _)
      | (with_reducible exact penumbraref34_Line.mono _ _ _ _)
      | (with_reducible exact LeO.refl _)
      | (with_reducible exact LeO.none _)
      | (with_reducible refine LeO.ite ?_ ?_)
      | (with_reducible refine LeO.bind ?_ (fun _ => ?_))
      | exact ih0 _ _ _
      | exact ih1 _ _ _ _ _ _
      | exact penumbralaw34_awake.mono _
      | exact penumbraref01_Ints.mono _ _ _
      | exact penumbraref31_Apply.mono _ _ _ _
      | exact penumbraref31_Rests.mono _ _
      | exact penumbraref31_Side.mono _ _
      | exact penumbraref34_Det.mono _ _ _
      | exact penumbraref34_Line.mono _ _ _ _
      | exact LeO.none _
      | refine LeO.ite ?_ ?_
      | refine LeO.bind ?_ (fun _ => ?_)
set_option maxHeartbeats 8000000 in
set_option maxRecDepth 100000 in
theorem penumbralaw34_SolveLines.calls (k : Nat) (A0 : Option Addr) (c0 : Nat) (l0 : List Int) (A1 : Option Addr) (c1 : Nat) (l1 : List Int) (r : Bool) (w : World) (hr0 : Kd.C (Kd.int .i64) w A0 l0.length l0) (hc0 : l0.length ≤ c0) (hr1 : Kd.C (Kd.int .i64) w A1 l1.length l1) (hc1 : l1.length ≤ c1) (h : penumbralaw34_SolveLines.f k l0 l1 = some r) (hr_ : r = true) :
    Calls Try.prog 3 #[.slice A0 l0.length c0, .slice A1 l1.length c1] w fun e w' => e = .returned (.bool r) ∧ Below w.heap.size w w' := by
  have HR0 := mk_ hr0
  have HC0 := mk_ hc0
  clear hr0 hc0
  have HR1 := mk_ hr1
  have HC1 := mk_ hc1
  clear hr1 hc1
  have HB := mk_ (Below.refl w.heap.size w)
  have H : (if (l0.length : Int) > 200 then (penumbralaw34_SolveLines.j0 k l0 l1 true) else (penumbralaw34_SolveLines.j0 k l0 l1 (decide ((l1.length : Int) > 30)))) = some r := h
  clear h
  have HC3 := mk_ H
  clear H
  go_enter Try.func3, Try.ntmps3
  go_upto_region 1 with (fail)
  go_cut [19] (fun v19 wc => ∃ (kq : Nat) (x19_2 : Bool), v19 = .bool x19_2 ∧ Aside0 (penumbralaw34_SolveLines.j0 kq l0 l1 x19_2 = some r) ∧ Aside0 (kq ≤ k) ∧ Aside0 (Below w.heap.size w wc))
  case first =>
    have H := HC3.out
    clear HC3
    by_cases c4 : (l0.length : Int) > 200
    · rw [if_pos c4] at H
      have c4b0 : decide (200 < (l0.length : Int)) = true := decide_eq_true c4
      have c4b1 : decide (200 < l0.length) = true := decide_eq_true (by omega)
      clear c4
      (first | rw [c4b0] | (simp only [i64_w, i32_w]; rw [c4b0]) | skip)
      have H' := mk_ H
      clear H
      go_wp2
      go_meet
      case rel => exact ⟨_, (true), (by first | rfl | (simp; done) | (simp [*]; done)), H', ⟨by first | omega | exact Nat.le_refl _⟩, ⟨by repeat (first | (with_reducible first | exact HB.out | apply bA_ | apply bN_ | apply bD_) | exact HB.out)⟩⟩
    · rw [if_neg c4] at H
      have c4b0 : decide (200 < (l0.length : Int)) = false := decide_eq_false c4
      have c4b1 : decide (200 < l0.length) = false := decide_eq_false (by omega)
      clear c4
      (first | rw [c4b0] | (simp only [i64_w, i32_w]; rw [c4b0]) | skip)
      have H' := mk_ H
      clear H
      go_wp2
      go_meet
      case rel => exact ⟨_, (decide ((l1.length : Int) > 30)), (by first | rfl | (simp; done) | (simp [*]; done)), H', ⟨by first | omega | exact Nat.le_refl _⟩, ⟨by repeat (first | (with_reducible first | exact HB.out | apply bA_ | apply bN_ | apply bD_) | exact HB.out)⟩⟩
  case rest =>
    clear HC3
    try clear c1
    try clear p2
    try clear c3
    try clear c4
    try clear c4b0
    try clear c4b1
    obtain ⟨kq, x19_2, rfl, HA, HJ2, HB⟩ := hcut
    cases kq with
    | zero => exact absurd HA.out (by simp [penumbralaw34_SolveLines.j0])
    | succ kj2 =>
      have H := HA.out
      clear HA
      simp only [penumbralaw34_SolveLines.j0] at H
      by_cases c5 : x19_2 = true
      · subst c5
        have H1 : ((penumbralaw34_awake.f kj2).bind fun t101 => (some t101)) = some r := by rw [if_pos rfl] at H; exact H
        clear H
        have H := H1
        clear H1
        replace H := Option.bind_eq_some_iff.mp H
        obtain ⟨t101, A60, H⟩ := H
        replace H : (some t101) = some r := H
        have A6 := mk_ A60
        clear A60
        obtain rfl := Option.some.inj H
        go_wp2_with (first | ((with_reducible refine gate_callee (f := 6) rfl ?_); refine goesL_ (some 20) rfl rfl Try.func6 (by kernel_rfl) rfl #[] rfl (by (try simp only [List.map_toArray, List.map_cons, List.map_nil]); first | done | rfl | (simp only [List.length_drop, List.length_take]; rfl)) ?_; (with_reducible refine (penumbralaw34_awake.calls kj2  t101 _ A6.out).mono ?_); rintro e w7 ⟨rfl, hb⟩; refine ⟨_, rfl, ?_⟩; have n0_ := mk_ (below_step (by repeat (first | (with_reducible first | exact HB.out | apply bA_ | apply bN_ | apply bD_) | exact HB.out)) hb); clear HB; have HB := n0_; clear n0_; (try clear hb); (try clear hb2); (try clear hk); (try clear hi); (try clear A6)))
        go_ret
        exact ⟨by first | rfl | (simp [errW_none, errW_some] <;> rfl) | (simp [*, errW_none, errW_some] <;> rfl), by repeat (first | (with_reducible first | exact HB.out | apply bA_ | apply bN_ | apply bD_) | exact HB.out)⟩
      · replace c5 := Bool.eq_false_iff.mpr c5
        subst c5
        have H1 : ((solve_Line.f l0 l1).bind fun bt102 => ((solve_Det.f l0).bind fun bt106 => ((penumbraref31_Side.f kj2 l0).bind fun t108 => (if t108 = 0 then ((penumbralaw34_awake.f kj2).bind fun t109 => (if t109 = true then (if (bt102.1.length : Int) = 0 then (if bt102.2 = 14 then (if bt106.1 = 0 then (some (bt106.2 == 14)) else (some false)) else (some false)) else (some false)) else (some false))) else (if t108 > 4 then ((penumbralaw34_awake.f kj2).bind fun t110 => (if t110 = true then (if bt106.2 = 0 then (if bt102.2 = 0 then ((penumbraref31_Apply.f kj2 l0 bt102.1 t108).bind fun t111 => ((penumbraref31_Rests.f kj2 l1).bind fun t114 => ((penumbraref01_Ints.f kj2 t111 t114).bind fun t117 => (some t117)))) else (some true)) else (some false)) else (some false))) else (if bt106.2 = 0 then ((penumbraref34_Det.f kj2 l0 t108).bind fun t118 => (penumbralaw34_SolveLines.j1 kj2 l0 l1 bt102.1 bt102.2 t108 (bt106.1 != t118))) else (penumbralaw34_SolveLines.j1 kj2 l0 l1 bt102.1 bt102.2 t108 true))))))) = some r := by rw [if_neg (show ¬ (false = true) by decide)] at H; exact H
        clear H
        have H := H1
        clear H1
        replace H := Option.bind_eq_some_iff.mp H
        obtain ⟨⟨t102, t103⟩, A80, H⟩ := H
        replace H : ((solve_Det.f l0).bind fun bt106 => ((penumbraref31_Side.f kj2 l0).bind fun t108 => (if t108 = 0 then ((penumbralaw34_awake.f kj2).bind fun t109 => (if t109 = true then (if (t102.length : Int) = 0 then (if t103 = 14 then (if bt106.1 = 0 then (some (bt106.2 == 14)) else (some false)) else (some false)) else (some false)) else (some false))) else (if t108 > 4 then ((penumbralaw34_awake.f kj2).bind fun t110 => (if t110 = true then (if bt106.2 = 0 then (if t103 = 0 then ((penumbraref31_Apply.f kj2 l0 t102 t108).bind fun t111 => ((penumbraref31_Rests.f kj2 l1).bind fun t114 => ((penumbraref01_Ints.f kj2 t111 t114).bind fun t117 => (some t117)))) else (some true)) else (some false)) else (some false))) else (if bt106.2 = 0 then ((penumbraref34_Det.f kj2 l0 t108).bind fun t118 => (penumbralaw34_SolveLines.j1 kj2 l0 l1 t102 t103 t108 (bt106.1 != t118))) else (penumbralaw34_SolveLines.j1 kj2 l0 l1 t102 t103 t108 true)))))) = some r := H
        have A8 := mk_ A80
        clear A80
        replace H := Option.bind_eq_some_iff.mp H
        obtain ⟨⟨t106, t107⟩, A90, H⟩ := H
        replace H : ((penumbraref31_Side.f kj2 l0).bind fun t108 => (if t108 = 0 then ((penumbralaw34_awake.f kj2).bind fun t109 => (if t109 = true then (if (t102.length : Int) = 0 then (if t103 = 14 then (if t106 = 0 then (some (t107 == 14)) else (some false)) else (some false)) else (some false)) else (some false))) else (if t108 > 4 then ((penumbralaw34_awake.f kj2).bind fun t110 => (if t110 = true then (if t107 = 0 then (if t103 = 0 then ((penumbraref31_Apply.f kj2 l0 t102 t108).bind fun t111 => ((penumbraref31_Rests.f kj2 l1).bind fun t114 => ((penumbraref01_Ints.f kj2 t111 t114).bind fun t117 => (some t117)))) else (some true)) else (some false)) else (some false))) else (if t107 = 0 then ((penumbraref34_Det.f kj2 l0 t108).bind fun t118 => (penumbralaw34_SolveLines.j1 kj2 l0 l1 t102 t103 t108 (t106 != t118))) else (penumbralaw34_SolveLines.j1 kj2 l0 l1 t102 t103 t108 true))))) = some r := H
        have A9 := mk_ A90
        clear A90
        replace H := Option.bind_eq_some_iff.mp H
        obtain ⟨t108, A100, H⟩ := H
        replace H : (if t108 = 0 then ((penumbralaw34_awake.f kj2).bind fun t109 => (if t109 = true then (if (t102.length : Int) = 0 then (if t103 = 14 then (if t106 = 0 then (some (t107 == 14)) else (some false)) else (some false)) else (some false)) else (some false))) else (if t108 > 4 then ((penumbralaw34_awake.f kj2).bind fun t110 => (if t110 = true then (if t107 = 0 then (if t103 = 0 then ((penumbraref31_Apply.f kj2 l0 t102 t108).bind fun t111 => ((penumbraref31_Rests.f kj2 l1).bind fun t114 => ((penumbraref01_Ints.f kj2 t111 t114).bind fun t117 => (some t117)))) else (some true)) else (some false)) else (some false))) else (if t107 = 0 then ((penumbraref34_Det.f kj2 l0 t108).bind fun t118 => (penumbralaw34_SolveLines.j1 kj2 l0 l1 t102 t103 t108 (t106 != t118))) else (penumbralaw34_SolveLines.j1 kj2 l0 l1 t102 t103 t108 true)))) = some r := H
        have A10 := mk_ A100
        clear A100
        by_cases c11 : t108 = 0
        · rw [if_pos c11] at H
          have c11b0 : (t108 == 0) = true := beq_iff_eq.mpr c11
          have c11b1 : (t108 != 0) = false := bne_eq_false_iff_eq.mpr c11
          clear c11
          replace H := Option.bind_eq_some_iff.mp H
          obtain ⟨t109, A120, H⟩ := H
          replace H : (if t109 = true then (if (t102.length : Int) = 0 then (if t103 = 14 then (if t106 = 0 then (some (t107 == 14)) else (some false)) else (some false)) else (some false)) else (some false)) = some r := H
          have A12 := mk_ A120
          clear A120
          by_cases c13 : t109 = true
          · subst c13
            have H1 : (if (t102.length : Int) = 0 then (if t103 = 14 then (if t106 = 0 then (some (t107 == 14)) else (some false)) else (some false)) else (some false)) = some r := by rw [if_pos rfl] at H; exact H
            clear H
            have H := H1
            clear H1
            by_cases c14 : (t102.length : Int) = 0
            · rw [if_pos c14] at H
              have c14b0 : ((t102.length : Int) == 0) = true := beq_iff_eq.mpr c14
              have c14b1 : ((t102.length : Int) != 0) = false := bne_eq_false_iff_eq.mpr c14
              clear c14
              by_cases c15 : t103 = 14
              · rw [if_pos c15] at H
                have c15b0 : (t103 == 14) = true := beq_iff_eq.mpr c15
                have c15b1 : (t103 != 14) = false := bne_eq_false_iff_eq.mpr c15
                clear c15
                by_cases c16 : t106 = 0
                · rw [if_pos c16] at H
                  have c16b0 : (t106 == 0) = true := beq_iff_eq.mpr c16
                  have c16b1 : (t106 != 0) = false := bne_eq_false_iff_eq.mpr c16
                  clear c16
                  obtain rfl := Option.some.inj H
                  go_wp2_with (first | ((with_reducible refine gate_callee (f := 7) rfl ?_); refine goesL_ (some 24) rfl rfl Try.func7 (by kernel_rfl) rfl #[.slice A0 l0.length c0, .slice A1 l1.length c1] rfl (by (try simp only [List.map_toArray, List.map_cons, List.map_nil]); first | done | rfl | (simp only [List.length_drop, List.length_take]; rfl)) ?_; (with_reducible refine (solve_Line.calls _ _ l0 _ _ l1 t102 t103 _ ?side1 ?side2 ?side3 ?side4 A8.out).mono ?_); (case side1 => repeat (first | exact (Kd.C_below HR0.out HB.out) | (with_reducible refine Kd.C_alloc ?_ _) | (with_reducible refine Kd.C_drewN ?_ _) | (with_reducible refine Kd.C_drew ?_))); (case side2 => exact HC0.out); (case side3 => repeat (first | exact (Kd.C_below HR1.out HB.out) | (with_reducible refine Kd.C_alloc ?_ _) | (with_reducible refine Kd.C_drewN ?_ _) | (with_reducible refine Kd.C_drew ?_))); (case side4 => exact HC1.out); rintro e w17 ⟨v104, rfl, ho0, hb⟩; refine ⟨_, rfl, ?_⟩; have n0_ := mk_ (Kd.R_lower ho0 (below_size (by repeat (first | (with_reducible first | exact HB.out | apply bA_ | apply bN_ | apply bD_) | exact HB.out)))); have n1_ := mk_ (below_step (by repeat (first | (with_reducible first | exact HB.out | apply bA_ | apply bN_ | apply bD_) | exact HB.out)) hb); clear HB; have HO105 := n0_; have HB := n1_; clear n0_ n1_; (try clear hb); (try clear hb2); (try clear hk); (try clear hi); (try clear ho0); (try clear A8)) | ((with_reducible refine gate_callee (f := 8) rfl ?_); refine goesL_ (some 29) rfl rfl Try.func8 (by kernel_rfl) rfl #[.slice A0 l0.length c0] rfl (by (try simp only [List.map_toArray, List.map_cons, List.map_nil]); first | done | rfl | (simp only [List.length_drop, List.length_take]; rfl)) ?_; (with_reducible refine (solve_Det.calls _ _ l0 t106 t107 _ ?side1 ?side2 A9.out).mono ?_); (case side1 => repeat (first | exact (Kd.C_below HR0.out HB.out) | (with_reducible refine Kd.C_alloc ?_ _) | (with_reducible refine Kd.C_drewN ?_ _) | (with_reducible refine Kd.C_drew ?_))); (case side2 => exact HC0.out); rintro e w18 ⟨rfl, hb⟩; refine ⟨_, rfl, ?_⟩; have n0_ := mk_ (Kd.R_below (by (with_reducible repeat (first | apply Kd.R_alloc | apply Kd.R_drewN | apply Kd.R_drew)); exact HO105.out) hb); have n1_ := mk_ (below_step (by repeat (first | (with_reducible first | exact HB.out | apply bA_ | apply bN_ | apply bD_) | exact HB.out)) hb); clear HO105; clear HB; have HO105 := n0_; have HB := n1_; clear n0_ n1_; (try clear hb); (try clear hb2); (try clear hk); (try clear hi); (try clear A9)) | ((with_reducible refine gate_callee (f := 9) rfl ?_); refine goesL_ (some 33) rfl rfl Try.func9 (by kernel_rfl) rfl #[.slice A0 l0.length c0] rfl (by (try simp only [List.map_toArray, List.map_cons, List.map_nil]); first | done | rfl | (simp only [List.length_drop, List.length_take]; rfl)) ?_; (with_reducible refine (penumbraref31_Side.calls kj2 _ _ l0 t108 _ ?side1 ?side2 A10.out).mono ?_); (case side1 => repeat (first | exact (Kd.C_below HR0.out HB.out) | (with_reducible refine Kd.C_alloc ?_ _) | (with_reducible refine Kd.C_drewN ?_ _) | (with_reducible refine Kd.C_drew ?_))); (case side2 => exact HC0.out); rintro e w19 ⟨rfl, hb⟩; refine ⟨_, rfl, ?_⟩; have n0_ := mk_ (Kd.R_below (by (with_reducible repeat (first | apply Kd.R_alloc | apply Kd.R_drewN | apply Kd.R_drew)); exact HO105.out) hb); have n1_ := mk_ (below_step (by repeat (first | (with_reducible first | exact HB.out | apply bA_ | apply bN_ | apply bD_) | exact HB.out)) hb); clear HO105; clear HB; have HO105 := n0_; have HB := n1_; clear n0_ n1_; (try clear hb); (try clear hb2); (try clear hk); (try clear hi); (try clear A10)) | ((with_reducible refine gate_callee (f := 6) rfl ?_); refine goesL_ (some 36) rfl rfl Try.func6 (by kernel_rfl) rfl #[] rfl (by (try simp only [List.map_toArray, List.map_cons, List.map_nil]); first | done | rfl | (simp only [List.length_drop, List.length_take]; rfl)) ?_; (with_reducible refine (penumbralaw34_awake.calls kj2  true _ A12.out).mono ?_); rintro e w20 ⟨rfl, hb⟩; refine ⟨_, rfl, ?_⟩; have n0_ := mk_ (Kd.R_below (by (with_reducible repeat (first | apply Kd.R_alloc | apply Kd.R_drewN | apply Kd.R_drew)); exact HO105.out) hb); have n1_ := mk_ (below_step (by repeat (first | (with_reducible first | exact HB.out | apply bA_ | apply bN_ | apply bD_) | exact HB.out)) hb); clear HO105; clear HB; have HO105 := n0_; have HB := n1_; clear n0_ n1_; (try clear hb); (try clear hb2); (try clear hk); (try clear hi); obtain ⟨Ao21, co21, eo21⟩ := Kd.R_slice HO105.out; subst eo21; (try clear A12)))
                  go_ret
                  exact ⟨by first | rfl | (simp [errW_none, errW_some] <;> rfl) | (simp [*, errW_none, errW_some] <;> rfl), by repeat (first | (with_reducible first | exact HB.out | apply bA_ | apply bN_ | apply bD_) | exact HB.out)⟩
                · rw [if_neg c16] at H
                  have c16b0 : (t106 == 0) = false := beq_eq_false_iff_ne.mpr c16
                  have c16b1 : (t106 != 0) = true := bne_iff_ne.mpr c16
                  exact absurd ((Option.some.inj H).trans hr_) (by decide)
              · rw [if_neg c15] at H
                have c15b0 : (t103 == 14) = false := beq_eq_false_iff_ne.mpr c15
                have c15b1 : (t103 != 14) = true := bne_iff_ne.mpr c15
                exact absurd ((Option.some.inj H).trans hr_) (by decide)
            · rw [if_neg c14] at H
              have c14b0 : ((t102.length : Int) == 0) = false := beq_eq_false_iff_ne.mpr c14
              have c14b1 : ((t102.length : Int) != 0) = true := bne_iff_ne.mpr c14
              have c14b2 : ¬ (t102 = []) := fun h_ => c14 (by rw [h_]; rfl)
              exact absurd ((Option.some.inj H).trans hr_) (by decide)
          · replace c13 := Bool.eq_false_iff.mpr c13
            subst c13
            have H1 : (some false) = some r := by rw [if_neg (show ¬ (false = true) by decide)] at H; exact H
            clear H
            have H := H1
            clear H1
            exact absurd ((Option.some.inj H).trans hr_) (by decide)
        · rw [if_neg c11] at H
          have c11b0 : (t108 == 0) = false := beq_eq_false_iff_ne.mpr c11
          have c11b1 : (t108 != 0) = true := bne_iff_ne.mpr c11
          by_cases c22 : t108 > 4
          · rw [if_pos c22] at H
            have c22b0 : decide (4 < t108) = true := decide_eq_true c22
            clear c22
            replace H := Option.bind_eq_some_iff.mp H
            obtain ⟨t110, A230, H⟩ := H
            replace H : (if t110 = true then (if t107 = 0 then (if t103 = 0 then ((penumbraref31_Apply.f kj2 l0 t102 t108).bind fun t111 => ((penumbraref31_Rests.f kj2 l1).bind fun t114 => ((penumbraref01_Ints.f kj2 t111 t114).bind fun t117 => (some t117)))) else (some true)) else (some false)) else (some false)) = some r := H
            have A23 := mk_ A230
            clear A230
            by_cases c24 : t110 = true
            · subst c24
              have H1 : (if t107 = 0 then (if t103 = 0 then ((penumbraref31_Apply.f kj2 l0 t102 t108).bind fun t111 => ((penumbraref31_Rests.f kj2 l1).bind fun t114 => ((penumbraref01_Ints.f kj2 t111 t114).bind fun t117 => (some t117)))) else (some true)) else (some false)) = some r := by rw [if_pos rfl] at H; exact H
              clear H
              have H := H1
              clear H1
              by_cases c25 : t107 = 0
              · rw [if_pos c25] at H
                have c25b0 : (t107 == 0) = true := beq_iff_eq.mpr c25
                have c25b1 : (t107 != 0) = false := bne_eq_false_iff_eq.mpr c25
                clear c25
                by_cases c26 : t103 = 0
                · rw [if_pos c26] at H
                  have c26b0 : (t103 == 0) = true := beq_iff_eq.mpr c26
                  have c26b1 : (t103 != 0) = false := bne_eq_false_iff_eq.mpr c26
                  clear c26
                  replace H := Option.bind_eq_some_iff.mp H
                  obtain ⟨t111, A270, H⟩ := H
                  replace H : ((penumbraref31_Rests.f kj2 l1).bind fun t114 => ((penumbraref01_Ints.f kj2 t111 t114).bind fun t117 => (some t117))) = some r := H
                  have A27 := mk_ A270
                  clear A270
                  replace H := Option.bind_eq_some_iff.mp H
                  obtain ⟨t114, A280, H⟩ := H
                  replace H : ((penumbraref01_Ints.f kj2 t111 t114).bind fun t117 => (some t117)) = some r := H
                  have A28 := mk_ A280
                  clear A280
                  replace H := Option.bind_eq_some_iff.mp H
                  obtain ⟨t117, A290, H⟩ := H
                  replace H : (some t117) = some r := H
                  have A29 := mk_ A290
                  clear A290
                  obtain rfl := Option.some.inj H
                  go_wp2_with (first | ((with_reducible refine gate_callee (f := 7) rfl ?_); refine goesL_ (some 24) rfl rfl Try.func7 (by kernel_rfl) rfl #[.slice A0 l0.length c0, .slice A1 l1.length c1] rfl (by (try simp only [List.map_toArray, List.map_cons, List.map_nil]); first | done | rfl | (simp only [List.length_drop, List.length_take]; rfl)) ?_; (with_reducible refine (solve_Line.calls _ _ l0 _ _ l1 t102 t103 _ ?side1 ?side2 ?side3 ?side4 A8.out).mono ?_); (case side1 => repeat (first | exact (Kd.C_below HR0.out HB.out) | (with_reducible refine Kd.C_alloc ?_ _) | (with_reducible refine Kd.C_drewN ?_ _) | (with_reducible refine Kd.C_drew ?_))); (case side2 => exact HC0.out); (case side3 => repeat (first | exact (Kd.C_below HR1.out HB.out) | (with_reducible refine Kd.C_alloc ?_ _) | (with_reducible refine Kd.C_drewN ?_ _) | (with_reducible refine Kd.C_drew ?_))); (case side4 => exact HC1.out); rintro e w30 ⟨v104, rfl, ho0, hb⟩; refine ⟨_, rfl, ?_⟩; have n0_ := mk_ (Kd.R_lower ho0 (below_size (by repeat (first | (with_reducible first | exact HB.out | apply bA_ | apply bN_ | apply bD_) | exact HB.out)))); have n1_ := mk_ (below_step (by repeat (first | (with_reducible first | exact HB.out | apply bA_ | apply bN_ | apply bD_) | exact HB.out)) hb); clear HB; have HO105 := n0_; have HB := n1_; clear n0_ n1_; (try clear hb); (try clear hb2); (try clear hk); (try clear hi); (try clear ho0); (try clear A8)) | ((with_reducible refine gate_callee (f := 8) rfl ?_); refine goesL_ (some 29) rfl rfl Try.func8 (by kernel_rfl) rfl #[.slice A0 l0.length c0] rfl (by (try simp only [List.map_toArray, List.map_cons, List.map_nil]); first | done | rfl | (simp only [List.length_drop, List.length_take]; rfl)) ?_; (with_reducible refine (solve_Det.calls _ _ l0 t106 t107 _ ?side1 ?side2 A9.out).mono ?_); (case side1 => repeat (first | exact (Kd.C_below HR0.out HB.out) | (with_reducible refine Kd.C_alloc ?_ _) | (with_reducible refine Kd.C_drewN ?_ _) | (with_reducible refine Kd.C_drew ?_))); (case side2 => exact HC0.out); rintro e w31 ⟨rfl, hb⟩; refine ⟨_, rfl, ?_⟩; have n0_ := mk_ (Kd.R_below (by (with_reducible repeat (first | apply Kd.R_alloc | apply Kd.R_drewN | apply Kd.R_drew)); exact HO105.out) hb); have n1_ := mk_ (below_step (by repeat (first | (with_reducible first | exact HB.out | apply bA_ | apply bN_ | apply bD_) | exact HB.out)) hb); clear HO105; clear HB; have HO105 := n0_; have HB := n1_; clear n0_ n1_; (try clear hb); (try clear hb2); (try clear hk); (try clear hi); (try clear A9)) | ((with_reducible refine gate_callee (f := 9) rfl ?_); refine goesL_ (some 33) rfl rfl Try.func9 (by kernel_rfl) rfl #[.slice A0 l0.length c0] rfl (by (try simp only [List.map_toArray, List.map_cons, List.map_nil]); first | done | rfl | (simp only [List.length_drop, List.length_take]; rfl)) ?_; (with_reducible refine (penumbraref31_Side.calls kj2 _ _ l0 t108 _ ?side1 ?side2 A10.out).mono ?_); (case side1 => repeat (first | exact (Kd.C_below HR0.out HB.out) | (with_reducible refine Kd.C_alloc ?_ _) | (with_reducible refine Kd.C_drewN ?_ _) | (with_reducible refine Kd.C_drew ?_))); (case side2 => exact HC0.out); rintro e w32 ⟨rfl, hb⟩; refine ⟨_, rfl, ?_⟩; have n0_ := mk_ (Kd.R_below (by (with_reducible repeat (first | apply Kd.R_alloc | apply Kd.R_drewN | apply Kd.R_drew)); exact HO105.out) hb); have n1_ := mk_ (below_step (by repeat (first | (with_reducible first | exact HB.out | apply bA_ | apply bN_ | apply bD_) | exact HB.out)) hb); clear HO105; clear HB; have HO105 := n0_; have HB := n1_; clear n0_ n1_; (try clear hb); (try clear hb2); (try clear hk); (try clear hi); (try clear A10)) | ((with_reducible refine gate_callee (f := 6) rfl ?_); refine goesL_ (some 56) rfl rfl Try.func6 (by kernel_rfl) rfl #[] rfl (by (try simp only [List.map_toArray, List.map_cons, List.map_nil]); first | done | rfl | (simp only [List.length_drop, List.length_take]; rfl)) ?_; (with_reducible refine (penumbralaw34_awake.calls kj2  true _ A23.out).mono ?_); rintro e w33 ⟨rfl, hb⟩; refine ⟨_, rfl, ?_⟩; have n0_ := mk_ (Kd.R_below (by (with_reducible repeat (first | apply Kd.R_alloc | apply Kd.R_drewN | apply Kd.R_drew)); exact HO105.out) hb); have n1_ := mk_ (below_step (by repeat (first | (with_reducible first | exact HB.out | apply bA_ | apply bN_ | apply bD_) | exact HB.out)) hb); clear HO105; clear HB; have HO105 := n0_; have HB := n1_; clear n0_ n1_; (try clear hb); (try clear hb2); (try clear hk); (try clear hi); obtain ⟨Ao34, co34, eo34⟩ := Kd.R_slice HO105.out; subst eo34; (try clear A23)) | (go_at_call 11; (with_reducible refine (penumbraref31_Apply.calls kj2 _ _ l0 _ _ t102 t108 t111 _ ?side1 ?side2 ?side3 ?side4 A27.out).mono ?_); (case side1 => repeat (first | exact (Kd.C_below HR0.out HB.out) | (with_reducible refine Kd.C_alloc ?_ _) | (with_reducible refine Kd.C_drewN ?_ _) | (with_reducible refine Kd.C_drew ?_))); (case side2 => exact HC0.out); (case side3 => repeat (first | exact (Kd.R_reads' HO105.out).2.2 | (with_reducible refine Kd.C_alloc ?_ _) | (with_reducible refine Kd.C_drewN ?_ _) | (with_reducible refine Kd.C_drew ?_))); (case side4 => exact (Kd.R_reads' HO105.out).2.1); rintro e w35 ⟨v112, rfl, ho0, hb⟩; have n0_ := mk_ (Kd.R_elder' (by (with_reducible repeat (first | apply Kd.R_alloc | apply Kd.R_drewN | apply Kd.R_drew)); exact HO105.out) (Kd.R_base ho0) hb); have n1_ := mk_ (Kd.R_lower (Kd.R_new' ho0 (Kd.R_lt (by (with_reducible repeat (first | apply Kd.R_alloc | apply Kd.R_drewN | apply Kd.R_drew)); exact HO105.out))) (below_size (by repeat (first | (with_reducible first | exact HB.out | apply bA_ | apply bN_ | apply bD_) | exact HB.out)))); have n2_ := mk_ (below_step (by repeat (first | (with_reducible first | exact HB.out | apply bA_ | apply bN_ | apply bD_) | exact HB.out)) hb); clear HO105; clear HB; have HO105 := n0_; have HO113 := n1_; have HB := n2_; clear n0_ n1_ n2_; (try clear hb); (try clear hb2); (try clear hk); (try clear hi); (try clear ho0); (try clear A27)) | (go_at_call 12; (with_reducible refine (penumbraref31_Rests.calls kj2 _ _ l1 t114 _ ?side1 ?side2 A28.out).mono ?_); (case side1 => repeat (first | exact (Kd.C_below HR1.out HB.out) | (with_reducible refine Kd.C_alloc ?_ _) | (with_reducible refine Kd.C_drewN ?_ _) | (with_reducible refine Kd.C_drew ?_))); (case side2 => exact HC1.out); rintro e w36 ⟨v115, rfl, ho0, hb⟩; have n0_ := mk_ (Kd.R_elder' (by (with_reducible repeat (first | apply Kd.R_alloc | apply Kd.R_drewN | apply Kd.R_drew)); exact HO105.out) (Kd.R_base ho0) hb); have n1_ := mk_ (Kd.R_elder' (by (with_reducible repeat (first | apply Kd.R_alloc | apply Kd.R_drewN | apply Kd.R_drew)); exact HO113.out) (Kd.R_base ho0) hb); have n2_ := mk_ (Kd.R_lower (Kd.R_new' (Kd.R_new' ho0 (Kd.R_lt (by (with_reducible repeat (first | apply Kd.R_alloc | apply Kd.R_drewN | apply Kd.R_drew)); exact HO105.out))) (Kd.R_lt (by (with_reducible repeat (first | apply Kd.R_alloc | apply Kd.R_drewN | apply Kd.R_drew)); exact HO113.out))) (below_size (by repeat (first | (with_reducible first | exact HB.out | apply bA_ | apply bN_ | apply bD_) | exact HB.out)))); have n3_ := mk_ (below_step (by repeat (first | (with_reducible first | exact HB.out | apply bA_ | apply bN_ | apply bD_) | exact HB.out)) hb); clear HO105; clear HO113; clear HB; have HO105 := n0_; have HO113 := n1_; have HO116 := n2_; have HB := n3_; clear n0_ n1_ n2_ n3_; (try clear hb); (try clear hb2); (try clear hk); (try clear hi); (try clear ho0); obtain ⟨Ao37, co37, eo37⟩ := Kd.R_slice HO113.out; subst eo37; obtain ⟨Ao38, co38, eo38⟩ := Kd.R_slice HO116.out; subst eo38; (try clear A28)) | (go_at_call 10; (with_reducible refine (penumbraref01_Ints.calls kj2 _ _ t111 _ _ t114 t117 _ ?side1 ?side2 ?side3 ?side4 A29.out).mono ?_); (case side1 => repeat (first | exact (Kd.R_reads' HO113.out).2.2 | (with_reducible refine Kd.C_alloc ?_ _) | (with_reducible refine Kd.C_drewN ?_ _) | (with_reducible refine Kd.C_drew ?_))); (case side2 => exact (Kd.R_reads' HO113.out).2.1); (case side3 => repeat (first | exact (Kd.R_reads' HO116.out).2.2 | (with_reducible refine Kd.C_alloc ?_ _) | (with_reducible refine Kd.C_drewN ?_ _) | (with_reducible refine Kd.C_drew ?_))); (case side4 => exact (Kd.R_reads' HO116.out).2.1); rintro e w' ⟨rfl, ⟨nd, rfl⟩⟩; (try clear A29)))
                  go_ret
                  exact ⟨by first | rfl | (simp [errW_none, errW_some] <;> rfl) | (simp [*, errW_none, errW_some] <;> rfl), by repeat (first | (with_reducible first | exact HB.out | apply bA_ | apply bN_ | apply bD_) | exact HB.out)⟩
                · rw [if_neg c26] at H
                  have c26b0 : (t103 == 0) = false := beq_eq_false_iff_ne.mpr c26
                  have c26b1 : (t103 != 0) = true := bne_iff_ne.mpr c26
                  obtain rfl := Option.some.inj H
                  go_wp2_with (first | ((with_reducible refine gate_callee (f := 7) rfl ?_); refine goesL_ (some 24) rfl rfl Try.func7 (by kernel_rfl) rfl #[.slice A0 l0.length c0, .slice A1 l1.length c1] rfl (by (try simp only [List.map_toArray, List.map_cons, List.map_nil]); first | done | rfl | (simp only [List.length_drop, List.length_take]; rfl)) ?_; (with_reducible refine (solve_Line.calls _ _ l0 _ _ l1 t102 t103 _ ?side1 ?side2 ?side3 ?side4 A8.out).mono ?_); (case side1 => repeat (first | exact (Kd.C_below HR0.out HB.out) | (with_reducible refine Kd.C_alloc ?_ _) | (with_reducible refine Kd.C_drewN ?_ _) | (with_reducible refine Kd.C_drew ?_))); (case side2 => exact HC0.out); (case side3 => repeat (first | exact (Kd.C_below HR1.out HB.out) | (with_reducible refine Kd.C_alloc ?_ _) | (with_reducible refine Kd.C_drewN ?_ _) | (with_reducible refine Kd.C_drew ?_))); (case side4 => exact HC1.out); rintro e w39 ⟨v104, rfl, ho0, hb⟩; refine ⟨_, rfl, ?_⟩; have n0_ := mk_ (Kd.R_lower ho0 (below_size (by repeat (first | (with_reducible first | exact HB.out | apply bA_ | apply bN_ | apply bD_) | exact HB.out)))); have n1_ := mk_ (below_step (by repeat (first | (with_reducible first | exact HB.out | apply bA_ | apply bN_ | apply bD_) | exact HB.out)) hb); clear HB; have HO105 := n0_; have HB := n1_; clear n0_ n1_; (try clear hb); (try clear hb2); (try clear hk); (try clear hi); (try clear ho0); (try clear A8)) | ((with_reducible refine gate_callee (f := 8) rfl ?_); refine goesL_ (some 29) rfl rfl Try.func8 (by kernel_rfl) rfl #[.slice A0 l0.length c0] rfl (by (try simp only [List.map_toArray, List.map_cons, List.map_nil]); first | done | rfl | (simp only [List.length_drop, List.length_take]; rfl)) ?_; (with_reducible refine (solve_Det.calls _ _ l0 t106 t107 _ ?side1 ?side2 A9.out).mono ?_); (case side1 => repeat (first | exact (Kd.C_below HR0.out HB.out) | (with_reducible refine Kd.C_alloc ?_ _) | (with_reducible refine Kd.C_drewN ?_ _) | (with_reducible refine Kd.C_drew ?_))); (case side2 => exact HC0.out); rintro e w40 ⟨rfl, hb⟩; refine ⟨_, rfl, ?_⟩; have n0_ := mk_ (Kd.R_below (by (with_reducible repeat (first | apply Kd.R_alloc | apply Kd.R_drewN | apply Kd.R_drew)); exact HO105.out) hb); have n1_ := mk_ (below_step (by repeat (first | (with_reducible first | exact HB.out | apply bA_ | apply bN_ | apply bD_) | exact HB.out)) hb); clear HO105; clear HB; have HO105 := n0_; have HB := n1_; clear n0_ n1_; (try clear hb); (try clear hb2); (try clear hk); (try clear hi); (try clear A9)) | ((with_reducible refine gate_callee (f := 9) rfl ?_); refine goesL_ (some 33) rfl rfl Try.func9 (by kernel_rfl) rfl #[.slice A0 l0.length c0] rfl (by (try simp only [List.map_toArray, List.map_cons, List.map_nil]); first | done | rfl | (simp only [List.length_drop, List.length_take]; rfl)) ?_; (with_reducible refine (penumbraref31_Side.calls kj2 _ _ l0 t108 _ ?side1 ?side2 A10.out).mono ?_); (case side1 => repeat (first | exact (Kd.C_below HR0.out HB.out) | (with_reducible refine Kd.C_alloc ?_ _) | (with_reducible refine Kd.C_drewN ?_ _) | (with_reducible refine Kd.C_drew ?_))); (case side2 => exact HC0.out); rintro e w41 ⟨rfl, hb⟩; refine ⟨_, rfl, ?_⟩; have n0_ := mk_ (Kd.R_below (by (with_reducible repeat (first | apply Kd.R_alloc | apply Kd.R_drewN | apply Kd.R_drew)); exact HO105.out) hb); have n1_ := mk_ (below_step (by repeat (first | (with_reducible first | exact HB.out | apply bA_ | apply bN_ | apply bD_) | exact HB.out)) hb); clear HO105; clear HB; have HO105 := n0_; have HB := n1_; clear n0_ n1_; (try clear hb); (try clear hb2); (try clear hk); (try clear hi); (try clear A10)) | ((with_reducible refine gate_callee (f := 6) rfl ?_); refine goesL_ (some 56) rfl rfl Try.func6 (by kernel_rfl) rfl #[] rfl (by (try simp only [List.map_toArray, List.map_cons, List.map_nil]); first | done | rfl | (simp only [List.length_drop, List.length_take]; rfl)) ?_; (with_reducible refine (penumbralaw34_awake.calls kj2  true _ A23.out).mono ?_); rintro e w42 ⟨rfl, hb⟩; refine ⟨_, rfl, ?_⟩; have n0_ := mk_ (Kd.R_below (by (with_reducible repeat (first | apply Kd.R_alloc | apply Kd.R_drewN | apply Kd.R_drew)); exact HO105.out) hb); have n1_ := mk_ (below_step (by repeat (first | (with_reducible first | exact HB.out | apply bA_ | apply bN_ | apply bD_) | exact HB.out)) hb); clear HO105; clear HB; have HO105 := n0_; have HB := n1_; clear n0_ n1_; (try clear hb); (try clear hb2); (try clear hk); (try clear hi); (try clear A23)))
                  go_ret
                  exact ⟨by first | rfl | (simp [errW_none, errW_some] <;> rfl) | (simp [*, errW_none, errW_some] <;> rfl), by repeat (first | (with_reducible first | exact HB.out | apply bA_ | apply bN_ | apply bD_) | exact HB.out)⟩
              · rw [if_neg c25] at H
                have c25b0 : (t107 == 0) = false := beq_eq_false_iff_ne.mpr c25
                have c25b1 : (t107 != 0) = true := bne_iff_ne.mpr c25
                exact absurd ((Option.some.inj H).trans hr_) (by decide)
            · replace c24 := Bool.eq_false_iff.mpr c24
              subst c24
              have H1 : (some false) = some r := by rw [if_neg (show ¬ (false = true) by decide)] at H; exact H
              clear H
              have H := H1
              clear H1
              exact absurd ((Option.some.inj H).trans hr_) (by decide)
          · rw [if_neg c22] at H
            have c22b0 : decide (4 < t108) = false := decide_eq_false c22
            clear c22
            have HC43 := mk_ H
            clear H
            go_upto_region 10 with (first | ((with_reducible refine gate_callee (f := 7) rfl ?_); refine goesL_ (some 24) rfl rfl Try.func7 (by kernel_rfl) rfl #[.slice A0 l0.length c0, .slice A1 l1.length c1] rfl (by (try simp only [List.map_toArray, List.map_cons, List.map_nil]); first | done | rfl | (simp only [List.length_drop, List.length_take]; rfl)) ?_; (with_reducible refine (solve_Line.calls _ _ l0 _ _ l1 t102 t103 _ ?side1 ?side2 ?side3 ?side4 A8.out).mono ?_); (case side1 => repeat (first | exact (Kd.C_below HR0.out HB.out) | (with_reducible refine Kd.C_alloc ?_ _) | (with_reducible refine Kd.C_drewN ?_ _) | (with_reducible refine Kd.C_drew ?_))); (case side2 => exact HC0.out); (case side3 => repeat (first | exact (Kd.C_below HR1.out HB.out) | (with_reducible refine Kd.C_alloc ?_ _) | (with_reducible refine Kd.C_drewN ?_ _) | (with_reducible refine Kd.C_drew ?_))); (case side4 => exact HC1.out); rintro e w44 ⟨v104, rfl, ho0, hb⟩; refine ⟨_, rfl, ?_⟩; have n0_ := mk_ (Kd.R_lower ho0 (below_size (by repeat (first | (with_reducible first | exact HB.out | apply bA_ | apply bN_ | apply bD_) | exact HB.out)))); have n1_ := mk_ (below_step (by repeat (first | (with_reducible first | exact HB.out | apply bA_ | apply bN_ | apply bD_) | exact HB.out)) hb); clear HB; have HO105 := n0_; have HB := n1_; clear n0_ n1_; (try clear hb); (try clear hb2); (try clear hk); (try clear hi); (try clear ho0); (try clear A8)) | ((with_reducible refine gate_callee (f := 8) rfl ?_); refine goesL_ (some 29) rfl rfl Try.func8 (by kernel_rfl) rfl #[.slice A0 l0.length c0] rfl (by (try simp only [List.map_toArray, List.map_cons, List.map_nil]); first | done | rfl | (simp only [List.length_drop, List.length_take]; rfl)) ?_; (with_reducible refine (solve_Det.calls _ _ l0 t106 t107 _ ?side1 ?side2 A9.out).mono ?_); (case side1 => repeat (first | exact (Kd.C_below HR0.out HB.out) | (with_reducible refine Kd.C_alloc ?_ _) | (with_reducible refine Kd.C_drewN ?_ _) | (with_reducible refine Kd.C_drew ?_))); (case side2 => exact HC0.out); rintro e w45 ⟨rfl, hb⟩; refine ⟨_, rfl, ?_⟩; have n0_ := mk_ (Kd.R_below (by (with_reducible repeat (first | apply Kd.R_alloc | apply Kd.R_drewN | apply Kd.R_drew)); exact HO105.out) hb); have n1_ := mk_ (below_step (by repeat (first | (with_reducible first | exact HB.out | apply bA_ | apply bN_ | apply bD_) | exact HB.out)) hb); clear HO105; clear HB; have HO105 := n0_; have HB := n1_; clear n0_ n1_; (try clear hb); (try clear hb2); (try clear hk); (try clear hi); (try clear A9)) | ((with_reducible refine gate_callee (f := 9) rfl ?_); refine goesL_ (some 33) rfl rfl Try.func9 (by kernel_rfl) rfl #[.slice A0 l0.length c0] rfl (by (try simp only [List.map_toArray, List.map_cons, List.map_nil]); first | done | rfl | (simp only [List.length_drop, List.length_take]; rfl)) ?_; (with_reducible refine (penumbraref31_Side.calls kj2 _ _ l0 t108 _ ?side1 ?side2 A10.out).mono ?_); (case side1 => repeat (first | exact (Kd.C_below HR0.out HB.out) | (with_reducible refine Kd.C_alloc ?_ _) | (with_reducible refine Kd.C_drewN ?_ _) | (with_reducible refine Kd.C_drew ?_))); (case side2 => exact HC0.out); rintro e w46 ⟨rfl, hb⟩; refine ⟨_, rfl, ?_⟩; have n0_ := mk_ (Kd.R_below (by (with_reducible repeat (first | apply Kd.R_alloc | apply Kd.R_drewN | apply Kd.R_drew)); exact HO105.out) hb); have n1_ := mk_ (below_step (by repeat (first | (with_reducible first | exact HB.out | apply bA_ | apply bN_ | apply bD_) | exact HB.out)) hb); clear HO105; clear HB; have HO105 := n0_; have HB := n1_; clear n0_ n1_; (try clear hb); (try clear hb2); (try clear hk); (try clear hi); (try clear A10)))
            (try simp only [Act.put, sT_, s0_, sS_])
            go_cut [82] (fun v82 wc => ∃ (kq : Nat) (x82_42 : Bool), v82 = .bool x82_42 ∧ Aside0 (penumbralaw34_SolveLines.j1 kq l0 l1 t102 t103 t108 x82_42 = some r) ∧ Aside0 (kq ≤ kj2) ∧ Aside0 (Kd.R (Kd.int .i64) 3 wc w.heap.size (fun _ => True) v104 t102) ∧ Aside0 (Below w.heap.size w wc))
            case first =>
              have H := HC43.out
              clear HC43
              by_cases c47 : t107 = 0
              · rw [if_pos c47] at H
                have c47b0 : (t107 == 0) = true := beq_iff_eq.mpr c47
                have c47b1 : (t107 != 0) = false := bne_eq_false_iff_eq.mpr c47
                clear c47
                (first | rw [c47b0] | (simp only [i64_w, i32_w]; rw [c47b0]) | skip)
                replace H := Option.bind_eq_some_iff.mp H
                obtain ⟨t118, A480, H⟩ := H
                replace H : (penumbralaw34_SolveLines.j1 kj2 l0 l1 t102 t103 t108 (t106 != t118)) = some r := H
                have A48 := mk_ A480
                clear A480
                have H' := mk_ H
                clear H
                go_wp2_with (first | (go_at_call 13; (with_reducible refine (penumbraref34_Det.calls kj2 _ _ l0 t108 t118 _ ?side1 ?side2 A48.out).mono ?_); (case side1 => repeat (first | exact (Kd.C_below HR0.out HB.out) | (with_reducible refine Kd.C_alloc ?_ _) | (with_reducible refine Kd.C_drewN ?_ _) | (with_reducible refine Kd.C_drew ?_))); (case side2 => exact HC0.out); rintro e w49 ⟨rfl, hb⟩; have n0_ := mk_ (Kd.R_below (by (with_reducible repeat (first | apply Kd.R_alloc | apply Kd.R_drewN | apply Kd.R_drew)); exact HO105.out) hb); have n1_ := mk_ (below_step (by repeat (first | (with_reducible first | exact HB.out | apply bA_ | apply bN_ | apply bD_) | exact HB.out)) hb); clear HO105; clear HB; have HO105 := n0_; have HB := n1_; clear n0_ n1_; (try clear hb); (try clear hb2); (try clear hk); (try clear hi); (try clear A48)))
                go_meet
                case rel => exact ⟨_, ((t106 != t118)), (by first | rfl | (simp; done) | (simp [*]; done)), H', ⟨by have := HJ2.out; first | omega | exact Nat.le_refl _⟩, ⟨by (with_reducible repeat (first | apply Kd.R_alloc | apply Kd.R_drewN | apply Kd.R_drew)); exact HO105.out⟩, ⟨by repeat (first | (with_reducible first | exact HB.out | apply bA_ | apply bN_ | apply bD_) | exact HB.out)⟩⟩
              · rw [if_neg c47] at H
                have c47b0 : (t107 == 0) = false := beq_eq_false_iff_ne.mpr c47
                have c47b1 : (t107 != 0) = true := bne_iff_ne.mpr c47
                (first | rw [c47b0] | (simp only [i64_w, i32_w]; rw [c47b0]) | skip)
                have H' := mk_ H
                clear H
                go_wp2
                go_meet
                case rel => exact ⟨_, (true), (by first | rfl | (simp; done) | (simp [*]; done)), H', ⟨by have := HJ2.out; first | omega | exact Nat.le_refl _⟩, ⟨by (with_reducible repeat (first | apply Kd.R_alloc | apply Kd.R_drewN | apply Kd.R_drew)); exact HO105.out⟩, ⟨by repeat (first | (with_reducible first | exact HB.out | apply bA_ | apply bN_ | apply bD_) | exact HB.out)⟩⟩
            case rest =>
              clear HC43
              try clear c1
              try clear c2
              try clear p2
              try clear c3
              try clear c4
              try clear c4b0
              try clear c4b1
              try clear c5
              try clear c6
              try clear c7
              try clear c8
              try clear c9
              try clear c11
              try clear c11b0
              try clear c11b1
              try clear c13
              try clear c14
              try clear c14b0
              try clear c14b1
              try clear c14b2
              try clear c15
              try clear c15b0
              try clear c15b1
              try clear c16
              try clear c16b0
              try clear c16b1
              try clear c22
              try clear c22b0
              try clear c24
              try clear c25
              try clear c25b0
              try clear c25b1
              try clear c26
              try clear c26b0
              try clear c26b1
              try clear c47
              try clear c47b0
              try clear c47b1
              try clear p2
              obtain ⟨kq, x82_42, rfl, HA, HJ42, HO_5, HB⟩ := hcut
              cases kq with
              | zero => exact absurd HA.out (by simp [penumbralaw34_SolveLines.j1])
              | succ kj42 =>
                have H := HA.out
                clear HA
                simp only [penumbralaw34_SolveLines.j1] at H
                by_cases c50 : x82_42 = true
                · subst c50
                  have H1 : (some false) = some r := by rw [if_pos rfl] at H; exact H
                  clear H
                  have H := H1
                  clear H1
                  exact absurd ((Option.some.inj H).trans hr_) (by decide)
                · replace c50 := Bool.eq_false_iff.mpr c50
                  subst c50
                  have H1 : (if t108 = (l1.length : Int) then ((penumbraref34_Line.f kj42 l0 l1 t108).bind fun bt120 => (if bt120.2 = true then ((penumbralaw34_awake.f kj42).bind fun t125 => (if t125 = true then (if t103 = 0 then ((penumbraref01_Ints.f kj42 t102 bt120.1).bind fun t126 => (if t126 = true then ((penumbraref31_Apply.f kj42 l0 t102 t108).bind fun t127 => ((penumbraref31_Rests.f kj42 l1).bind fun t130 => ((penumbraref01_Ints.f kj42 t127 t130).bind fun t133 => (some t133)))) else (some false))) else (some false)) else (some false))) else ((penumbralaw34_awake.f kj42).bind fun t124 => (if t124 = true then (if (t102.length : Int) = 0 then (some (t103 == 13)) else (some false)) else (some false))))) else ((penumbralaw34_awake.f kj42).bind fun t119 => (if t119 = true then (if (t102.length : Int) = 0 then (some (t103 == 14)) else (some false)) else (some false)))) = some r := by rw [if_neg (show ¬ (false = true) by decide)] at H; exact H
                  clear H
                  have H := H1
                  clear H1
                  by_cases c51 : t108 = (l1.length : Int)
                  · rw [if_pos c51] at H
                    have c51b0 : (t108 == (l1.length : Int)) = true := beq_iff_eq.mpr c51
                    have c51b1 : (t108 != (l1.length : Int)) = false := bne_eq_false_iff_eq.mpr c51
                    clear c51
                    replace H := Option.bind_eq_some_iff.mp H
                    obtain ⟨⟨t120, t121⟩, A520, H⟩ := H
                    replace H : (if t121 = true then ((penumbralaw34_awake.f kj42).bind fun t125 => (if t125 = true then (if t103 = 0 then ((penumbraref01_Ints.f kj42 t102 t120).bind fun t126 => (if t126 = true then ((penumbraref31_Apply.f kj42 l0 t102 t108).bind fun t127 => ((penumbraref31_Rests.f kj42 l1).bind fun t130 => ((penumbraref01_Ints.f kj42 t127 t130).bind fun t133 => (some t133)))) else (some false))) else (some false)) else (some false))) else ((penumbralaw34_awake.f kj42).bind fun t124 => (if t124 = true then (if (t102.length : Int) = 0 then (some (t103 == 13)) else (some false)) else (some false)))) = some r := H
                    have A52 := mk_ A520
                    clear A520
                    by_cases c53 : t121 = true
                    · subst c53
                      have H1 : ((penumbralaw34_awake.f kj42).bind fun t125 => (if t125 = true then (if t103 = 0 then ((penumbraref01_Ints.f kj42 t102 t120).bind fun t126 => (if t126 = true then ((penumbraref31_Apply.f kj42 l0 t102 t108).bind fun t127 => ((penumbraref31_Rests.f kj42 l1).bind fun t130 => ((penumbraref01_Ints.f kj42 t127 t130).bind fun t133 => (some t133)))) else (some false))) else (some false)) else (some false))) = some r := by rw [if_pos rfl] at H; exact H
                      clear H
                      have H := H1
                      clear H1
                      replace H := Option.bind_eq_some_iff.mp H
                      obtain ⟨t125, A540, H⟩ := H
                      replace H : (if t125 = true then (if t103 = 0 then ((penumbraref01_Ints.f kj42 t102 t120).bind fun t126 => (if t126 = true then ((penumbraref31_Apply.f kj42 l0 t102 t108).bind fun t127 => ((penumbraref31_Rests.f kj42 l1).bind fun t130 => ((penumbraref01_Ints.f kj42 t127 t130).bind fun t133 => (some t133)))) else (some false))) else (some false)) else (some false)) = some r := H
                      have A54 := mk_ A540
                      clear A540
                      by_cases c55 : t125 = true
                      · subst c55
                        have H1 : (if t103 = 0 then ((penumbraref01_Ints.f kj42 t102 t120).bind fun t126 => (if t126 = true then ((penumbraref31_Apply.f kj42 l0 t102 t108).bind fun t127 => ((penumbraref31_Rests.f kj42 l1).bind fun t130 => ((penumbraref01_Ints.f kj42 t127 t130).bind fun t133 => (some t133)))) else (some false))) else (some false)) = some r := by rw [if_pos rfl] at H; exact H
                        clear H
                        have H := H1
                        clear H1
                        by_cases c56 : t103 = 0
                        · rw [if_pos c56] at H
                          have c56b0 : (t103 == 0) = true := beq_iff_eq.mpr c56
                          have c56b1 : (t103 != 0) = false := bne_eq_false_iff_eq.mpr c56
                          clear c56
                          replace H := Option.bind_eq_some_iff.mp H
                          obtain ⟨t126, A570, H⟩ := H
                          replace H : (if t126 = true then ((penumbraref31_Apply.f kj42 l0 t102 t108).bind fun t127 => ((penumbraref31_Rests.f kj42 l1).bind fun t130 => ((penumbraref01_Ints.f kj42 t127 t130).bind fun t133 => (some t133)))) else (some false)) = some r := H
                          have A57 := mk_ A570
                          clear A570
                          by_cases c58 : t126 = true
                          · subst c58
                            have H1 : ((penumbraref31_Apply.f kj42 l0 t102 t108).bind fun t127 => ((penumbraref31_Rests.f kj42 l1).bind fun t130 => ((penumbraref01_Ints.f kj42 t127 t130).bind fun t133 => (some t133)))) = some r := by rw [if_pos rfl] at H; exact H
                            clear H
                            have H := H1
                            clear H1
                            replace H := Option.bind_eq_some_iff.mp H
                            obtain ⟨t127, A590, H⟩ := H
                            replace H : ((penumbraref31_Rests.f kj42 l1).bind fun t130 => ((penumbraref01_Ints.f kj42 t127 t130).bind fun t133 => (some t133))) = some r := H
                            have A59 := mk_ A590
                            clear A590
                            replace H := Option.bind_eq_some_iff.mp H
                            obtain ⟨t130, A600, H⟩ := H
                            replace H : ((penumbraref01_Ints.f kj42 t127 t130).bind fun t133 => (some t133)) = some r := H
                            have A60 := mk_ A600
                            clear A600
                            replace H := Option.bind_eq_some_iff.mp H
                            obtain ⟨t133, A610, H⟩ := H
                            replace H : (some t133) = some r := H
                            have A61 := mk_ A610
                            clear A610
                            obtain rfl := Option.some.inj H
                            go_wp2_with (first | ((with_reducible refine gate_callee (f := 14) rfl ?_); refine goesL_ (some 101) rfl rfl Try.func14 (by kernel_rfl) rfl #[.slice A0 l0.length c0, .slice A1 l1.length c1, .int .i64 t108] rfl (by (try simp only [List.map_toArray, List.map_cons, List.map_nil]); first | done | rfl | (simp only [List.length_drop, List.length_take]; rfl)) ?_; (with_reducible refine (penumbraref34_Line.calls kj42 _ _ l0 _ _ l1 t108 t120 true _ ?side1 ?side2 ?side3 ?side4 A52.out).mono ?_); (case side1 => repeat (first | exact (Kd.C_below HR0.out HB.out) | (with_reducible refine Kd.C_alloc ?_ _) | (with_reducible refine Kd.C_drewN ?_ _) | (with_reducible refine Kd.C_drew ?_))); (case side2 => exact HC0.out); (case side3 => repeat (first | exact (Kd.C_below HR1.out HB.out) | (with_reducible refine Kd.C_alloc ?_ _) | (with_reducible refine Kd.C_drewN ?_ _) | (with_reducible refine Kd.C_drew ?_))); (case side4 => exact HC1.out); rintro e w62 ⟨v122, rfl, ho0, hb⟩; refine ⟨_, rfl, ?_⟩; have n0_ := mk_ (Kd.R_elder' (by (with_reducible repeat (first | apply Kd.R_alloc | apply Kd.R_drewN | apply Kd.R_drew)); exact HO_5.out) (Kd.R_base ho0) hb); have n1_ := mk_ (Kd.R_lower (Kd.R_new' ho0 (Kd.R_lt (by (with_reducible repeat (first | apply Kd.R_alloc | apply Kd.R_drewN | apply Kd.R_drew)); exact HO_5.out))) (below_size (by repeat (first | (with_reducible first | exact HB.out | apply bA_ | apply bN_ | apply bD_) | exact HB.out)))); have n2_ := mk_ (below_step (by repeat (first | (with_reducible first | exact HB.out | apply bA_ | apply bN_ | apply bD_) | exact HB.out)) hb); clear HO_5; clear HB; have HO_5 := n0_; have HO123 := n1_; have HB := n2_; clear n0_ n1_ n2_; (try clear hb); (try clear hb2); (try clear hk); (try clear hi); (try clear ho0); (try clear A52)) | ((with_reducible refine gate_callee (f := 6) rfl ?_); refine goesL_ (some 116) rfl rfl Try.func6 (by kernel_rfl) rfl #[] rfl (by (try simp only [List.map_toArray, List.map_cons, List.map_nil]); first | done | rfl | (simp only [List.length_drop, List.length_take]; rfl)) ?_; (with_reducible refine (penumbralaw34_awake.calls kj42  true _ A54.out).mono ?_); rintro e w63 ⟨rfl, hb⟩; refine ⟨_, rfl, ?_⟩; have n0_ := mk_ (Kd.R_below (by (with_reducible repeat (first | apply Kd.R_alloc | apply Kd.R_drewN | apply Kd.R_drew)); exact HO_5.out) hb); have n1_ := mk_ (Kd.R_below (by (with_reducible repeat (first | apply Kd.R_alloc | apply Kd.R_drewN | apply Kd.R_drew)); exact HO123.out) hb); have n2_ := mk_ (below_step (by repeat (first | (with_reducible first | exact HB.out | apply bA_ | apply bN_ | apply bD_) | exact HB.out)) hb); clear HO_5; clear HO123; clear HB; have HO_5 := n0_; have HO123 := n1_; have HB := n2_; clear n0_ n1_ n2_; (try clear hb); (try clear hb2); (try clear hk); (try clear hi); obtain ⟨Ao64, co64, eo64⟩ := Kd.R_slice HO_5.out; subst eo64; obtain ⟨Ao65, co65, eo65⟩ := Kd.R_slice HO123.out; subst eo65; (try clear A54)) | (go_at_call 10; (with_reducible refine (penumbraref01_Ints.calls kj42 _ _ t102 _ _ t120 true _ ?side1 ?side2 ?side3 ?side4 A57.out).mono ?_); (case side1 => repeat (first | exact (Kd.R_reads' HO_5.out).2.2 | (with_reducible refine Kd.C_alloc ?_ _) | (with_reducible refine Kd.C_drewN ?_ _) | (with_reducible refine Kd.C_drew ?_))); (case side2 => exact (Kd.R_reads' HO_5.out).2.1); (case side3 => repeat (first | exact (Kd.R_reads' HO123.out).2.2 | (with_reducible refine Kd.C_alloc ?_ _) | (with_reducible refine Kd.C_drewN ?_ _) | (with_reducible refine Kd.C_drew ?_))); (case side4 => exact (Kd.R_reads' HO123.out).2.1); rintro e w' ⟨rfl, ⟨nd, rfl⟩⟩; (try clear A57)) | (go_at_call 11; (with_reducible refine (penumbraref31_Apply.calls kj42 _ _ l0 _ _ t102 t108 t127 _ ?side1 ?side2 ?side3 ?side4 A59.out).mono ?_); (case side1 => repeat (first | exact (Kd.C_below HR0.out (by repeat (first | (with_reducible first | exact HB.out | apply bA_ | apply bN_ | apply bD_) | exact HB.out))) | (with_reducible refine Kd.C_alloc ?_ _) | (with_reducible refine Kd.C_drewN ?_ _) | (with_reducible refine Kd.C_drew ?_))); (case side2 => exact HC0.out); (case side3 => repeat (first | exact (Kd.R_reads' HO_5.out).2.2 | (with_reducible refine Kd.C_alloc ?_ _) | (with_reducible refine Kd.C_drewN ?_ _) | (with_reducible refine Kd.C_drew ?_))); (case side4 => exact (Kd.R_reads' HO_5.out).2.1); rintro e w66 ⟨v128, rfl, ho0, hb⟩; have n0_ := mk_ (Kd.R_elder' (by (with_reducible repeat (first | apply Kd.R_alloc | apply Kd.R_drewN | apply Kd.R_drew)); exact HO_5.out) (Kd.R_base ho0) hb); have n1_ := mk_ (Kd.R_elder' (by (with_reducible repeat (first | apply Kd.R_alloc | apply Kd.R_drewN | apply Kd.R_drew)); exact HO123.out) (Kd.R_base ho0) hb); have n2_ := mk_ (Kd.R_lower (Kd.R_new' (Kd.R_new' ho0 (Kd.R_lt (by (with_reducible repeat (first | apply Kd.R_alloc | apply Kd.R_drewN | apply Kd.R_drew)); exact HO_5.out))) (Kd.R_lt (by (with_reducible repeat (first | apply Kd.R_alloc | apply Kd.R_drewN | apply Kd.R_drew)); exact HO123.out))) (below_size (by repeat (first | (with_reducible first | exact HB.out | apply bA_ | apply bN_ | apply bD_) | exact HB.out)))); have n3_ := mk_ (below_step (by repeat (first | (with_reducible first | exact HB.out | apply bA_ | apply bN_ | apply bD_) | exact HB.out)) hb); clear HO_5; clear HO123; clear HB; have HO_5 := n0_; have HO123 := n1_; have HO129 := n2_; have HB := n3_; clear n0_ n1_ n2_ n3_; (try clear hb); (try clear hb2); (try clear hk); (try clear hi); (try clear ho0); (try clear A59)) | (go_at_call 12; (with_reducible refine (penumbraref31_Rests.calls kj42 _ _ l1 t130 _ ?side1 ?side2 A60.out).mono ?_); (case side1 => repeat (first | exact (Kd.C_below HR1.out HB.out) | (with_reducible refine Kd.C_alloc ?_ _) | (with_reducible refine Kd.C_drewN ?_ _) | (with_reducible refine Kd.C_drew ?_))); (case side2 => exact HC1.out); rintro e w67 ⟨v131, rfl, ho0, hb⟩; have n0_ := mk_ (Kd.R_elder' (by (with_reducible repeat (first | apply Kd.R_alloc | apply Kd.R_drewN | apply Kd.R_drew)); exact HO_5.out) (Kd.R_base ho0) hb); have n1_ := mk_ (Kd.R_elder' (by (with_reducible repeat (first | apply Kd.R_alloc | apply Kd.R_drewN | apply Kd.R_drew)); exact HO123.out) (Kd.R_base ho0) hb); have n2_ := mk_ (Kd.R_elder' (by (with_reducible repeat (first | apply Kd.R_alloc | apply Kd.R_drewN | apply Kd.R_drew)); exact HO129.out) (Kd.R_base ho0) hb); have n3_ := mk_ (Kd.R_lower (Kd.R_new' (Kd.R_new' (Kd.R_new' ho0 (Kd.R_lt (by (with_reducible repeat (first | apply Kd.R_alloc | apply Kd.R_drewN | apply Kd.R_drew)); exact HO_5.out))) (Kd.R_lt (by (with_reducible repeat (first | apply Kd.R_alloc | apply Kd.R_drewN | apply Kd.R_drew)); exact HO123.out))) (Kd.R_lt (by (with_reducible repeat (first | apply Kd.R_alloc | apply Kd.R_drewN | apply Kd.R_drew)); exact HO129.out))) (below_size (by repeat (first | (with_reducible first | exact HB.out | apply bA_ | apply bN_ | apply bD_) | exact HB.out)))); have n4_ := mk_ (below_step (by repeat (first | (with_reducible first | exact HB.out | apply bA_ | apply bN_ | apply bD_) | exact HB.out)) hb); clear HO_5; clear HO123; clear HO129; clear HB; have HO_5 := n0_; have HO123 := n1_; have HO129 := n2_; have HO132 := n3_; have HB := n4_; clear n0_ n1_ n2_ n3_ n4_; (try clear hb); (try clear hb2); (try clear hk); (try clear hi); (try clear ho0); obtain ⟨Ao68, co68, eo68⟩ := Kd.R_slice HO129.out; subst eo68; obtain ⟨Ao69, co69, eo69⟩ := Kd.R_slice HO132.out; subst eo69; (try clear A60)) | (go_at_call 10; (with_reducible refine (penumbraref01_Ints.calls kj42 _ _ t127 _ _ t130 t133 _ ?side1 ?side2 ?side3 ?side4 A61.out).mono ?_); (case side1 => repeat (first | exact (Kd.R_reads' HO129.out).2.2 | (with_reducible refine Kd.C_alloc ?_ _) | (with_reducible refine Kd.C_drewN ?_ _) | (with_reducible refine Kd.C_drew ?_))); (case side2 => exact (Kd.R_reads' HO129.out).2.1); (case side3 => repeat (first | exact (Kd.R_reads' HO132.out).2.2 | (with_reducible refine Kd.C_alloc ?_ _) | (with_reducible refine Kd.C_drewN ?_ _) | (with_reducible refine Kd.C_drew ?_))); (case side4 => exact (Kd.R_reads' HO132.out).2.1); rintro e w' ⟨rfl, ⟨nd, rfl⟩⟩; (try clear A61)))
                            go_ret
                            exact ⟨by first | rfl | (simp [errW_none, errW_some] <;> rfl) | (simp [*, errW_none, errW_some] <;> rfl), by repeat (first | (with_reducible first | exact HB.out | apply bA_ | apply bN_ | apply bD_) | exact HB.out)⟩
                          · replace c58 := Bool.eq_false_iff.mpr c58
                            subst c58
                            have H1 : (some false) = some r := by rw [if_neg (show ¬ (false = true) by decide)] at H; exact H
                            clear H
                            have H := H1
                            clear H1
                            exact absurd ((Option.some.inj H).trans hr_) (by decide)
                        · rw [if_neg c56] at H
                          have c56b0 : (t103 == 0) = false := beq_eq_false_iff_ne.mpr c56
                          have c56b1 : (t103 != 0) = true := bne_iff_ne.mpr c56
                          exact absurd ((Option.some.inj H).trans hr_) (by decide)
                      · replace c55 := Bool.eq_false_iff.mpr c55
                        subst c55
                        have H1 : (some false) = some r := by rw [if_neg (show ¬ (false = true) by decide)] at H; exact H
                        clear H
                        have H := H1
                        clear H1
                        exact absurd ((Option.some.inj H).trans hr_) (by decide)
                    · replace c53 := Bool.eq_false_iff.mpr c53
                      subst c53
                      have H1 : ((penumbralaw34_awake.f kj42).bind fun t124 => (if t124 = true then (if (t102.length : Int) = 0 then (some (t103 == 13)) else (some false)) else (some false))) = some r := by rw [if_neg (show ¬ (false = true) by decide)] at H; exact H
                      clear H
                      have H := H1
                      clear H1
                      replace H := Option.bind_eq_some_iff.mp H
                      obtain ⟨t124, A700, H⟩ := H
                      replace H : (if t124 = true then (if (t102.length : Int) = 0 then (some (t103 == 13)) else (some false)) else (some false)) = some r := H
                      have A70 := mk_ A700
                      clear A700
                      by_cases c71 : t124 = true
                      · subst c71
                        have H1 : (if (t102.length : Int) = 0 then (some (t103 == 13)) else (some false)) = some r := by rw [if_pos rfl] at H; exact H
                        clear H
                        have H := H1
                        clear H1
                        by_cases c72 : (t102.length : Int) = 0
                        · rw [if_pos c72] at H
                          have c72b0 : ((t102.length : Int) == 0) = true := beq_iff_eq.mpr c72
                          have c72b1 : ((t102.length : Int) != 0) = false := bne_eq_false_iff_eq.mpr c72
                          clear c72
                          obtain rfl := Option.some.inj H
                          go_wp2_with (first | ((with_reducible refine gate_callee (f := 14) rfl ?_); refine goesL_ (some 101) rfl rfl Try.func14 (by kernel_rfl) rfl #[.slice A0 l0.length c0, .slice A1 l1.length c1, .int .i64 t108] rfl (by (try simp only [List.map_toArray, List.map_cons, List.map_nil]); first | done | rfl | (simp only [List.length_drop, List.length_take]; rfl)) ?_; (with_reducible refine (penumbraref34_Line.calls kj42 _ _ l0 _ _ l1 t108 t120 false _ ?side1 ?side2 ?side3 ?side4 A52.out).mono ?_); (case side1 => repeat (first | exact (Kd.C_below HR0.out HB.out) | (with_reducible refine Kd.C_alloc ?_ _) | (with_reducible refine Kd.C_drewN ?_ _) | (with_reducible refine Kd.C_drew ?_))); (case side2 => exact HC0.out); (case side3 => repeat (first | exact (Kd.C_below HR1.out HB.out) | (with_reducible refine Kd.C_alloc ?_ _) | (with_reducible refine Kd.C_drewN ?_ _) | (with_reducible refine Kd.C_drew ?_))); (case side4 => exact HC1.out); rintro e w73 ⟨v122, rfl, ho0, hb⟩; refine ⟨_, rfl, ?_⟩; have n0_ := mk_ (Kd.R_elder' (by (with_reducible repeat (first | apply Kd.R_alloc | apply Kd.R_drewN | apply Kd.R_drew)); exact HO_5.out) (Kd.R_base ho0) hb); have n1_ := mk_ (Kd.R_lower (Kd.R_new' ho0 (Kd.R_lt (by (with_reducible repeat (first | apply Kd.R_alloc | apply Kd.R_drewN | apply Kd.R_drew)); exact HO_5.out))) (below_size (by repeat (first | (with_reducible first | exact HB.out | apply bA_ | apply bN_ | apply bD_) | exact HB.out)))); have n2_ := mk_ (below_step (by repeat (first | (with_reducible first | exact HB.out | apply bA_ | apply bN_ | apply bD_) | exact HB.out)) hb); clear HO_5; clear HB; have HO_5 := n0_; have HO123 := n1_; have HB := n2_; clear n0_ n1_ n2_; (try clear hb); (try clear hb2); (try clear hk); (try clear hi); (try clear ho0); (try clear A52)) | ((with_reducible refine gate_callee (f := 6) rfl ?_); refine goesL_ (some 106) rfl rfl Try.func6 (by kernel_rfl) rfl #[] rfl (by (try simp only [List.map_toArray, List.map_cons, List.map_nil]); first | done | rfl | (simp only [List.length_drop, List.length_take]; rfl)) ?_; (with_reducible refine (penumbralaw34_awake.calls kj42  true _ A70.out).mono ?_); rintro e w74 ⟨rfl, hb⟩; refine ⟨_, rfl, ?_⟩; have n0_ := mk_ (Kd.R_below (by (with_reducible repeat (first | apply Kd.R_alloc | apply Kd.R_drewN | apply Kd.R_drew)); exact HO_5.out) hb); have n1_ := mk_ (Kd.R_below (by (with_reducible repeat (first | apply Kd.R_alloc | apply Kd.R_drewN | apply Kd.R_drew)); exact HO123.out) hb); have n2_ := mk_ (below_step (by repeat (first | (with_reducible first | exact HB.out | apply bA_ | apply bN_ | apply bD_) | exact HB.out)) hb); clear HO_5; clear HO123; clear HB; have HO_5 := n0_; have HO123 := n1_; have HB := n2_; clear n0_ n1_ n2_; (try clear hb); (try clear hb2); (try clear hk); (try clear hi); obtain ⟨Ao75, co75, eo75⟩ := Kd.R_slice HO_5.out; subst eo75; (try clear A70)))
                          go_ret
                          exact ⟨by first | rfl | (simp [errW_none, errW_some] <;> rfl) | (simp [*, errW_none, errW_some] <;> rfl), by repeat (first | (with_reducible first | exact HB.out | apply bA_ | apply bN_ | apply bD_) | exact HB.out)⟩
                        · rw [if_neg c72] at H
                          have c72b0 : ((t102.length : Int) == 0) = false := beq_eq_false_iff_ne.mpr c72
                          have c72b1 : ((t102.length : Int) != 0) = true := bne_iff_ne.mpr c72
                          have c72b2 : ¬ (t102 = []) := fun h_ => c72 (by rw [h_]; rfl)
                          exact absurd ((Option.some.inj H).trans hr_) (by decide)
                      · replace c71 := Bool.eq_false_iff.mpr c71
                        subst c71
                        have H1 : (some false) = some r := by rw [if_neg (show ¬ (false = true) by decide)] at H; exact H
                        clear H
                        have H := H1
                        clear H1
                        exact absurd ((Option.some.inj H).trans hr_) (by decide)
                  · rw [if_neg c51] at H
                    have c51b0 : (t108 == (l1.length : Int)) = false := beq_eq_false_iff_ne.mpr c51
                    have c51b1 : (t108 != (l1.length : Int)) = true := bne_iff_ne.mpr c51
                    replace H := Option.bind_eq_some_iff.mp H
                    obtain ⟨t119, A760, H⟩ := H
                    replace H : (if t119 = true then (if (t102.length : Int) = 0 then (some (t103 == 14)) else (some false)) else (some false)) = some r := H
                    have A76 := mk_ A760
                    clear A760
                    by_cases c77 : t119 = true
                    · subst c77
                      have H1 : (if (t102.length : Int) = 0 then (some (t103 == 14)) else (some false)) = some r := by rw [if_pos rfl] at H; exact H
                      clear H
                      have H := H1
                      clear H1
                      by_cases c78 : (t102.length : Int) = 0
                      · rw [if_pos c78] at H
                        have c78b0 : ((t102.length : Int) == 0) = true := beq_iff_eq.mpr c78
                        have c78b1 : ((t102.length : Int) != 0) = false := bne_eq_false_iff_eq.mpr c78
                        clear c78
                        obtain rfl := Option.some.inj H
                        go_wp2_with (first | ((with_reducible refine gate_callee (f := 6) rfl ?_); refine goesL_ (some 87) rfl rfl Try.func6 (by kernel_rfl) rfl #[] rfl (by (try simp only [List.map_toArray, List.map_cons, List.map_nil]); first | done | rfl | (simp only [List.length_drop, List.length_take]; rfl)) ?_; (with_reducible refine (penumbralaw34_awake.calls kj42  true _ A76.out).mono ?_); rintro e w79 ⟨rfl, hb⟩; refine ⟨_, rfl, ?_⟩; have n0_ := mk_ (Kd.R_below (by (with_reducible repeat (first | apply Kd.R_alloc | apply Kd.R_drewN | apply Kd.R_drew)); exact HO_5.out) hb); have n1_ := mk_ (below_step (by repeat (first | (with_reducible first | exact HB.out | apply bA_ | apply bN_ | apply bD_) | exact HB.out)) hb); clear HO_5; clear HB; have HO_5 := n0_; have HB := n1_; clear n0_ n1_; (try clear hb); (try clear hb2); (try clear hk); (try clear hi); obtain ⟨Ao80, co80, eo80⟩ := Kd.R_slice HO_5.out; subst eo80; (try clear A76)))
                        go_ret
                        exact ⟨by first | rfl | (simp [errW_none, errW_some] <;> rfl) | (simp [*, errW_none, errW_some] <;> rfl), by repeat (first | (with_reducible first | exact HB.out | apply bA_ | apply bN_ | apply bD_) | exact HB.out)⟩
                      · rw [if_neg c78] at H
                        have c78b0 : ((t102.length : Int) == 0) = false := beq_eq_false_iff_ne.mpr c78
                        have c78b1 : ((t102.length : Int) != 0) = true := bne_iff_ne.mpr c78
                        have c78b2 : ¬ (t102 = []) := fun h_ => c78 (by rw [h_]; rfl)
                        exact absurd ((Option.some.inj H).trans hr_) (by decide)
                    · replace c77 := Bool.eq_false_iff.mpr c77
                      subst c77
                      have H1 : (some false) = some r := by rw [if_neg (show ¬ (false = true) by decide)] at H; exact H
                      clear H
                      have H := H1
                      clear H1
                      exact absurd ((Option.some.inj H).trans hr_) (by decide)

/-- THE ONE PURE STATEMENT of penumbralaw34_SolveLines: yours. -/
def penumbralaw34_SolveLines.Pure : Prop := ∀ (l0 : List Int) (l1 : List Int), l0.length ≤ maxLen → l0.length * 8 ≤ 140737488351232 → (∀ x ∈ l0, (Lit.int .i64 x).wf = true) → l1.length ≤ maxLen → l1.length * 8 ≤ 140737488351232 → (∀ x ∈ l1, (Lit.int .i64 x).wf = true) → ∃ k, penumbralaw34_SolveLines.f k l0 l1 = some true
theorem penumbralaw34_SolveLines.walk (P : penumbralaw34_SolveLines.Pure) (a0 : Option Addr) (len0 cap0 : Nat) (z0 : List Int) (a1 : Option Addr) (len1 cap1 : Nat) (z1 : List Int) (w : World) (w0 : (a0 = none ∧ len0 = 0 ∧ cap0 = 0 ∧ z0 = []) ∨ ∃ x, a0 = some x ∧ len0 ≤ cap0 ∧ cap0 ≤ maxLen ∧ z0.length = cap0 ∧ (∀ i, i < z0.length → w.cell? (x.add i) = some (.int .i64 (z0.getD i 0))) ∧ ∀ n ∈ z0, (Lit.int .i64 n).wf = true) (y0 : len0 * 8 ≤ 140737488351232) (w1 : (a1 = none ∧ len1 = 0 ∧ cap1 = 0 ∧ z1 = []) ∨ ∃ x, a1 = some x ∧ len1 ≤ cap1 ∧ cap1 ≤ maxLen ∧ z1.length = cap1 ∧ (∀ i, i < z1.length → w.cell? (x.add i) = some (.int .i64 (z1.getD i 0))) ∧ ∀ n ∈ z1, (Lit.int .i64 n).wf = true) (y1 : len1 * 8 ≤ 140737488351232) :
    Calls Try.prog 3 #[.slice a0 len0 cap0, .slice a1 len1 cap1] w fun e w' => e = .returned (.bool true) ∧ Below w.heap.size w w' := by
  obtain ⟨l0, rfl, hr0, hm0, hw0, hc0⟩ := ReadsInt.ofRowC w0
  obtain ⟨l1, rfl, hr1, hm1, hw1, hc1⟩ := ReadsInt.ofRowC w1
  obtain ⟨k, h⟩ := P l0 l1 hm0 y0 hw0 hm1 y1 hw1
  refine (penumbralaw34_SolveLines.calls k _ _ l0 _ _ l1 true w (Kd.C_of_reads (d := (0 : Int)) (h1 := fun _ => rfl) hr0) hc0 (Kd.C_of_reads (d := (0 : Int)) (h1 := fun _ => rfl) hr1) hc1 h rfl).mono ?_
  rintro e w' ⟨rfl, hd⟩
  exact ⟨rfl, hd⟩

end Go.Proofs.Ytpjfelbamcgnhaa.X
