-- written by xprint.py (a program of this session, over the kit's print)
import Derived.Test.YtmpbjmjphapnoaaXx0
import Derived.Test.YtmpbjmjphapnoaaXxI44
import Derived.Test.YtmpbjmjphapnoaaXxI44b
import Derived.Test.YtmpbjmjphapnoaaXxL44awake
namespace Go.Proofs.Ytmpbjmjphapnoaa.X
open Go.RowKit Go.Proofs.YtmpbjmjphapnoaaW.PrintWords Go.Proofs.YtmpbjmjphapnoaaW.PrintLast Go.Proofs.YtmpbjmjphapnoaaW.PrintMore
attribute [local go_sem] max2_int min2_int max_two min_two max_three min_three max_four min_four   -- for this text's walks alone
set_option linter.unusedVariables false
set_option linter.unusedSimpArgs false

/-! ### penumbralaw44_PpmEncodes: function 3 -/
mutual
def penumbralaw44_PpmEncodes.j0 : Nat → Int → Int → List Int → ByteArray → Int → Int → Int → Bool → Option (Bool)
  | 0, _, _, _, _, _, _, _, _ => none
  | k + 1, x0, x1, x2, x7, x8, x9, x10, x35 => if x35 = true then ((penumbraref44_Encode.f k x0 x1 ([] : List Int)).bind fun t105 => (penumbralaw44_PpmEncodes.j1 k x0 x1 x2 x7 x8 x9 (wrap64 ((t105.size : Int) + (wrap64 ((wrap64 (3 * x0)) * x1)))))) else (penumbralaw44_PpmEncodes.j1 k x0 x1 x2 x7 x8 x9 x10)
def penumbralaw44_PpmEncodes.j1 : Nat → Int → Int → List Int → ByteArray → Int → Int → Int → Option (Bool)
  | 0, _, _, _, _, _, _, _ => none
  | k + 1, x0, x1, x2, x7, x8, x9, x10 => (ppm_Size.f k x0 x1).bind fun t106 => (if t106 = x10 then (if x9 = 0 then ((ppm_Decode.f x7).bind fun bt107 => ((penumbralaw44_awake.f k).bind fun t113 => (if t113 = true then ((penumbraref44_Encode.f k x0 x1 x2).bind fun t114 => (if x7.toList = t114.toList then (if x8 = 0 then (if bt107.1 = x0 then (if bt107.2.1 = x1 then (if (strOfNums bt107.2.2.1).toList = (strOfNums x2).toList then (some (bt107.2.2.2 == 0)) else (some false)) else (some false)) else (some false)) else (some false)) else (some false))) else (some false)))) else ((penumbralaw44_awake.f k).bind fun t115 => (if t115 = true then (if x7.toList = ([] : List UInt8) then (some (x8 == x9)) else (some false)) else (some false)))) else (some false))
end
def penumbralaw44_PpmEncodes.f (k : Nat) (a0 : Int) (a1 : Int) (l2 : List Int) : Option (Bool) := if (l2.length : Int) > 1000 then ((penumbralaw44_awake.f k).bind fun t101 => (some t101)) else ((ppm_Encode.f k a0 a1 l2).bind fun bt102 => ((penumbraref44_Check.f k a0 a1 l2).bind fun t104 => (if t104 = 12 then (penumbralaw44_PpmEncodes.j0 k a0 a1 l2 bt102.1 bt102.2 t104 0 false) else (penumbralaw44_PpmEncodes.j0 k a0 a1 l2 bt102.1 bt102.2 t104 0 (t104 != 4)))))
theorem penumbralaw44_PpmEncodes.mono_l : ∀ k, (∀ y0 y1 y2 y3 y4 y5 y6 y7, LeO (penumbralaw44_PpmEncodes.j0 k y0 y1 y2 y3 y4 y5 y6 y7) (penumbralaw44_PpmEncodes.j0 (k + 1) y0 y1 y2 y3 y4 y5 y6 y7)) ∧ (∀ y0 y1 y2 y3 y4 y5 y6, LeO (penumbralaw44_PpmEncodes.j1 k y0 y1 y2 y3 y4 y5 y6) (penumbralaw44_PpmEncodes.j1 (k + 1) y0 y1 y2 y3 y4 y5 y6))
  | 0 => ⟨fun _ _ _ _ _ _ _ _ r h => by simp [penumbralaw44_PpmEncodes.j0] at h, fun _ _ _ _ _ _ _ r h => by simp [penumbralaw44_PpmEncodes.j1] at h⟩
  | k + 1 => by
    obtain ⟨ih0, ih1⟩ := penumbralaw44_PpmEncodes.mono_l k
    refine ⟨?_, ?_⟩
    · intro y0 y1 y2 y3 y4 y5 y6 y7
      unfold penumbralaw44_PpmEncodes.j0
      repeat' first
      | (with_reducible exact ih0 _ _ _ _ _ _ _ _)
      | (with_reducible exact ih1 _ _ _ _ _ _ _)
      | (with_reducible exact penumbralaw44_awake.mono _)
      | (with_reducible exact penumbraref44_Check.mono _ _ _ _)
      | (with_reducible exact penumbraref44_Encode.mono _ _ _ _)
      | (with_reducible exact ppm_Encode.mono _ _ _ _)
      | (with_reducible exact ppm_Size.mono _ _ _)
      | (with_reducible exact LeO.refl _)
      | (with_reducible exact LeO.none _)
      | (with_reducible refine LeO.ite ?_ ?_)
      | (with_reducible refine LeO.bind ?_ (fun _ => ?_))
      | exact ih0 _ _ _ _ _ _ _ _
      | exact ih1 _ _ _ _ _ _ _
      | exact penumbralaw44_awake.mono _
      | exact penumbraref44_Check.mono _ _ _ _
      | exact penumbraref44_Encode.mono _ _ _ _
      | exact ppm_Encode.mono _ _ _ _
      | exact ppm_Size.mono _ _ _
      | exact LeO.none _
      | refine LeO.ite ?_ ?_
      | refine LeO.bind ?_ (fun _ => ?_)
    · intro y0 y1 y2 y3 y4 y5 y6
      unfold penumbralaw44_PpmEncodes.j1
      repeat' first
      | (with_reducible exact ih0 _ _ _ _ _ _ _ _)
      | (with_reducible exact ih1 _ _ _ _ _ _ _)
      | (with_reducible exact penumbralaw44_awake.mono _)
      | (with_reducible exact penumbraref44_Check.mono _ _ _ _)
      | (with_reducible exact penumbraref44_Encode.mono _ _ _ _)
      | (with_reducible exact ppm_Encode.mono _ _ _ _)
      | (with_reducible exact ppm_Size.mono _ _ _)
      | (with_reducible exact LeO.refl _)
      | (with_reducible exact LeO.none _)
      | (with_reducible refine LeO.ite ?_ ?_)
      | (with_reducible refine LeO.bind ?_ (fun _ => ?_))
      | exact ih0 _ _ _ _ _ _ _ _
      | exact ih1 _ _ _ _ _ _ _
      | exact penumbralaw44_awake.mono _
      | exact penumbraref44_Check.mono _ _ _ _
      | exact penumbraref44_Encode.mono _ _ _ _
      | exact ppm_Encode.mono _ _ _ _
      | exact ppm_Size.mono _ _ _
      | exact LeO.none _
      | refine LeO.ite ?_ ?_
      | refine LeO.bind ?_ (fun _ => ?_)
theorem penumbralaw44_PpmEncodes.mono : ∀ a0 a1 a2 k, LeO (penumbralaw44_PpmEncodes.f k a0 a1 a2) (penumbralaw44_PpmEncodes.f (k + 1) a0 a1 a2) := by
  intro a0 a1 a2 k
  obtain ⟨ih0, ih1⟩ := penumbralaw44_PpmEncodes.mono_l k
  unfold penumbralaw44_PpmEncodes.f
  repeat' first
      | (with_reducible exact ih0 _ _ _ _ _ _ _ _)
      | (with_reducible exact ih1 _ _ _ _ _ _ _)
      | (with_reducible exact penumbralaw44_awake.mono _)
      | (with_reducible exact penumbraref44_Check.mono _ _ _ _)
      | (with_reducible exact penumbraref44_Encode.mono _ _ _ _)
      | (with_reducible exact ppm_Encode.mono _ _ _ _)
      | (with_reducible exact ppm_Size.mono _ _ _)
      | (with_reducible exact LeO.refl _)
      | (with_reducible exact LeO.none _)
      | (with_reducible refine LeO.ite ?_ ?_)
      | (with_reducible refine LeO.bind ?_ (fun _ => ?_))
      | exact ih0 _ _ _ _ _ _ _ _
      | exact ih1 _ _ _ _ _ _ _
      | exact penumbralaw44_awake.mono _
      | exact penumbraref44_Check.mono _ _ _ _
      | exact penumbraref44_Encode.mono _ _ _ _
      | exact ppm_Encode.mono _ _ _ _
      | exact ppm_Size.mono _ _ _
      | exact LeO.none _
      | refine LeO.ite ?_ ?_
      | refine LeO.bind ?_ (fun _ => ?_)
set_option maxHeartbeats 8000000 in
set_option maxRecDepth 100000 in
theorem penumbralaw44_PpmEncodes.calls (k : Nat) (a0 : Int) (a1 : Int) (A2 : Option Addr) (c2 : Nat) (l2 : List Int) (r : Bool) (w : World) (hr2 : Kd.C (Kd.int .u8) w A2 l2.length l2) (hc2 : l2.length ≤ c2) (h : penumbralaw44_PpmEncodes.f k a0 a1 l2 = some r) (hr_ : r = true) :
    Calls Try.prog 3 #[.int .i64 a0, .int .i64 a1, .slice A2 l2.length c2] w fun e w' => e = .returned (.bool r) ∧ Below w.heap.size w w' := by
  have HR2 := Aside0.mk hr2
  have HC2 := Aside0.mk hc2
  clear hr2 hc2
  have HB := Aside0.mk (Below.refl w.heap.size w)
  have H : (if (l2.length : Int) > 1000 then ((penumbralaw44_awake.f k).bind fun t101 => (some t101)) else ((ppm_Encode.f k a0 a1 l2).bind fun bt102 => ((penumbraref44_Check.f k a0 a1 l2).bind fun t104 => (if t104 = 12 then (penumbralaw44_PpmEncodes.j0 k a0 a1 l2 bt102.1 bt102.2 t104 0 false) else (penumbralaw44_PpmEncodes.j0 k a0 a1 l2 bt102.1 bt102.2 t104 0 (t104 != 4)))))) = some r := h
  clear h
  by_cases c4 : (l2.length : Int) > 1000
  · rw [if_pos c4] at H
    have c4b0 : decide (1000 < (l2.length : Int)) = true := decide_eq_true c4
    have c4b1 : decide (1000 < l2.length) = true := decide_eq_true (by omega)
    clear c4
    replace H := Option.bind_eq_some_iff.mp H
    obtain ⟨t101, A50, H⟩ := H
    replace H : (some t101) = some r := H
    have A5 := Aside0.mk A50
    clear A50
    obtain rfl := Option.some.inj H
    go_enter Try.func3, Try.ntmps3
    go_wp2_with (first | ((with_reducible refine gate_callee (f := 7) rfl ?_); refine goesL_ (some 18) rfl rfl Try.func7 (by kernel_rfl) rfl #[] rfl (by (try simp only [List.map_toArray, List.map_cons, List.map_nil]); first | done | rfl | (simp only [List.length_drop, List.length_take]; rfl)) ?_; (with_reducible refine (penumbralaw44_awake.calls k  t101 _ A5.out).mono ?_); rintro e w6 ⟨rfl, hb⟩; refine ⟨_, rfl, ?_⟩; have n0_ := Aside0.mk (below_step (by repeat (first | (with_reducible first | exact HB.out | apply below_alloc | apply pw_below_drewN | apply below_drew1) | exact HB.out)) hb); clear HB; have HB := n0_; clear n0_; (try clear hb); (try clear hb2); (try clear hk); (try clear hi); (try clear A5)))
    go_ret
    exact ⟨by first | rfl | (simp [errW_none, errW_some] <;> rfl) | (simp [*, errW_none, errW_some] <;> rfl), by repeat (first | (with_reducible first | exact HB.out | apply below_alloc | apply pw_below_drewN | apply below_drew1) | exact HB.out)⟩
  · rw [if_neg c4] at H
    have c4b0 : decide (1000 < (l2.length : Int)) = false := decide_eq_false c4
    have c4b1 : decide (1000 < l2.length) = false := decide_eq_false (by omega)
    clear c4
    replace H := Option.bind_eq_some_iff.mp H
    obtain ⟨⟨t102, t103⟩, A70, H⟩ := H
    replace H : ((penumbraref44_Check.f k a0 a1 l2).bind fun t104 => (if t104 = 12 then (penumbralaw44_PpmEncodes.j0 k a0 a1 l2 t102 t103 t104 0 false) else (penumbralaw44_PpmEncodes.j0 k a0 a1 l2 t102 t103 t104 0 (t104 != 4)))) = some r := H
    have A7 := Aside0.mk A70
    clear A70
    replace H := Option.bind_eq_some_iff.mp H
    obtain ⟨t104, A80, H⟩ := H
    replace H : (if t104 = 12 then (penumbralaw44_PpmEncodes.j0 k a0 a1 l2 t102 t103 t104 0 false) else (penumbralaw44_PpmEncodes.j0 k a0 a1 l2 t102 t103 t104 0 (t104 != 4))) = some r := H
    have A8 := Aside0.mk A80
    clear A80
    have HC9 := Aside0.mk H
    clear H
    go_enter Try.func3, Try.ntmps3
    go_upto_region 6 with (first | ((with_reducible refine gate_callee (f := 8) rfl ?_); refine goesL_ (some 23) rfl rfl Try.func8 (by kernel_rfl) rfl #[.int .i64 a0, .int .i64 a1, .slice A2 l2.length c2] rfl (by (try simp only [List.map_toArray, List.map_cons, List.map_nil]); first | done | rfl | (simp only [List.length_drop, List.length_take]; rfl)) ?_; (with_reducible refine (ppm_Encode.calls k a0 a1 _ _ l2 t102 t103 _ ?side1 ?side2 A7.out).mono ?_); (case side1 => repeat (first | exact HR2.out | (with_reducible refine Kd.C_alloc ?_ _) | (with_reducible refine Kd.C_drewN ?_ _) | (with_reducible refine Kd.C_drew ?_))); (case side2 => exact HC2.out); rintro e w10 ⟨rfl, hb⟩; refine ⟨_, rfl, ?_⟩; have n0_ := Aside0.mk (below_step (by repeat (first | (with_reducible first | exact HB.out | apply below_alloc | apply pw_below_drewN | apply below_drew1) | exact HB.out)) hb); clear HB; have HB := n0_; clear n0_; (try clear hb); (try clear hb2); (try clear hk); (try clear hi); (try clear A7)) | ((with_reducible refine gate_callee (f := 9) rfl ?_); refine goesL_ (some 29) rfl rfl Try.func9 (by kernel_rfl) rfl #[.int .i64 a0, .int .i64 a1, .slice A2 l2.length c2] rfl (by (try simp only [List.map_toArray, List.map_cons, List.map_nil]); first | done | rfl | (simp only [List.length_drop, List.length_take]; rfl)) ?_; (with_reducible refine (penumbraref44_Check.calls k a0 a1 _ _ l2 t104 _ ?side1 ?side2 A8.out).mono ?_); (case side1 => repeat (first | exact (Kd.C_below HR2.out HB.out) | (with_reducible refine Kd.C_alloc ?_ _) | (with_reducible refine Kd.C_drewN ?_ _) | (with_reducible refine Kd.C_drew ?_))); (case side2 => exact HC2.out); rintro e w' ⟨rfl, ⟨nd, rfl⟩⟩; refine ⟨_, rfl, ?_⟩; (try clear A8)))
    (try simp only [Act.put, List.setIfInBounds_toArray, List.set_cons_zero, List.set_cons_succ])
    go_cut [35] (fun v35 wc => ∃ (kq : Nat) (x35_8 : Bool), v35 = .bool x35_8 ∧ Aside0 (penumbralaw44_PpmEncodes.j0 kq a0 a1 l2 t102 t103 t104 0 x35_8 = some r) ∧ Aside0 (kq ≤ k) ∧ Aside0 (Below w.heap.size w wc))
    case first =>
      have H := HC9.out
      clear HC9
      by_cases c11 : t104 = 12
      · rw [if_pos c11] at H
        have c11b0 : (t104 == 12) = true := beq_iff_eq.mpr c11
        have c11b1 : (t104 != 12) = false := bne_eq_false_iff_eq.mpr c11
        clear c11
        (first | rw [c11b0] | (simp only [i64_w, i32_w]; rw [c11b0]) | skip)
        have H' := Aside0.mk H
        clear H
        go_wp2
        go_meet
        case rel => exact ⟨_, (false), (by first | rfl | (simp; done) | (simp [*]; done)), H', ⟨by first | omega | exact Nat.le_refl _⟩, ⟨by repeat (first | (with_reducible first | exact HB.out | apply below_alloc | apply pw_below_drewN | apply below_drew1) | exact HB.out)⟩⟩
      · rw [if_neg c11] at H
        have c11b0 : (t104 == 12) = false := beq_eq_false_iff_ne.mpr c11
        have c11b1 : (t104 != 12) = true := bne_iff_ne.mpr c11
        (first | rw [c11b0] | (simp only [i64_w, i32_w]; rw [c11b0]) | skip)
        have H' := Aside0.mk H
        clear H
        go_wp2
        go_meet
        case rel => exact ⟨_, ((t104 != 4)), (by first | rfl | (simp; done) | (simp [*]; done)), H', ⟨by first | omega | exact Nat.le_refl _⟩, ⟨by repeat (first | (with_reducible first | exact HB.out | apply below_alloc | apply pw_below_drewN | apply below_drew1) | exact HB.out)⟩⟩
    case rest =>
      clear HC9
      try clear c1
      try clear c2
      try clear p2
      try clear c3
      try clear c4
      try clear c4b0
      try clear c4b1
      try clear c7
      try clear c8
      try clear c9
      try clear c11
      try clear c11b0
      try clear c11b1
      obtain ⟨kq, x35_8, rfl, HA, HJ8, HB⟩ := hcut
      cases kq with
      | zero => exact absurd HA.out (by simp [penumbralaw44_PpmEncodes.j0])
      | succ kj8 =>
        have H := HA.out
        clear HA
        simp only [penumbralaw44_PpmEncodes.j0] at H
        have HC12 := Aside0.mk H
        clear H
        go_upto_if 35 with (fail)
        go_cut [10] (fun v10 wc => ∃ (kq : Nat) (x10_11 : Int), v10 = .int .i64 x10_11 ∧ Aside0 (penumbralaw44_PpmEncodes.j1 kq a0 a1 l2 t102 t103 t104 x10_11 = some r) ∧ Aside0 (kq ≤ kj8) ∧ Aside0 (Below w.heap.size w wc))
        case first =>
          have H := HC12.out
          clear HC12
          by_cases c13 : x35_8 = true
          · subst c13
            have H1 : ((penumbraref44_Encode.f kj8 a0 a1 ([] : List Int)).bind fun t105 => (penumbralaw44_PpmEncodes.j1 kj8 a0 a1 l2 t102 t103 t104 (wrap64 ((t105.size : Int) + (wrap64 ((wrap64 (3 * a0)) * a1)))))) = some r := by rw [if_pos rfl] at H; exact H
            clear H
            have H := H1
            clear H1
            replace H := Option.bind_eq_some_iff.mp H
            obtain ⟨t105, A140, H⟩ := H
            replace H : (penumbralaw44_PpmEncodes.j1 kj8 a0 a1 l2 t102 t103 t104 (wrap64 ((t105.size : Int) + (wrap64 ((wrap64 (3 * a0)) * a1))))) = some r := H
            have A14 := Aside0.mk A140
            clear A140
            have H' := Aside0.mk H
            clear H
            go_wp2_with (first | ((with_reducible refine gate_callee (f := 10) rfl ?_); refine goesL_ (some 38) rfl rfl Try.func10 (by kernel_rfl) rfl #[.int .i64 a0, .int .i64 a1, .slice none 0 0] rfl (by (try simp only [List.map_toArray, List.map_cons, List.map_nil]); first | done | rfl | (simp only [List.length_drop, List.length_take]; rfl)) ?_; (refine (penumbraref44_Encode.calls kj8 a0 a1 _ _ ([] : List Int) t105 _ ?side1 ?side2 A14.out).mono ?_); (case side1 => exact Kd.C_nil _ _); (case side2 => exact Nat.le_refl _); rintro e w' ⟨rfl, ⟨nd, rfl⟩⟩; refine ⟨_, rfl, ?_⟩; (try clear A14)))
            go_meet
            case rel => exact ⟨_, (wrap64 ((t105.size : Int) + (wrap64 ((wrap64 (3 * a0)) * a1)))), (by first | rfl | (simp; done) | (simp [*]; done)), H', ⟨by have := HJ8.out; first | omega | exact Nat.le_refl _⟩, ⟨by repeat (first | (with_reducible first | exact HB.out | apply below_alloc | apply pw_below_drewN | apply below_drew1) | exact HB.out)⟩⟩
          · replace c13 := Bool.eq_false_iff.mpr c13
            subst c13
            have H1 : (penumbralaw44_PpmEncodes.j1 kj8 a0 a1 l2 t102 t103 t104 0) = some r := by rw [if_neg (show ¬ (false = true) by decide)] at H; exact H
            clear H
            have H := H1
            clear H1
            have H' := Aside0.mk H
            clear H
            go_wp2
            go_meet
            case rel => exact ⟨_, (0), (by first | rfl | (simp; done) | (simp [*]; done)), H', ⟨by have := HJ8.out; first | omega | exact Nat.le_refl _⟩, ⟨by repeat (first | (with_reducible first | exact HB.out | apply below_alloc | apply pw_below_drewN | apply below_drew1) | exact HB.out)⟩⟩
        case rest =>
          clear HC12
          try clear c1
          try clear c2
          try clear p2
          try clear c3
          try clear c4
          try clear c4b0
          try clear c4b1
          try clear p6
          try clear c7
          try clear c8
          try clear c9
          try clear c10
          try clear c11
          try clear c11b0
          try clear c11b1
          try clear c13
          try clear p2
          obtain ⟨kq, x10_11, rfl, HA, HJ11, HB⟩ := hcut
          cases kq with
          | zero => exact absurd HA.out (by simp [penumbralaw44_PpmEncodes.j1])
          | succ kj11 =>
            have H := HA.out
            clear HA
            simp only [penumbralaw44_PpmEncodes.j1] at H
            replace H := Option.bind_eq_some_iff.mp H
            obtain ⟨t106, A150, H⟩ := H
            replace H : (if t106 = x10_11 then (if t104 = 0 then ((ppm_Decode.f t102).bind fun bt107 => ((penumbralaw44_awake.f kj11).bind fun t113 => (if t113 = true then ((penumbraref44_Encode.f kj11 a0 a1 l2).bind fun t114 => (if t102.toList = t114.toList then (if t103 = 0 then (if bt107.1 = a0 then (if bt107.2.1 = a1 then (if (strOfNums bt107.2.2.1).toList = (strOfNums l2).toList then (some (bt107.2.2.2 == 0)) else (some false)) else (some false)) else (some false)) else (some false)) else (some false))) else (some false)))) else ((penumbralaw44_awake.f kj11).bind fun t115 => (if t115 = true then (if t102.toList = ([] : List UInt8) then (some (t103 == t104)) else (some false)) else (some false)))) else (some false)) = some r := H
            have A15 := Aside0.mk A150
            clear A150
            by_cases c16 : t106 = x10_11
            · rw [if_pos c16] at H
              have c16b0 : (t106 == x10_11) = true := beq_iff_eq.mpr c16
              have c16b1 : (t106 != x10_11) = false := bne_eq_false_iff_eq.mpr c16
              clear c16
              by_cases c17 : t104 = 0
              · rw [if_pos c17] at H
                have c17b0 : (t104 == 0) = true := beq_iff_eq.mpr c17
                have c17b1 : (t104 != 0) = false := bne_eq_false_iff_eq.mpr c17
                clear c17
                replace H := Option.bind_eq_some_iff.mp H
                obtain ⟨⟨t107, t108, t109, t110⟩, A180, H⟩ := H
                replace H : ((penumbralaw44_awake.f kj11).bind fun t113 => (if t113 = true then ((penumbraref44_Encode.f kj11 a0 a1 l2).bind fun t114 => (if t102.toList = t114.toList then (if t103 = 0 then (if t107 = a0 then (if t108 = a1 then (if (strOfNums t109).toList = (strOfNums l2).toList then (some (t110 == 0)) else (some false)) else (some false)) else (some false)) else (some false)) else (some false))) else (some false))) = some r := H
                have A18 := Aside0.mk A180
                clear A180
                replace H := Option.bind_eq_some_iff.mp H
                obtain ⟨t113, A190, H⟩ := H
                replace H : (if t113 = true then ((penumbraref44_Encode.f kj11 a0 a1 l2).bind fun t114 => (if t102.toList = t114.toList then (if t103 = 0 then (if t107 = a0 then (if t108 = a1 then (if (strOfNums t109).toList = (strOfNums l2).toList then (some (t110 == 0)) else (some false)) else (some false)) else (some false)) else (some false)) else (some false))) else (some false)) = some r := H
                have A19 := Aside0.mk A190
                clear A190
                by_cases c20 : t113 = true
                · subst c20
                  have H1 : ((penumbraref44_Encode.f kj11 a0 a1 l2).bind fun t114 => (if t102.toList = t114.toList then (if t103 = 0 then (if t107 = a0 then (if t108 = a1 then (if (strOfNums t109).toList = (strOfNums l2).toList then (some (t110 == 0)) else (some false)) else (some false)) else (some false)) else (some false)) else (some false))) = some r := by rw [if_pos rfl] at H; exact H
                  clear H
                  have H := H1
                  clear H1
                  replace H := Option.bind_eq_some_iff.mp H
                  obtain ⟨t114, A210, H⟩ := H
                  replace H : (if t102.toList = t114.toList then (if t103 = 0 then (if t107 = a0 then (if t108 = a1 then (if (strOfNums t109).toList = (strOfNums l2).toList then (some (t110 == 0)) else (some false)) else (some false)) else (some false)) else (some false)) else (some false)) = some r := H
                  have A21 := Aside0.mk A210
                  clear A210
                  by_cases c22 : t102.toList = t114.toList
                  · rw [if_pos c22] at H
                    have c22b0 : (t102.toList == t114.toList) = true := beq_iff_eq.mpr c22
                    have c22b1 : (t102.toList != t114.toList) = false := bne_eq_false_iff_eq.mpr c22
                    clear c22
                    by_cases c23 : t103 = 0
                    · rw [if_pos c23] at H
                      have c23b0 : (t103 == 0) = true := beq_iff_eq.mpr c23
                      have c23b1 : (t103 != 0) = false := bne_eq_false_iff_eq.mpr c23
                      clear c23
                      by_cases c24 : t107 = a0
                      · rw [if_pos c24] at H
                        have c24b0 : (t107 == a0) = true := beq_iff_eq.mpr c24
                        have c24b1 : (t107 != a0) = false := bne_eq_false_iff_eq.mpr c24
                        clear c24
                        by_cases c25 : t108 = a1
                        · rw [if_pos c25] at H
                          have c25b0 : (t108 == a1) = true := beq_iff_eq.mpr c25
                          have c25b1 : (t108 != a1) = false := bne_eq_false_iff_eq.mpr c25
                          clear c25
                          by_cases c26 : (strOfNums t109).toList = (strOfNums l2).toList
                          · rw [if_pos c26] at H
                            have c26b0 : ((strOfNums t109).toList == (strOfNums l2).toList) = true := beq_iff_eq.mpr c26
                            have c26b1 : ((strOfNums t109).toList != (strOfNums l2).toList) = false := bne_eq_false_iff_eq.mpr c26
                            clear c26
                            obtain rfl := Option.some.inj H
                            go_wp2_with (first | ((with_reducible refine gate_callee (f := 11) rfl ?_); refine goesL_ (some 47) rfl rfl Try.func11 (by kernel_rfl) rfl #[.int .i64 a0, .int .i64 a1] rfl (by (try simp only [List.map_toArray, List.map_cons, List.map_nil]); first | done | rfl | (simp only [List.length_drop, List.length_take]; rfl)) ?_; (with_reducible refine (ppm_Size.calls kj11 a0 a1 t106 _ A15.out).mono ?_); rintro e w27 ⟨rfl, hb⟩; refine ⟨_, rfl, ?_⟩; have n0_ := Aside0.mk (below_step (by repeat (first | (with_reducible first | exact HB.out | apply below_alloc | apply pw_below_drewN | apply below_drew1) | exact HB.out)) hb); clear HB; have HB := n0_; clear n0_; (try clear hb); (try clear hb2); (try clear hk); (try clear hi); (try clear A15)) | ((with_reducible refine gate_callee (f := 12) rfl ?_); refine goesL_ (some 64) rfl rfl Try.func12 (by kernel_rfl) rfl #[.string t102] rfl (by (try simp only [List.map_toArray, List.map_cons, List.map_nil]); first | done | rfl | (simp only [List.length_drop, List.length_take]; rfl)) ?_; (with_reducible refine (ppm_Decode.calls t102 t107 t108 t109 t110 _ A18.out).mono ?_); rintro e w28 ⟨v111, rfl, ho0, hb⟩; refine ⟨_, rfl, ?_⟩; have n0_ := Aside0.mk (Gv.RQ.lower ho0 (below_size (by repeat (first | (with_reducible first | exact HB.out | apply below_alloc | apply pw_below_drewN | apply below_drew1) | exact HB.out)))); have n1_ := Aside0.mk (below_step (by repeat (first | (with_reducible first | exact HB.out | apply below_alloc | apply pw_below_drewN | apply below_drew1) | exact HB.out)) hb); clear HB; have HO112 := n0_; have HB := n1_; clear n0_ n1_; (try clear hb); (try clear hb2); (try clear hk); (try clear hi); (try clear ho0); (try clear A18)) | ((with_reducible refine gate_callee (f := 7) rfl ?_); refine goesL_ (some 69) rfl rfl Try.func7 (by kernel_rfl) rfl #[] rfl (by (try simp only [List.map_toArray, List.map_cons, List.map_nil]); first | done | rfl | (simp only [List.length_drop, List.length_take]; rfl)) ?_; (with_reducible refine (penumbralaw44_awake.calls kj11  true _ A19.out).mono ?_); rintro e w29 ⟨rfl, hb⟩; refine ⟨_, rfl, ?_⟩; have n0_ := Aside0.mk (Gv.RQ.below (by (with_reducible repeat (first | apply Gv.RQ.alloc | apply Gv.RQ.drewN | apply Gv.RQ.drew)); exact HO112.out) hb); have n1_ := Aside0.mk (below_step (by repeat (first | (with_reducible first | exact HB.out | apply below_alloc | apply pw_below_drewN | apply below_drew1) | exact HB.out)) hb); clear HO112; clear HB; have HO112 := n0_; have HB := n1_; clear n0_ n1_; (try clear hb); (try clear hb2); (try clear hk); (try clear hi); (try clear A19)) | (go_at_call 10; (with_reducible refine (penumbraref44_Encode.calls kj11 a0 a1 _ _ l2 t114 _ ?side1 ?side2 A21.out).mono ?_); (case side1 => repeat (first | exact (Kd.C_below HR2.out HB.out) | (with_reducible refine Kd.C_alloc ?_ _) | (with_reducible refine Kd.C_drewN ?_ _) | (with_reducible refine Kd.C_drew ?_))); (case side2 => exact HC2.out); rintro e w' ⟨rfl, ⟨nd, rfl⟩⟩; have hcv30 := Gv.RQ.string (P := Try.prog) Try.underlying22 Try.underlying5 Try.underlying9 (Gv.RQ.drewN HO112.out nd); have hcv31 := Kd.C_string (P := Try.prog) (A := A2) (c := c2) Try.underlying22 Try.underlying5 Try.underlying9 (Kd.C_below HR2.out (pw_below_drewN HB.out nd)); (try clear A21)))
                            go_ret
                            exact ⟨by first | rfl | (simp [errW_none, errW_some] <;> rfl) | (simp [*, errW_none, errW_some] <;> rfl), by repeat (first | (with_reducible first | exact HB.out | apply below_alloc | apply pw_below_drewN | apply below_drew1) | exact HB.out)⟩
                          · rw [if_neg c26] at H
                            have c26b0 : ((strOfNums t109).toList == (strOfNums l2).toList) = false := beq_eq_false_iff_ne.mpr c26
                            have c26b1 : ((strOfNums t109).toList != (strOfNums l2).toList) = true := bne_iff_ne.mpr c26
                            exact absurd ((Option.some.inj H).trans hr_) (by decide)
                        · rw [if_neg c25] at H
                          have c25b0 : (t108 == a1) = false := beq_eq_false_iff_ne.mpr c25
                          have c25b1 : (t108 != a1) = true := bne_iff_ne.mpr c25
                          exact absurd ((Option.some.inj H).trans hr_) (by decide)
                      · rw [if_neg c24] at H
                        have c24b0 : (t107 == a0) = false := beq_eq_false_iff_ne.mpr c24
                        have c24b1 : (t107 != a0) = true := bne_iff_ne.mpr c24
                        exact absurd ((Option.some.inj H).trans hr_) (by decide)
                    · rw [if_neg c23] at H
                      have c23b0 : (t103 == 0) = false := beq_eq_false_iff_ne.mpr c23
                      have c23b1 : (t103 != 0) = true := bne_iff_ne.mpr c23
                      exact absurd ((Option.some.inj H).trans hr_) (by decide)
                  · rw [if_neg c22] at H
                    have c22b0 : (t102.toList == t114.toList) = false := beq_eq_false_iff_ne.mpr c22
                    have c22b1 : (t102.toList != t114.toList) = true := bne_iff_ne.mpr c22
                    exact absurd ((Option.some.inj H).trans hr_) (by decide)
                · replace c20 := Bool.eq_false_iff.mpr c20
                  subst c20
                  have H1 : (some false) = some r := by rw [if_neg (show ¬ (false = true) by decide)] at H; exact H
                  clear H
                  have H := H1
                  clear H1
                  exact absurd ((Option.some.inj H).trans hr_) (by decide)
              · rw [if_neg c17] at H
                have c17b0 : (t104 == 0) = false := beq_eq_false_iff_ne.mpr c17
                have c17b1 : (t104 != 0) = true := bne_iff_ne.mpr c17
                replace H := Option.bind_eq_some_iff.mp H
                obtain ⟨t115, A320, H⟩ := H
                replace H : (if t115 = true then (if t102.toList = ([] : List UInt8) then (some (t103 == t104)) else (some false)) else (some false)) = some r := H
                have A32 := Aside0.mk A320
                clear A320
                by_cases c33 : t115 = true
                · subst c33
                  have H1 : (if t102.toList = ([] : List UInt8) then (some (t103 == t104)) else (some false)) = some r := by rw [if_pos rfl] at H; exact H
                  clear H
                  have H := H1
                  clear H1
                  by_cases c34 : t102.toList = ([] : List UInt8)
                  · rw [if_pos c34] at H
                    have c34b0 : (t102.toList == ([] : List UInt8)) = true := beq_iff_eq.mpr c34
                    have c34b1 : (t102.toList != ([] : List UInt8)) = false := bne_eq_false_iff_eq.mpr c34
                    clear c34
                    obtain rfl := Option.some.inj H
                    go_wp2_with (first | ((with_reducible refine gate_callee (f := 11) rfl ?_); refine goesL_ (some 47) rfl rfl Try.func11 (by kernel_rfl) rfl #[.int .i64 a0, .int .i64 a1] rfl (by (try simp only [List.map_toArray, List.map_cons, List.map_nil]); first | done | rfl | (simp only [List.length_drop, List.length_take]; rfl)) ?_; (with_reducible refine (ppm_Size.calls kj11 a0 a1 t106 _ A15.out).mono ?_); rintro e w35 ⟨rfl, hb⟩; refine ⟨_, rfl, ?_⟩; have n0_ := Aside0.mk (below_step (by repeat (first | (with_reducible first | exact HB.out | apply below_alloc | apply pw_below_drewN | apply below_drew1) | exact HB.out)) hb); clear HB; have HB := n0_; clear n0_; (try clear hb); (try clear hb2); (try clear hk); (try clear hi); (try clear A15)) | ((with_reducible refine gate_callee (f := 7) rfl ?_); refine goesL_ (some 52) rfl rfl Try.func7 (by kernel_rfl) rfl #[] rfl (by (try simp only [List.map_toArray, List.map_cons, List.map_nil]); first | done | rfl | (simp only [List.length_drop, List.length_take]; rfl)) ?_; (with_reducible refine (penumbralaw44_awake.calls kj11  true _ A32.out).mono ?_); rintro e w36 ⟨rfl, hb⟩; refine ⟨_, rfl, ?_⟩; have n0_ := Aside0.mk (below_step (by repeat (first | (with_reducible first | exact HB.out | apply below_alloc | apply pw_below_drewN | apply below_drew1) | exact HB.out)) hb); clear HB; have HB := n0_; clear n0_; (try clear hb); (try clear hb2); (try clear hk); (try clear hi); (try clear A32)))
                    go_ret
                    exact ⟨by first | rfl | (simp [errW_none, errW_some] <;> rfl) | (simp [*, errW_none, errW_some] <;> rfl), by repeat (first | (with_reducible first | exact HB.out | apply below_alloc | apply pw_below_drewN | apply below_drew1) | exact HB.out)⟩
                  · rw [if_neg c34] at H
                    have c34b0 : (t102.toList == ([] : List UInt8)) = false := beq_eq_false_iff_ne.mpr c34
                    have c34b1 : (t102.toList != ([] : List UInt8)) = true := bne_iff_ne.mpr c34
                    exact absurd ((Option.some.inj H).trans hr_) (by decide)
                · replace c33 := Bool.eq_false_iff.mpr c33
                  subst c33
                  have H1 : (some false) = some r := by rw [if_neg (show ¬ (false = true) by decide)] at H; exact H
                  clear H
                  have H := H1
                  clear H1
                  exact absurd ((Option.some.inj H).trans hr_) (by decide)
            · rw [if_neg c16] at H
              have c16b0 : (t106 == x10_11) = false := beq_eq_false_iff_ne.mpr c16
              have c16b1 : (t106 != x10_11) = true := bne_iff_ne.mpr c16
              exact absurd ((Option.some.inj H).trans hr_) (by decide)

/-- THE ONE PURE STATEMENT of penumbralaw44_PpmEncodes: yours. -/
def penumbralaw44_PpmEncodes.Pure : Prop := ∀ (a0 : Int) (a1 : Int) (l2 : List Int), (Lit.int .i64 a0).wf = true → (Lit.int .i64 a1).wf = true → l2.length ≤ maxLen → l2.length * 1 ≤ 140737488351232 → (∀ x ∈ l2, (Lit.int .u8 x).wf = true) → ∃ k, penumbralaw44_PpmEncodes.f k a0 a1 l2 = some true
theorem penumbralaw44_PpmEncodes.walk (P : penumbralaw44_PpmEncodes.Pure) (a0 : Int) (a1 : Int) (a2 : Option Addr) (len2 cap2 : Nat) (z2 : List Int) (w : World) (w0 : (Lit.int .i64 a0).wf = true) (w1 : (Lit.int .i64 a1).wf = true) (w2 : (a2 = none ∧ len2 = 0 ∧ cap2 = 0 ∧ z2 = []) ∨ ∃ x, a2 = some x ∧ len2 ≤ cap2 ∧ cap2 ≤ maxLen ∧ z2.length = cap2 ∧ (∀ i, i < z2.length → w.cell? (x.add i) = some (.int .u8 (z2.getD i 0))) ∧ ∀ n ∈ z2, (Lit.int .u8 n).wf = true) (y2 : len2 * 1 ≤ 140737488351232) :
    Calls Try.prog 3 #[.int .i64 a0, .int .i64 a1, .slice a2 len2 cap2] w fun e w' => e = .returned (.bool true) ∧ Below w.heap.size w w' := by
  obtain ⟨l2, rfl, hr2, hm2, hw2, hc2⟩ := ReadsInt.ofRowC w2
  obtain ⟨k, h⟩ := P a0 a1 l2 w0 w1 hm2 y2 hw2
  refine (penumbralaw44_PpmEncodes.calls k a0 a1 _ _ l2 true w (Kd.C_of_reads (d := (0 : Int)) (h1 := fun _ => rfl) hr2) hc2 h rfl).mono ?_
  rintro e w' ⟨rfl, hd⟩
  exact ⟨rfl, hd⟩

end Go.Proofs.Ytmpbjmjphapnoaa.X
