-- written by xprint.py (a program of this session, over the kit's print)
import Derived.Test.YtjfegfhhgekcfaaXx0
import Derived.Test.YtjfegfhhgekcfaaXxH41b
import Derived.Test.YtjfegfhhgekcfaaXxH41
import Derived.Test.YtjfegfhhgekcfaaXxL41awake
namespace Go.Proofs.Ytjfegfhhgekcfaa.X
open Go.RowKit Go.Proofs.YtjfegfhhgekcfaaW.PrintWords Go.Proofs.YtjfegfhhgekcfaaW.PrintLast Go.Proofs.YtjfegfhhgekcfaaW.PrintMore
attribute [local go_sem] max2_int min2_int max_two min_two max_three min_three max_four min_four   -- for this text's walks alone
set_option linter.unusedVariables false
set_option linter.unusedSimpArgs false

/-! ### penumbralaw41_OrderCodes: function 3 -/
mutual
def penumbralaw41_OrderCodes.j0 : Nat → Int → Int → Int → Int → Int → Int → Int → Int → Bool → Option (Bool)
  | 0, _, _, _, _, _, _, _, _, _ => none
  | k + 1, x0, x1, x2, x7, x8, x9, x10, x11, x40 => if x40 = true then (if x7 = 0 then (if x8 = 3 then (penumbralaw41_OrderCodes.j1 k x2 x9 x10 x11) else (some false)) else (some false)) else ((order_Of.f k x7).bind fun bt106 => ((penumbraref41_Code.f k x0 x1).bind fun t109 => (if x7 = t109 then (if x8 = 0 then (if bt106.1 = x0 then (if bt106.2.1 = x1 then (if bt106.2.2 = 0 then (penumbralaw41_OrderCodes.j1 k x2 x9 x10 x11) else (some false)) else (some false)) else (some false)) else (some false)) else (some false))))
def penumbralaw41_OrderCodes.j1 : Nat → Int → Int → Int → Int → Option (Bool)
  | 0, _, _, _, _ => none
  | k + 1, x2, x9, x10, x11 => if x2 < 0 then (penumbralaw41_OrderCodes.j2 k x2 x9 x10 x11 true) else (penumbralaw41_OrderCodes.j2 k x2 x9 x10 x11 (decide (x2 > 4294967295)))
def penumbralaw41_OrderCodes.j2 : Nat → Int → Int → Int → Int → Bool → Option (Bool)
  | 0, _, _, _, _, _ => none
  | k + 1, x2, x9, x10, x11, x81 => if x81 = true then ((penumbralaw41_awake.f k).bind fun t110 => (if t110 = true then (if x9 = 0 then (if x10 = 0 then (some (x11 == 3)) else (some false)) else (some false)) else (some false))) else ((penumbralaw41_awake.f k).bind fun t111 => (if t111 = true then (if x11 = 0 then ((penumbraref41_Code.f k x9 x10).bind fun t112 => (some (t112 == x2))) else (some false)) else (some false)))
end
def penumbralaw41_OrderCodes.f (k : Nat) (a0 : Int) (a1 : Int) (a2 : Int) : Option (Bool) := (order_Code.f a0 a1).bind fun bt101 => ((order_Of.f k a2).bind fun bt103 => (if a0 < 0 then (penumbralaw41_OrderCodes.j0 k a0 a1 a2 bt101.1 bt101.2 bt103.1 bt103.2.1 bt103.2.2 true) else (if a1 < 0 then (penumbralaw41_OrderCodes.j0 k a0 a1 a2 bt101.1 bt101.2 bt103.1 bt103.2.1 bt103.2.2 true) else (if a0 > 65535 then (penumbralaw41_OrderCodes.j0 k a0 a1 a2 bt101.1 bt101.2 bt103.1 bt103.2.1 bt103.2.2 true) else (penumbralaw41_OrderCodes.j0 k a0 a1 a2 bt101.1 bt101.2 bt103.1 bt103.2.1 bt103.2.2 (decide (a1 > 65535)))))))
theorem penumbralaw41_OrderCodes.mono_l : ∀ k, (∀ y0 y1 y2 y3 y4 y5 y6 y7 y8, LeO (penumbralaw41_OrderCodes.j0 k y0 y1 y2 y3 y4 y5 y6 y7 y8) (penumbralaw41_OrderCodes.j0 (k + 1) y0 y1 y2 y3 y4 y5 y6 y7 y8)) ∧ (∀ y0 y1 y2 y3, LeO (penumbralaw41_OrderCodes.j1 k y0 y1 y2 y3) (penumbralaw41_OrderCodes.j1 (k + 1) y0 y1 y2 y3)) ∧ (∀ y0 y1 y2 y3 y4, LeO (penumbralaw41_OrderCodes.j2 k y0 y1 y2 y3 y4) (penumbralaw41_OrderCodes.j2 (k + 1) y0 y1 y2 y3 y4))
  | 0 => ⟨fun _ _ _ _ _ _ _ _ _ r h => by simp [penumbralaw41_OrderCodes.j0] at h, fun _ _ _ _ r h => by simp [penumbralaw41_OrderCodes.j1] at h, fun _ _ _ _ _ r h => by simp [penumbralaw41_OrderCodes.j2] at h⟩
  | k + 1 => by
    obtain ⟨ih0, ih1, ih2⟩ := penumbralaw41_OrderCodes.mono_l k
    refine ⟨?_, ?_, ?_⟩
    · intro y0 y1 y2 y3 y4 y5 y6 y7 y8
      unfold penumbralaw41_OrderCodes.j0
      repeat' first
      | (with_reducible exact ih0 _ _ _ _ _ _ _ _ _)
      | (with_reducible exact ih1 _ _ _ _)
      | (with_reducible exact ih2 _ _ _ _ _)
      | (with_reducible exact order_Of.mono _ _)
      | (with_reducible exact penumbralaw41_awake.mono _)
      | (with_reducible exact penumbraref41_Code.mono _ _ _)
      | (with_reducible exact LeO.refl _)
      | (with_reducible exact LeO.none _)
      | (with_reducible refine LeO.ite ?_ ?_)
      | (with_reducible refine LeO.bind ?_ (fun _ => ?_))
      | exact ih0 _ _ _ _ _ _ _ _ _
      | exact ih1 _ _ _ _
      | exact ih2 _ _ _ _ _
      | exact order_Of.mono _ _
      | exact penumbralaw41_awake.mono _
      | exact penumbraref41_Code.mono _ _ _
      | exact LeO.none _
      | refine LeO.ite ?_ ?_
      | refine LeO.bind ?_ (fun _ => ?_)
    · intro y0 y1 y2 y3
      unfold penumbralaw41_OrderCodes.j1
      repeat' first
      | (with_reducible exact ih0 _ _ _ _ _ _ _ _ _)
      | (with_reducible exact ih1 _ _ _ _)
      | (with_reducible exact ih2 _ _ _ _ _)
      | (with_reducible exact order_Of.mono _ _)
      | (with_reducible exact penumbralaw41_awake.mono _)
      | (with_reducible exact penumbraref41_Code.mono _ _ _)
      | (with_reducible exact LeO.refl _)
      | (with_reducible exact LeO.none _)
      | (with_reducible refine LeO.ite ?_ ?_)
      | (with_reducible refine LeO.bind ?_ (fun _ => ?_))
      | exact ih0 _ _ _ _ _ _ _ _ _
      | exact ih1 _ _ _ _
      | exact ih2 _ _ _ _ _
      | exact order_Of.mono _ _
      | exact penumbralaw41_awake.mono _
      | exact penumbraref41_Code.mono _ _ _
      | exact LeO.none _
      | refine LeO.ite ?_ ?_
      | refine LeO.bind ?_ (fun _ => ?_)
    · intro y0 y1 y2 y3 y4
      unfold penumbralaw41_OrderCodes.j2
      repeat' first
      | (with_reducible exact ih0 _ _ _ _ _ _ _ _ _)
      | (with_reducible exact ih1 _ _ _ _)
      | (with_reducible exact ih2 _ _ _ _ _)
      | (with_reducible exact order_Of.mono _ _)
      | (with_reducible exact penumbralaw41_awake.mono _)
      | (with_reducible exact penumbraref41_Code.mono _ _ _)
      | (with_reducible exact LeO.refl _)
      | (with_reducible exact LeO.none _)
      | (with_reducible refine LeO.ite ?_ ?_)
      | (with_reducible refine LeO.bind ?_ (fun _ => ?_))
      | exact ih0 _ _ _ _ _ _ _ _ _
      | exact ih1 _ _ _ _
      | exact ih2 _ _ _ _ _
      | exact order_Of.mono _ _
      | exact penumbralaw41_awake.mono _
      | exact penumbraref41_Code.mono _ _ _
      | exact LeO.none _
      | refine LeO.ite ?_ ?_
      | refine LeO.bind ?_ (fun _ => ?_)
theorem penumbralaw41_OrderCodes.mono : ∀ a0 a1 a2 k, LeO (penumbralaw41_OrderCodes.f k a0 a1 a2) (penumbralaw41_OrderCodes.f (k + 1) a0 a1 a2) := by
  intro a0 a1 a2 k
  obtain ⟨ih0, ih1, ih2⟩ := penumbralaw41_OrderCodes.mono_l k
  unfold penumbralaw41_OrderCodes.f
  repeat' first
      | (with_reducible exact ih0 _ _ _ _ _ _ _ _ _)
      | (with_reducible exact ih1 _ _ _ _)
      | (with_reducible exact ih2 _ _ _ _ _)
      | (with_reducible exact order_Of.mono _ _)
      | (with_reducible exact penumbralaw41_awake.mono _)
      | (with_reducible exact penumbraref41_Code.mono _ _ _)
      | (with_reducible exact LeO.refl _)
      | (with_reducible exact LeO.none _)
      | (with_reducible refine LeO.ite ?_ ?_)
      | (with_reducible refine LeO.bind ?_ (fun _ => ?_))
      | exact ih0 _ _ _ _ _ _ _ _ _
      | exact ih1 _ _ _ _
      | exact ih2 _ _ _ _ _
      | exact order_Of.mono _ _
      | exact penumbralaw41_awake.mono _
      | exact penumbraref41_Code.mono _ _ _
      | exact LeO.none _
      | refine LeO.ite ?_ ?_
      | refine LeO.bind ?_ (fun _ => ?_)
set_option maxHeartbeats 8000000 in
set_option maxRecDepth 100000 in
theorem penumbralaw41_OrderCodes.calls (k : Nat) (a0 : Int) (a1 : Int) (a2 : Int) (r : Bool) (w : World) (h : penumbralaw41_OrderCodes.f k a0 a1 a2 = some r) (hr_ : r = true) :
    Calls Try.prog 3 #[.int .i64 a0, .int .i64 a1, .int .i64 a2] w fun e w' => e = .returned (.bool r) ∧ Below w.heap.size w w' := by
  have HB := Aside0.mk (Below.refl w.heap.size w)
  have H : ((order_Code.f a0 a1).bind fun bt101 => ((order_Of.f k a2).bind fun bt103 => (if a0 < 0 then (penumbralaw41_OrderCodes.j0 k a0 a1 a2 bt101.1 bt101.2 bt103.1 bt103.2.1 bt103.2.2 true) else (if a1 < 0 then (penumbralaw41_OrderCodes.j0 k a0 a1 a2 bt101.1 bt101.2 bt103.1 bt103.2.1 bt103.2.2 true) else (if a0 > 65535 then (penumbralaw41_OrderCodes.j0 k a0 a1 a2 bt101.1 bt101.2 bt103.1 bt103.2.1 bt103.2.2 true) else (penumbralaw41_OrderCodes.j0 k a0 a1 a2 bt101.1 bt101.2 bt103.1 bt103.2.1 bt103.2.2 (decide (a1 > 65535)))))))) = some r := h
  clear h
  replace H := Option.bind_eq_some_iff.mp H
  obtain ⟨⟨t101, t102⟩, A40, H⟩ := H
  replace H : ((order_Of.f k a2).bind fun bt103 => (if a0 < 0 then (penumbralaw41_OrderCodes.j0 k a0 a1 a2 t101 t102 bt103.1 bt103.2.1 bt103.2.2 true) else (if a1 < 0 then (penumbralaw41_OrderCodes.j0 k a0 a1 a2 t101 t102 bt103.1 bt103.2.1 bt103.2.2 true) else (if a0 > 65535 then (penumbralaw41_OrderCodes.j0 k a0 a1 a2 t101 t102 bt103.1 bt103.2.1 bt103.2.2 true) else (penumbralaw41_OrderCodes.j0 k a0 a1 a2 t101 t102 bt103.1 bt103.2.1 bt103.2.2 (decide (a1 > 65535))))))) = some r := H
  have A4 := Aside0.mk A40
  clear A40
  replace H := Option.bind_eq_some_iff.mp H
  obtain ⟨⟨t103, t104, t105⟩, A50, H⟩ := H
  replace H : (if a0 < 0 then (penumbralaw41_OrderCodes.j0 k a0 a1 a2 t101 t102 t103 t104 t105 true) else (if a1 < 0 then (penumbralaw41_OrderCodes.j0 k a0 a1 a2 t101 t102 t103 t104 t105 true) else (if a0 > 65535 then (penumbralaw41_OrderCodes.j0 k a0 a1 a2 t101 t102 t103 t104 t105 true) else (penumbralaw41_OrderCodes.j0 k a0 a1 a2 t101 t102 t103 t104 t105 (decide (a1 > 65535)))))) = some r := H
  have A5 := Aside0.mk A50
  clear A50
  have HC6 := Aside0.mk H
  clear H
  go_enter Try.func3, Try.ntmps3
  go_upto_region 3 with (first | ((with_reducible refine gate_callee (f := 6) rfl ?_); refine goesL_ (some 18) rfl rfl Try.func6 (by kernel_rfl) rfl #[.int .i64 a0, .int .i64 a1] rfl (by (try simp only [List.map_toArray, List.map_cons, List.map_nil]); first | done | rfl | (simp only [List.length_drop, List.length_take]; rfl)) ?_; (with_reducible refine (order_Code.calls a0 a1 t101 t102 _ A4.out).mono ?_); rintro e w7 ⟨rfl, hb⟩; refine ⟨_, rfl, ?_⟩; have n0_ := Aside0.mk (below_step (by repeat (first | (with_reducible first | exact HB.out | apply below_alloc | apply pw_below_drewN | apply below_drew1) | exact HB.out)) hb); clear HB; have HB := n0_; clear n0_; (try clear hb); (try clear hb2); (try clear hk); (try clear hi); (try clear A4)) | ((with_reducible refine gate_callee (f := 7) rfl ?_); refine goesL_ (some 23) rfl rfl Try.func7 (by kernel_rfl) rfl #[.int .i64 a2] rfl (by (try simp only [List.map_toArray, List.map_cons, List.map_nil]); first | done | rfl | (simp only [List.length_drop, List.length_take]; rfl)) ?_; (with_reducible refine (order_Of.calls k a2 t103 t104 t105 _ A5.out).mono ?_); rintro e w' ⟨rfl, ⟨nd, rfl⟩⟩; refine ⟨_, rfl, ?_⟩; (try clear A5)))
  (try simp only [Act.put, List.setIfInBounds_toArray, List.set_cons_zero, List.set_cons_succ])
  go_cut [40] (fun v40 wc => ∃ (kq : Nat) (x40_5 : Bool), v40 = .bool x40_5 ∧ Aside0 (penumbralaw41_OrderCodes.j0 kq a0 a1 a2 t101 t102 t103 t104 t105 x40_5 = some r) ∧ Aside0 (kq ≤ k) ∧ Aside0 (Below w.heap.size w wc))
  case first =>
    have H := HC6.out
    clear HC6
    by_cases c8 : a0 < 0
    · rw [if_pos c8] at H
      have c8b0 : decide (a0 < 0) = true := decide_eq_true c8
      clear c8
      (first | rw [c8b0] | (simp only [i64_w, i32_w]; rw [c8b0]) | skip)
      have H' := Aside0.mk H
      clear H
      go_wp2
      go_meet
      case rel => exact ⟨_, (true), (by first | rfl | (simp; done) | (simp [*]; done)), H', ⟨by first | omega | exact Nat.le_refl _⟩, ⟨by repeat (first | (with_reducible first | exact HB.out | apply below_alloc | apply pw_below_drewN | apply below_drew1) | exact HB.out)⟩⟩
    · rw [if_neg c8] at H
      have c8b0 : decide (a0 < 0) = false := decide_eq_false c8
      clear c8
      (first | rw [c8b0] | (simp only [i64_w, i32_w]; rw [c8b0]) | skip)
      by_cases c9 : a1 < 0
      · rw [if_pos c9] at H
        have c9b0 : decide (a1 < 0) = true := decide_eq_true c9
        clear c9
        have H' := Aside0.mk H
        clear H
        go_wp2
        go_meet
        case rel => exact ⟨_, (true), (by first | rfl | (simp; done) | (simp [*]; done)), H', ⟨by first | omega | exact Nat.le_refl _⟩, ⟨by repeat (first | (with_reducible first | exact HB.out | apply below_alloc | apply pw_below_drewN | apply below_drew1) | exact HB.out)⟩⟩
      · rw [if_neg c9] at H
        have c9b0 : decide (a1 < 0) = false := decide_eq_false c9
        clear c9
        by_cases c10 : a0 > 65535
        · rw [if_pos c10] at H
          have c10b0 : decide (65535 < a0) = true := decide_eq_true c10
          clear c10
          have H' := Aside0.mk H
          clear H
          go_wp2
          go_meet
          case rel => exact ⟨_, (true), (by first | rfl | (simp; done) | (simp [*]; done)), H', ⟨by first | omega | exact Nat.le_refl _⟩, ⟨by repeat (first | (with_reducible first | exact HB.out | apply below_alloc | apply pw_below_drewN | apply below_drew1) | exact HB.out)⟩⟩
        · rw [if_neg c10] at H
          have c10b0 : decide (65535 < a0) = false := decide_eq_false c10
          clear c10
          have H' := Aside0.mk H
          clear H
          go_wp2
          go_meet
          case rel => exact ⟨_, (decide (a1 > 65535)), (by first | rfl | (simp; done) | (simp [*]; done)), H', ⟨by first | omega | exact Nat.le_refl _⟩, ⟨by repeat (first | (with_reducible first | exact HB.out | apply below_alloc | apply pw_below_drewN | apply below_drew1) | exact HB.out)⟩⟩
  case rest =>
    clear HC6
    try clear c1
    try clear p2
    try clear c3
    try clear c6
    try clear c7
    try clear c8
    try clear c8b0
    try clear c9
    try clear c9b0
    try clear c10
    try clear c10b0
    obtain ⟨kq, x40_5, rfl, HA, HJ5, HB⟩ := hcut
    cases kq with
    | zero => exact absurd HA.out (by simp [penumbralaw41_OrderCodes.j0])
    | succ kj5 =>
      have H := HA.out
      clear HA
      simp only [penumbralaw41_OrderCodes.j0] at H
      have HC11 := Aside0.mk H
      clear H
      go_upto_if 40 with (fail)
      go_cut [] (fun wc => ∃ (kq : Nat), Aside0 (penumbralaw41_OrderCodes.j1 kq a2 t103 t104 t105 = some r) ∧ Aside0 (kq ≤ kj5) ∧ Aside0 (Below w.heap.size w wc))
      case first =>
        have H := HC11.out
        clear HC11
        by_cases c12 : x40_5 = true
        · subst c12
          have H1 : (if t101 = 0 then (if t102 = 3 then (penumbralaw41_OrderCodes.j1 kj5 a2 t103 t104 t105) else (some false)) else (some false)) = some r := by rw [if_pos rfl] at H; exact H
          clear H
          have H := H1
          clear H1
          by_cases c13 : t101 = 0
          · rw [if_pos c13] at H
            have c13b0 : (t101 == 0) = true := beq_iff_eq.mpr c13
            have c13b1 : (t101 != 0) = false := bne_eq_false_iff_eq.mpr c13
            clear c13
            (first | rw [c13b0] | (simp only [i64_w, i32_w]; rw [c13b0]) | skip)
            by_cases c14 : t102 = 3
            · rw [if_pos c14] at H
              have c14b0 : (t102 == 3) = true := beq_iff_eq.mpr c14
              have c14b1 : (t102 != 3) = false := bne_eq_false_iff_eq.mpr c14
              clear c14
              have H' := Aside0.mk H
              clear H
              go_wp2
              go_meet
              case rel => exact ⟨_, H', ⟨by have := HJ5.out; first | omega | exact Nat.le_refl _⟩, ⟨by repeat (first | (with_reducible first | exact HB.out | apply below_alloc | apply pw_below_drewN | apply below_drew1) | exact HB.out)⟩⟩
            · rw [if_neg c14] at H
              have c14b0 : (t102 == 3) = false := beq_eq_false_iff_ne.mpr c14
              have c14b1 : (t102 != 3) = true := bne_iff_ne.mpr c14
              exact absurd ((Option.some.inj H).trans hr_) (by decide)
          · rw [if_neg c13] at H
            have c13b0 : (t101 == 0) = false := beq_eq_false_iff_ne.mpr c13
            have c13b1 : (t101 != 0) = true := bne_iff_ne.mpr c13
            (first | rw [c13b0] | (simp only [i64_w, i32_w]; rw [c13b0]) | skip)
            exact absurd ((Option.some.inj H).trans hr_) (by decide)
        · replace c12 := Bool.eq_false_iff.mpr c12
          subst c12
          have H1 : ((order_Of.f kj5 t101).bind fun bt106 => ((penumbraref41_Code.f kj5 a0 a1).bind fun t109 => (if t101 = t109 then (if t102 = 0 then (if bt106.1 = a0 then (if bt106.2.1 = a1 then (if bt106.2.2 = 0 then (penumbralaw41_OrderCodes.j1 kj5 a2 t103 t104 t105) else (some false)) else (some false)) else (some false)) else (some false)) else (some false)))) = some r := by rw [if_neg (show ¬ (false = true) by decide)] at H; exact H
          clear H
          have H := H1
          clear H1
          replace H := Option.bind_eq_some_iff.mp H
          obtain ⟨⟨t106, t107, t108⟩, A150, H⟩ := H
          replace H : ((penumbraref41_Code.f kj5 a0 a1).bind fun t109 => (if t101 = t109 then (if t102 = 0 then (if t106 = a0 then (if t107 = a1 then (if t108 = 0 then (penumbralaw41_OrderCodes.j1 kj5 a2 t103 t104 t105) else (some false)) else (some false)) else (some false)) else (some false)) else (some false))) = some r := H
          have A15 := Aside0.mk A150
          clear A150
          replace H := Option.bind_eq_some_iff.mp H
          obtain ⟨t109, A160, H⟩ := H
          replace H : (if t101 = t109 then (if t102 = 0 then (if t106 = a0 then (if t107 = a1 then (if t108 = 0 then (penumbralaw41_OrderCodes.j1 kj5 a2 t103 t104 t105) else (some false)) else (some false)) else (some false)) else (some false)) else (some false)) = some r := H
          have A16 := Aside0.mk A160
          clear A160
          by_cases c17 : t101 = t109
          · rw [if_pos c17] at H
            have c17b0 : (t101 == t109) = true := beq_iff_eq.mpr c17
            have c17b1 : (t101 != t109) = false := bne_eq_false_iff_eq.mpr c17
            clear c17
            by_cases c18 : t102 = 0
            · rw [if_pos c18] at H
              have c18b0 : (t102 == 0) = true := beq_iff_eq.mpr c18
              have c18b1 : (t102 != 0) = false := bne_eq_false_iff_eq.mpr c18
              clear c18
              by_cases c19 : t106 = a0
              · rw [if_pos c19] at H
                have c19b0 : (t106 == a0) = true := beq_iff_eq.mpr c19
                have c19b1 : (t106 != a0) = false := bne_eq_false_iff_eq.mpr c19
                clear c19
                by_cases c20 : t107 = a1
                · rw [if_pos c20] at H
                  have c20b0 : (t107 == a1) = true := beq_iff_eq.mpr c20
                  have c20b1 : (t107 != a1) = false := bne_eq_false_iff_eq.mpr c20
                  clear c20
                  by_cases c21 : t108 = 0
                  · rw [if_pos c21] at H
                    have c21b0 : (t108 == 0) = true := beq_iff_eq.mpr c21
                    have c21b1 : (t108 != 0) = false := bne_eq_false_iff_eq.mpr c21
                    clear c21
                    have H' := Aside0.mk H
                    clear H
                    go_wp2_with (first | ((with_reducible refine gate_callee (f := 7) rfl ?_); refine goesL_ (some 49) rfl rfl Try.func7 (by kernel_rfl) rfl #[.int .i64 t101] rfl (by (try simp only [List.map_toArray, List.map_cons, List.map_nil]); first | done | rfl | (simp only [List.length_drop, List.length_take]; rfl)) ?_; (with_reducible refine (order_Of.calls kj5 t101 t106 t107 t108 _ A15.out).mono ?_); rintro e w' ⟨rfl, ⟨nd, rfl⟩⟩; refine ⟨_, rfl, ?_⟩; (try clear A15)) | ((with_reducible refine gate_callee (f := 8) rfl ?_); refine goesL_ (some 56) rfl rfl Try.func8 (by kernel_rfl) rfl #[.int .i64 a0, .int .i64 a1] rfl (by (try simp only [List.map_toArray, List.map_cons, List.map_nil]); first | done | rfl | (simp only [List.length_drop, List.length_take]; rfl)) ?_; (with_reducible refine (penumbraref41_Code.calls kj5 a0 a1 t109 _ A16.out).mono ?_); rintro e w' ⟨rfl, ⟨nd, rfl⟩⟩; refine ⟨_, rfl, ?_⟩; (try clear A16)))
                    go_meet
                    case rel => exact ⟨_, H', ⟨by have := HJ5.out; first | omega | exact Nat.le_refl _⟩, ⟨by repeat (first | (with_reducible first | exact HB.out | apply below_alloc | apply pw_below_drewN | apply below_drew1) | exact HB.out)⟩⟩
                  · rw [if_neg c21] at H
                    have c21b0 : (t108 == 0) = false := beq_eq_false_iff_ne.mpr c21
                    have c21b1 : (t108 != 0) = true := bne_iff_ne.mpr c21
                    exact absurd ((Option.some.inj H).trans hr_) (by decide)
                · rw [if_neg c20] at H
                  have c20b0 : (t107 == a1) = false := beq_eq_false_iff_ne.mpr c20
                  have c20b1 : (t107 != a1) = true := bne_iff_ne.mpr c20
                  exact absurd ((Option.some.inj H).trans hr_) (by decide)
              · rw [if_neg c19] at H
                have c19b0 : (t106 == a0) = false := beq_eq_false_iff_ne.mpr c19
                have c19b1 : (t106 != a0) = true := bne_iff_ne.mpr c19
                exact absurd ((Option.some.inj H).trans hr_) (by decide)
            · rw [if_neg c18] at H
              have c18b0 : (t102 == 0) = false := beq_eq_false_iff_ne.mpr c18
              have c18b1 : (t102 != 0) = true := bne_iff_ne.mpr c18
              exact absurd ((Option.some.inj H).trans hr_) (by decide)
          · rw [if_neg c17] at H
            have c17b0 : (t101 == t109) = false := beq_eq_false_iff_ne.mpr c17
            have c17b1 : (t101 != t109) = true := bne_iff_ne.mpr c17
            exact absurd ((Option.some.inj H).trans hr_) (by decide)
      case rest =>
        clear HC11
        try clear c1
        try clear c2
        try clear p2
        try clear c3
        try clear c6
        try clear c7
        try clear c8
        try clear c8b0
        try clear c9
        try clear c9b0
        try clear c10
        try clear c10b0
        try clear c12
        try clear c13
        try clear c13b0
        try clear c13b1
        try clear c14
        try clear c14b0
        try clear c14b1
        try clear c17
        try clear c17b0
        try clear c17b1
        try clear c18
        try clear c18b0
        try clear c18b1
        try clear c19
        try clear c19b0
        try clear c19b1
        try clear c20
        try clear c20b0
        try clear c20b1
        try clear c21
        try clear c21b0
        try clear c21b1
        try clear p2
        obtain ⟨kq, HA, HJ10, HB⟩ := hcut
        cases kq with
        | zero => exact absurd HA.out (by simp [penumbralaw41_OrderCodes.j1])
        | succ kj10 =>
          have H := HA.out
          clear HA
          simp only [penumbralaw41_OrderCodes.j1] at H
          have HC22 := Aside0.mk H
          clear H
          go_upto_region 9 with (fail)
          go_cut [81] (fun v81 wc => ∃ (kq : Nat) (x81_21 : Bool), v81 = .bool x81_21 ∧ Aside0 (penumbralaw41_OrderCodes.j2 kq a2 t103 t104 t105 x81_21 = some r) ∧ Aside0 (kq ≤ kj10) ∧ Aside0 (Below w.heap.size w wc))
          case first =>
            have H := HC22.out
            clear HC22
            by_cases c23 : a2 < 0
            · rw [if_pos c23] at H
              have c23b0 : decide (a2 < 0) = true := decide_eq_true c23
              clear c23
              (first | rw [c23b0] | (simp only [i64_w, i32_w]; rw [c23b0]) | skip)
              have H' := Aside0.mk H
              clear H
              go_wp2
              go_meet
              case rel => exact ⟨_, (true), (by first | rfl | (simp; done) | (simp [*]; done)), H', ⟨by have := HJ5.out; have := HJ10.out; first | omega | exact Nat.le_refl _⟩, ⟨by repeat (first | (with_reducible first | exact HB.out | apply below_alloc | apply pw_below_drewN | apply below_drew1) | exact HB.out)⟩⟩
            · rw [if_neg c23] at H
              have c23b0 : decide (a2 < 0) = false := decide_eq_false c23
              clear c23
              (first | rw [c23b0] | (simp only [i64_w, i32_w]; rw [c23b0]) | skip)
              have H' := Aside0.mk H
              clear H
              go_wp2
              go_meet
              case rel => exact ⟨_, (decide (a2 > 4294967295)), (by first | rfl | (simp; done) | (simp [*]; done)), H', ⟨by have := HJ5.out; have := HJ10.out; first | omega | exact Nat.le_refl _⟩, ⟨by repeat (first | (with_reducible first | exact HB.out | apply below_alloc | apply pw_below_drewN | apply below_drew1) | exact HB.out)⟩⟩
          case rest =>
            clear HC22
            try clear c1
            try clear c2
            try clear p2
            try clear c3
            try clear c6
            try clear c7
            try clear c8
            try clear c8b0
            try clear c9
            try clear c9b0
            try clear c10
            try clear c10b0
            try clear c12
            try clear c13
            try clear c13b0
            try clear c13b1
            try clear c14
            try clear c14b0
            try clear c14b1
            try clear c17
            try clear c17b0
            try clear c17b1
            try clear c18
            try clear c18b0
            try clear c18b1
            try clear c19
            try clear c19b0
            try clear c19b1
            try clear c20
            try clear c20b0
            try clear c20b1
            try clear c21
            try clear c21b0
            try clear c21b1
            try clear c23
            try clear c23b0
            try clear p2
            obtain ⟨kq, x81_21, rfl, HA, HJ21, HB⟩ := hcut
            cases kq with
            | zero => exact absurd HA.out (by simp [penumbralaw41_OrderCodes.j2])
            | succ kj21 =>
              have H := HA.out
              clear HA
              simp only [penumbralaw41_OrderCodes.j2] at H
              by_cases c24 : x81_21 = true
              · subst c24
                have H1 : ((penumbralaw41_awake.f kj21).bind fun t110 => (if t110 = true then (if t103 = 0 then (if t104 = 0 then (some (t105 == 3)) else (some false)) else (some false)) else (some false))) = some r := by rw [if_pos rfl] at H; exact H
                clear H
                have H := H1
                clear H1
                replace H := Option.bind_eq_some_iff.mp H
                obtain ⟨t110, A250, H⟩ := H
                replace H : (if t110 = true then (if t103 = 0 then (if t104 = 0 then (some (t105 == 3)) else (some false)) else (some false)) else (some false)) = some r := H
                have A25 := Aside0.mk A250
                clear A250
                by_cases c26 : t110 = true
                · subst c26
                  have H1 : (if t103 = 0 then (if t104 = 0 then (some (t105 == 3)) else (some false)) else (some false)) = some r := by rw [if_pos rfl] at H; exact H
                  clear H
                  have H := H1
                  clear H1
                  by_cases c27 : t103 = 0
                  · rw [if_pos c27] at H
                    have c27b0 : (t103 == 0) = true := beq_iff_eq.mpr c27
                    have c27b1 : (t103 != 0) = false := bne_eq_false_iff_eq.mpr c27
                    clear c27
                    by_cases c28 : t104 = 0
                    · rw [if_pos c28] at H
                      have c28b0 : (t104 == 0) = true := beq_iff_eq.mpr c28
                      have c28b1 : (t104 != 0) = false := bne_eq_false_iff_eq.mpr c28
                      clear c28
                      obtain rfl := Option.some.inj H
                      go_wp2_with (first | ((with_reducible refine gate_callee (f := 9) rfl ?_); refine goesL_ (some 82) rfl rfl Try.func9 (by kernel_rfl) rfl #[] rfl (by (try simp only [List.map_toArray, List.map_cons, List.map_nil]); first | done | rfl | (simp only [List.length_drop, List.length_take]; rfl)) ?_; (with_reducible refine (penumbralaw41_awake.calls kj21  true _ A25.out).mono ?_); rintro e w29 ⟨rfl, hb⟩; refine ⟨_, rfl, ?_⟩; have n0_ := Aside0.mk (below_step (by repeat (first | (with_reducible first | exact HB.out | apply below_alloc | apply pw_below_drewN | apply below_drew1) | exact HB.out)) hb); clear HB; have HB := n0_; clear n0_; (try clear hb); (try clear hb2); (try clear hk); (try clear hi); (try clear A25)))
                      go_ret
                      exact ⟨by first | rfl | (simp [errW_none, errW_some] <;> rfl) | (simp [*, errW_none, errW_some] <;> rfl), by repeat (first | (with_reducible first | exact HB.out | apply below_alloc | apply pw_below_drewN | apply below_drew1) | exact HB.out)⟩
                    · rw [if_neg c28] at H
                      have c28b0 : (t104 == 0) = false := beq_eq_false_iff_ne.mpr c28
                      have c28b1 : (t104 != 0) = true := bne_iff_ne.mpr c28
                      exact absurd ((Option.some.inj H).trans hr_) (by decide)
                  · rw [if_neg c27] at H
                    have c27b0 : (t103 == 0) = false := beq_eq_false_iff_ne.mpr c27
                    have c27b1 : (t103 != 0) = true := bne_iff_ne.mpr c27
                    exact absurd ((Option.some.inj H).trans hr_) (by decide)
                · replace c26 := Bool.eq_false_iff.mpr c26
                  subst c26
                  have H1 : (some false) = some r := by rw [if_neg (show ¬ (false = true) by decide)] at H; exact H
                  clear H
                  have H := H1
                  clear H1
                  exact absurd ((Option.some.inj H).trans hr_) (by decide)
              · replace c24 := Bool.eq_false_iff.mpr c24
                subst c24
                have H1 : ((penumbralaw41_awake.f kj21).bind fun t111 => (if t111 = true then (if t105 = 0 then ((penumbraref41_Code.f kj21 t103 t104).bind fun t112 => (some (t112 == a2))) else (some false)) else (some false))) = some r := by rw [if_neg (show ¬ (false = true) by decide)] at H; exact H
                clear H
                have H := H1
                clear H1
                replace H := Option.bind_eq_some_iff.mp H
                obtain ⟨t111, A300, H⟩ := H
                replace H : (if t111 = true then (if t105 = 0 then ((penumbraref41_Code.f kj21 t103 t104).bind fun t112 => (some (t112 == a2))) else (some false)) else (some false)) = some r := H
                have A30 := Aside0.mk A300
                clear A300
                by_cases c31 : t111 = true
                · subst c31
                  have H1 : (if t105 = 0 then ((penumbraref41_Code.f kj21 t103 t104).bind fun t112 => (some (t112 == a2))) else (some false)) = some r := by rw [if_pos rfl] at H; exact H
                  clear H
                  have H := H1
                  clear H1
                  by_cases c32 : t105 = 0
                  · rw [if_pos c32] at H
                    have c32b0 : (t105 == 0) = true := beq_iff_eq.mpr c32
                    have c32b1 : (t105 != 0) = false := bne_eq_false_iff_eq.mpr c32
                    clear c32
                    replace H := Option.bind_eq_some_iff.mp H
                    obtain ⟨t112, A330, H⟩ := H
                    replace H : (some (t112 == a2)) = some r := H
                    have A33 := Aside0.mk A330
                    clear A330
                    obtain rfl := Option.some.inj H
                    go_wp2_with (first | ((with_reducible refine gate_callee (f := 9) rfl ?_); refine goesL_ (some 95) rfl rfl Try.func9 (by kernel_rfl) rfl #[] rfl (by (try simp only [List.map_toArray, List.map_cons, List.map_nil]); first | done | rfl | (simp only [List.length_drop, List.length_take]; rfl)) ?_; (with_reducible refine (penumbralaw41_awake.calls kj21  true _ A30.out).mono ?_); rintro e w34 ⟨rfl, hb⟩; refine ⟨_, rfl, ?_⟩; have n0_ := Aside0.mk (below_step (by repeat (first | (with_reducible first | exact HB.out | apply below_alloc | apply pw_below_drewN | apply below_drew1) | exact HB.out)) hb); clear HB; have HB := n0_; clear n0_; (try clear hb); (try clear hb2); (try clear hk); (try clear hi); (try clear A30)) | (go_at_call 8; (with_reducible refine (penumbraref41_Code.calls kj21 t103 t104 t112 _ A33.out).mono ?_); rintro e w' ⟨rfl, ⟨nd, rfl⟩⟩; (try clear A33)))
                    go_ret
                    exact ⟨by first | rfl | (simp [errW_none, errW_some] <;> rfl) | (simp [*, errW_none, errW_some] <;> rfl), by repeat (first | (with_reducible first | exact HB.out | apply below_alloc | apply pw_below_drewN | apply below_drew1) | exact HB.out)⟩
                  · rw [if_neg c32] at H
                    have c32b0 : (t105 == 0) = false := beq_eq_false_iff_ne.mpr c32
                    have c32b1 : (t105 != 0) = true := bne_iff_ne.mpr c32
                    exact absurd ((Option.some.inj H).trans hr_) (by decide)
                · replace c31 := Bool.eq_false_iff.mpr c31
                  subst c31
                  have H1 : (some false) = some r := by rw [if_neg (show ¬ (false = true) by decide)] at H; exact H
                  clear H
                  have H := H1
                  clear H1
                  exact absurd ((Option.some.inj H).trans hr_) (by decide)

/-- THE ONE PURE STATEMENT of penumbralaw41_OrderCodes: yours. -/
def penumbralaw41_OrderCodes.Pure : Prop := ∀ (a0 : Int) (a1 : Int) (a2 : Int), (Lit.int .i64 a0).wf = true → (Lit.int .i64 a1).wf = true → (Lit.int .i64 a2).wf = true → ∃ k, penumbralaw41_OrderCodes.f k a0 a1 a2 = some true
theorem penumbralaw41_OrderCodes.walk (P : penumbralaw41_OrderCodes.Pure) (a0 : Int) (a1 : Int) (a2 : Int) (w : World) (w0 : (Lit.int .i64 a0).wf = true) (w1 : (Lit.int .i64 a1).wf = true) (w2 : (Lit.int .i64 a2).wf = true) :
    Calls Try.prog 3 #[.int .i64 a0, .int .i64 a1, .int .i64 a2] w fun e w' => e = .returned (.bool true) ∧ Below w.heap.size w w' := by
  obtain ⟨k, h⟩ := P a0 a1 a2 w0 w1 w2
  refine (penumbralaw41_OrderCodes.calls k a0 a1 a2 true w h rfl).mono ?_
  rintro e w' ⟨rfl, hd⟩
  exact ⟨rfl, hd⟩

end Go.Proofs.Ytjfegfhhgekcfaa.X
