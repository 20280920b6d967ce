-- written by xprint.py (a program of this session, over the kit's print)
import Derived.Test.YtmnolhkgnedcnaaXx0
import Derived.Test.YtmnolhkgnedcnaaXxL31light
import Derived.Test.YtmnolhkgnedcnaaXxB31
import Derived.Test.YtmnolhkgnedcnaaXxA30
import Derived.Test.YtmnolhkgnedcnaaXxL31awake
namespace Go.Proofs.Ytmnolhkgnedcnaa.X
open Go.RowKit Go.Proofs.YtmnolhkgnedcnaaW.PrintWords Go.Proofs.YtmnolhkgnedcnaaW.PrintLast Go.Proofs.YtmnolhkgnedcnaaW.PrintMore
attribute [local go_sem] max2_int min2_int max_two min_two max_three min_three max_four min_four   -- for this text's walks alone
set_option linter.unusedVariables false
set_option linter.unusedSimpArgs false

/-! ### penumbralaw31_MatrixLooks: function 6 -/
mutual
def penumbralaw31_MatrixLooks.j0 : Nat → List Int → List Int → Int → Bool → Option (Bool)
  | 0, _, _, _, _ => none
  | k + 1, x0, x1, x2, x17 => if x17 = true then ((penumbralaw31_awake.f k).bind fun t103 => (some t103)) else ((matrix_One.f k x2).bind fun t104 => (if x2 < 1 then (penumbralaw31_MatrixLooks.j1 k x0 x1 x2 t104 true) else (penumbralaw31_MatrixLooks.j1 k x0 x1 x2 t104 (decide (x2 > 12)))))
def penumbralaw31_MatrixLooks.j1 : Nat → List Int → List Int → Int → List Int → Bool → Option (Bool)
  | 0, _, _, _, _, _ => none
  | k + 1, x0, x1, x2, x7, x26 => if x26 = true then ((penumbralaw31_awake.f k).bind fun t107 => (if t107 = true then (if (x7.length : Int) = 0 then ((matrix_Side.f x0).bind fun t108 => ((penumbraref31_Side.f k x0).bind fun t109 => (some (t108 == t109)))) else (some false)) else (some false))) else (if (x7.length : Int) = (wrap64 (x2 * x2)) then ((penumbraref31_Side.f k x0).bind fun t110 => (if t110 = x2 then ((matrix_Mul.f x7 x0).bind fun bt111 => (if bt111.2 = 0 then ((penumbraref31_Rests.f k x0).bind fun t115 => ((penumbraref01_Ints.f k bt111.1 t115).bind fun t118 => (if t118 = true then (penumbralaw31_MatrixLooks.j2 k x0 x1) else (some false)))) else (some false))) else (penumbralaw31_MatrixLooks.j2 k x0 x1))) else (some false))
def penumbralaw31_MatrixLooks.j2 : Nat → List Int → List Int → Option (Bool)
  | 0, _, _ => none
  | k + 1, x0, x1 => (penumbralaw31_awake.f k).bind fun t119 => (if t119 = true then ((matrix_Side.f x0).bind fun t120 => ((penumbraref31_Side.f k x0).bind fun t121 => (if t120 = t121 then ((matrix_Same.f k x0 x1).bind fun t122 => ((penumbraref31_Rests.f k x0).bind fun t123 => ((penumbraref31_Rests.f k x1).bind fun t126 => ((penumbraref01_Ints.f k t123 t126).bind fun t129 => (if (t122 == t129) = true then ((penumbraref31_Rests.f k x0).bind fun t130 => ((matrix_Same.f k x0 t130).bind fun t133 => (some t133))) else (some false)))))) else (some false)))) else (some false))
end
def penumbralaw31_MatrixLooks.f (k : Nat) (l0 : List Int) (l1 : List Int) (a2 : Int) : Option (Bool) := (penumbralaw31_light.f l0).bind fun t101 => (if t101 = true then ((penumbralaw31_light.f l1).bind fun t102 => (penumbralaw31_MatrixLooks.j0 k l0 l1 a2 (!t102))) else (penumbralaw31_MatrixLooks.j0 k l0 l1 a2 true))
theorem penumbralaw31_MatrixLooks.mono_l : ∀ k, (∀ y0 y1 y2 y3, LeO (penumbralaw31_MatrixLooks.j0 k y0 y1 y2 y3) (penumbralaw31_MatrixLooks.j0 (k + 1) y0 y1 y2 y3)) ∧ (∀ y0 y1 y2 y3 y4, LeO (penumbralaw31_MatrixLooks.j1 k y0 y1 y2 y3 y4) (penumbralaw31_MatrixLooks.j1 (k + 1) y0 y1 y2 y3 y4)) ∧ (∀ y0 y1, LeO (penumbralaw31_MatrixLooks.j2 k y0 y1) (penumbralaw31_MatrixLooks.j2 (k + 1) y0 y1))
  | 0 => ⟨fun _ _ _ _ r h => by simp [penumbralaw31_MatrixLooks.j0] at h, fun _ _ _ _ _ r h => by simp [penumbralaw31_MatrixLooks.j1] at h, fun _ _ r h => by simp [penumbralaw31_MatrixLooks.j2] at h⟩
  | k + 1 => by
    obtain ⟨ih0, ih1, ih2⟩ := penumbralaw31_MatrixLooks.mono_l k
    refine ⟨?_, ?_, ?_⟩
    · intro y0 y1 y2 y3
      unfold penumbralaw31_MatrixLooks.j0
      repeat' first
      | (with_reducible exact ih0 _ _ _ _)
      | (with_reducible exact ih1 _ _ _ _ _)
      | (with_reducible exact ih2 _ _)
      | (with_reducible exact matrix_One.mono _ _)
      | (with_reducible exact matrix_Same.mono _ _ _)
      | (with_reducible exact penumbralaw31_awake.mono _)
      | (with_reducible exact penumbraref01_Ints.mono _ _ _)
      | (with_reducible exact penumbraref31_Rests.mono _ _)
      | (with_reducible exact penumbraref31_Side.mono _ _)
      | (with_reducible exact LeO.refl _)
      | (with_reducible exact LeO.none _)
      | (with_reducible refine LeO.ite ?_ ?_)
      | (with_reducible refine LeO.bind ?_ (fun _ => ?_))
      | exact ih0 _ _ _ _
      | exact ih1 _ _ _ _ _
      | exact ih2 _ _
      | exact matrix_One.mono _ _
      | exact matrix_Same.mono _ _ _
      | exact penumbralaw31_awake.mono _
      | exact penumbraref01_Ints.mono _ _ _
      | exact penumbraref31_Rests.mono _ _
      | exact penumbraref31_Side.mono _ _
      | exact LeO.none _
      | refine LeO.ite ?_ ?_
      | refine LeO.bind ?_ (fun _ => ?_)
    · intro y0 y1 y2 y3 y4
      unfold penumbralaw31_MatrixLooks.j1
      repeat' first
      | (with_reducible exact ih0 _ _ _ _)
      | (with_reducible exact ih1 _ _ _ _ _)
      | (with_reducible exact ih2 _ _)
      | (with_reducible exact matrix_One.mono _ _)
      | (with_reducible exact matrix_Same.mono _ _ _)
      | (with_reducible exact penumbralaw31_awake.mono _)
      | (with_reducible exact penumbraref01_Ints.mono _ _ _)
      | (with_reducible exact penumbraref31_Rests.mono _ _)
      | (with_reducible exact penumbraref31_Side.mono _ _)
      | (with_reducible exact LeO.refl _)
      | (with_reducible exact LeO.none _)
      | (with_reducible refine LeO.ite ?_ ?_)
      | (with_reducible refine LeO.bind ?_ (fun _ => ?_))
      | exact ih0 _ _ _ _
      | exact ih1 _ _ _ _ _
      | exact ih2 _ _
      | exact matrix_One.mono _ _
      | exact matrix_Same.mono _ _ _
      | exact penumbralaw31_awake.mono _
      | exact penumbraref01_Ints.mono _ _ _
      | exact penumbraref31_Rests.mono _ _
      | exact penumbraref31_Side.mono _ _
      | exact LeO.none _
      | refine LeO.ite ?_ ?_
      | refine LeO.bind ?_ (fun _ => ?_)
    · intro y0 y1
      unfold penumbralaw31_MatrixLooks.j2
      repeat' first
      | (with_reducible exact ih0 _ _ _ _)
      | (with_reducible exact ih1 _ _ _ _ _)
      | (with_reducible exact ih2 _ _)
      | (with_reducible exact matrix_One.mono _ _)
      | (with_reducible exact matrix_Same.mono _ _ _)
      | (with_reducible exact penumbralaw31_awake.mono _)
      | (with_reducible exact penumbraref01_Ints.mono _ _ _)
      | (with_reducible exact penumbraref31_Rests.mono _ _)
      | (with_reducible exact penumbraref31_Side.mono _ _)
      | (with_reducible exact LeO.refl _)
      | (with_reducible exact LeO.none _)
      | (with_reducible refine LeO.ite ?_ ?_)
      | (with_reducible refine LeO.bind ?_ (fun _ => ?_))
      | exact ih0 _ _ _ _
      | exact ih1 _ _ _ _ _
      | exact ih2 _ _
      | exact matrix_One.mono _ _
      | exact matrix_Same.mono _ _ _
      | exact penumbralaw31_awake.mono _
      | exact penumbraref01_Ints.mono _ _ _
      | exact penumbraref31_Rests.mono _ _
      | exact penumbraref31_Side.mono _ _
      | exact LeO.none _
      | refine LeO.ite ?_ ?_
      | refine LeO.bind ?_ (fun _ => ?_)
theorem penumbralaw31_MatrixLooks.mono : ∀ a0 a1 a2 k, LeO (penumbralaw31_MatrixLooks.f k a0 a1 a2) (penumbralaw31_MatrixLooks.f (k + 1) a0 a1 a2) := by
  intro a0 a1 a2 k
  obtain ⟨ih0, ih1, ih2⟩ := penumbralaw31_MatrixLooks.mono_l k
  unfold penumbralaw31_MatrixLooks.f
  repeat' first
      | (with_reducible exact ih0 _ _ _ _)
      | (with_reducible exact ih1 _ _ _ _ _)
      | (with_reducible exact ih2 _ _)
      | (with_reducible exact matrix_One.mono _ _)
      | (with_reducible exact matrix_Same.mono _ _ _)
      | (with_reducible exact penumbralaw31_awake.mono _)
      | (with_reducible exact penumbraref01_Ints.mono _ _ _)
      | (with_reducible exact penumbraref31_Rests.mono _ _)
      | (with_reducible exact penumbraref31_Side.mono _ _)
      | (with_reducible exact LeO.refl _)
      | (with_reducible exact LeO.none _)
      | (with_reducible refine LeO.ite ?_ ?_)
      | (with_reducible refine LeO.bind ?_ (fun _ => ?_))
      | exact ih0 _ _ _ _
      | exact ih1 _ _ _ _ _
      | exact ih2 _ _
      | exact matrix_One.mono _ _
      | exact matrix_Same.mono _ _ _
      | exact penumbralaw31_awake.mono _
      | exact penumbraref01_Ints.mono _ _ _
      | exact penumbraref31_Rests.mono _ _
      | exact penumbraref31_Side.mono _ _
      | exact LeO.none _
      | refine LeO.ite ?_ ?_
      | refine LeO.bind ?_ (fun _ => ?_)
set_option maxHeartbeats 8000000 in
set_option maxRecDepth 100000 in
theorem penumbralaw31_MatrixLooks.calls (k : Nat) (A0 : Option Addr) (c0 : Nat) (l0 : List Int) (A1 : Option Addr) (c1 : Nat) (l1 : List Int) (a2 : Int) (r : Bool) (w : World) (hr0 : Kd.C (Kd.int .i64) w A0 l0.length l0) (hc0 : l0.length ≤ c0) (hr1 : Kd.C (Kd.int .i64) w A1 l1.length l1) (hc1 : l1.length ≤ c1) (h : penumbralaw31_MatrixLooks.f k l0 l1 a2 = some r) (hr_ : r = true) :
    Calls Try.prog 6 #[.slice A0 l0.length c0, .slice A1 l1.length c1, .int .i64 a2] w fun e w' => e = .returned (.bool r) ∧ Below w.heap.size w w' := by
  have HR0 := Aside0.mk hr0
  have HC0 := Aside0.mk hc0
  clear hr0 hc0
  have HR1 := Aside0.mk hr1
  have HC1 := Aside0.mk hc1
  clear hr1 hc1
  have HB := Aside0.mk (Below.refl w.heap.size w)
  have H : ((penumbralaw31_light.f l0).bind fun t101 => (if t101 = true then ((penumbralaw31_light.f l1).bind fun t102 => (penumbralaw31_MatrixLooks.j0 k l0 l1 a2 (!t102))) else (penumbralaw31_MatrixLooks.j0 k l0 l1 a2 true))) = some r := h
  clear h
  have HC4 := Aside0.mk H
  clear H
  go_enter Try.func6, Try.ntmps6
  go_upto_region 1 with (fail)
  go_cut [17] (fun v17 wc => ∃ (kq : Nat) (x17_3 : Bool), v17 = .bool x17_3 ∧ Aside0 (penumbralaw31_MatrixLooks.j0 kq l0 l1 a2 x17_3 = some r) ∧ Aside0 (kq ≤ k) ∧ Aside0 (Below w.heap.size w wc))
  case first =>
    have H := HC4.out
    clear HC4
    replace H := Option.bind_eq_some_iff.mp H
    obtain ⟨t101, A50, H⟩ := H
    replace H : (if t101 = true then ((penumbralaw31_light.f l1).bind fun t102 => (penumbralaw31_MatrixLooks.j0 k l0 l1 a2 (!t102))) else (penumbralaw31_MatrixLooks.j0 k l0 l1 a2 true)) = some r := H
    have A5 := Aside0.mk A50
    clear A50
    by_cases c6 : t101 = true
    · subst c6
      have H1 : ((penumbralaw31_light.f l1).bind fun t102 => (penumbralaw31_MatrixLooks.j0 k l0 l1 a2 (!t102))) = some r := by rw [if_pos rfl] at H; exact H
      clear H
      have H := H1
      clear H1
      replace H := Option.bind_eq_some_iff.mp H
      obtain ⟨t102, A70, H⟩ := H
      replace H : (penumbralaw31_MatrixLooks.j0 k l0 l1 a2 (!t102)) = some r := H
      have A7 := Aside0.mk A70
      clear A70
      have H' := Aside0.mk H
      clear H
      go_wp2_with (first | ((with_reducible refine gate_callee (f := 7) rfl ?_); refine goesL_ (some 11) rfl rfl Try.func7 (by kernel_rfl) rfl #[.slice A0 l0.length c0] rfl (by (try simp only [List.map_toArray, List.map_cons, List.map_nil]); first | done | rfl | (simp only [List.length_drop, List.length_take]; rfl)) ?_; (with_reducible refine (penumbralaw31_light.calls _ _ l0 true _ ?side1 ?side2 A5.out).mono ?_); (case side1 => repeat (first | exact (Kd.C_below HR0.out HB.out) | (with_reducible refine Kd.C_alloc ?_ _) | (with_reducible refine Kd.C_drewN ?_ _) | (with_reducible refine Kd.C_drew ?_))); (case side2 => exact HC0.out); rintro e w' ⟨rfl, ⟨nd, rfl⟩⟩; refine ⟨_, rfl, ?_⟩; (try clear A5)) | (go_at_call 7; (with_reducible refine (penumbralaw31_light.calls _ _ l1 t102 _ ?side1 ?side2 A7.out).mono ?_); (case side1 => repeat (first | exact (Kd.C_below HR1.out (by repeat (first | (with_reducible first | exact HB.out | apply below_alloc | apply pw_below_drewN | apply below_drew1) | exact HB.out))) | (with_reducible refine Kd.C_alloc ?_ _) | (with_reducible refine Kd.C_drewN ?_ _) | (with_reducible refine Kd.C_drew ?_))); (case side2 => exact HC1.out); rintro e w' ⟨rfl, ⟨nd, rfl⟩⟩; (try clear A7)))
      go_meet
      case rel => exact ⟨_, (!t102), (by first | rfl | (simp; done) | (simp [*]; done)), H', ⟨by first | omega | exact Nat.le_refl _⟩, ⟨by repeat (first | (with_reducible first | exact HB.out | apply below_alloc | apply pw_below_drewN | apply below_drew1) | exact HB.out)⟩⟩
    · replace c6 := Bool.eq_false_iff.mpr c6
      subst c6
      have H1 : (penumbralaw31_MatrixLooks.j0 k l0 l1 a2 true) = some r := by rw [if_neg (show ¬ (false = true) by decide)] at H; exact H
      clear H
      have H := H1
      clear H1
      have H' := Aside0.mk H
      clear H
      go_wp2_with (first | ((with_reducible refine gate_callee (f := 7) rfl ?_); refine goesL_ (some 11) rfl rfl Try.func7 (by kernel_rfl) rfl #[.slice A0 l0.length c0] rfl (by (try simp only [List.map_toArray, List.map_cons, List.map_nil]); first | done | rfl | (simp only [List.length_drop, List.length_take]; rfl)) ?_; (with_reducible refine (penumbralaw31_light.calls _ _ l0 false _ ?side1 ?side2 A5.out).mono ?_); (case side1 => repeat (first | exact (Kd.C_below HR0.out HB.out) | (with_reducible refine Kd.C_alloc ?_ _) | (with_reducible refine Kd.C_drewN ?_ _) | (with_reducible refine Kd.C_drew ?_))); (case side2 => exact HC0.out); rintro e w' ⟨rfl, ⟨nd, rfl⟩⟩; refine ⟨_, rfl, ?_⟩; (try clear A5)))
      go_meet
      case rel => exact ⟨_, (true), (by first | rfl | (simp; done) | (simp [*]; done)), H', ⟨by first | omega | exact Nat.le_refl _⟩, ⟨by repeat (first | (with_reducible first | exact HB.out | apply below_alloc | apply pw_below_drewN | apply below_drew1) | exact HB.out)⟩⟩
  case rest =>
    clear HC4
    try clear c1
    try clear p2
    try clear c6
    try clear c7
    obtain ⟨kq, x17_3, rfl, HA, HJ3, HB⟩ := hcut
    cases kq with
    | zero => exact absurd HA.out (by simp [penumbralaw31_MatrixLooks.j0])
    | succ kj3 =>
      have H := HA.out
      clear HA
      simp only [penumbralaw31_MatrixLooks.j0] at H
      by_cases c8 : x17_3 = true
      · subst c8
        have H1 : ((penumbralaw31_awake.f kj3).bind fun t103 => (some t103)) = some r := by rw [if_pos rfl] at H; exact H
        clear H
        have H := H1
        clear H1
        replace H := Option.bind_eq_some_iff.mp H
        obtain ⟨t103, A90, H⟩ := H
        replace H : (some t103) = some r := H
        have A9 := Aside0.mk A90
        clear A90
        obtain rfl := Option.some.inj H
        go_wp2_with (first | ((with_reducible refine gate_callee (f := 8) rfl ?_); refine goesL_ (some 18) rfl rfl Try.func8 (by kernel_rfl) rfl #[] rfl (by (try simp only [List.map_toArray, List.map_cons, List.map_nil]); first | done | rfl | (simp only [List.length_drop, List.length_take]; rfl)) ?_; (with_reducible refine (penumbralaw31_awake.calls kj3  t103 _ A9.out).mono ?_); rintro e w10 ⟨rfl, hb⟩; refine ⟨_, rfl, ?_⟩; have n0_ := Aside0.mk (below_step (by repeat (first | (with_reducible first | exact HB.out | apply below_alloc | apply pw_below_drewN | apply below_drew1) | exact HB.out)) hb); clear HB; have HB := n0_; clear n0_; (try clear hb); (try clear hb2); (try clear hk); (try clear hi); (try clear A9)))
        go_ret
        exact ⟨by first | rfl | (simp [errW_none, errW_some] <;> rfl) | (simp [*, errW_none, errW_some] <;> rfl), by repeat (first | (with_reducible first | exact HB.out | apply below_alloc | apply pw_below_drewN | apply below_drew1) | exact HB.out)⟩
      · replace c8 := Bool.eq_false_iff.mpr c8
        subst c8
        have H1 : ((matrix_One.f kj3 a2).bind fun t104 => (if a2 < 1 then (penumbralaw31_MatrixLooks.j1 kj3 l0 l1 a2 t104 true) else (penumbralaw31_MatrixLooks.j1 kj3 l0 l1 a2 t104 (decide (a2 > 12))))) = some r := by rw [if_neg (show ¬ (false = true) by decide)] at H; exact H
        clear H
        have H := H1
        clear H1
        replace H := Option.bind_eq_some_iff.mp H
        obtain ⟨t104, A110, H⟩ := H
        replace H : (if a2 < 1 then (penumbralaw31_MatrixLooks.j1 kj3 l0 l1 a2 t104 true) else (penumbralaw31_MatrixLooks.j1 kj3 l0 l1 a2 t104 (decide (a2 > 12)))) = some r := H
        have A11 := Aside0.mk A110
        clear A110
        have HC12 := Aside0.mk H
        clear H
        go_upto_region 4 with (first | ((with_reducible refine gate_callee (f := 14) rfl ?_); refine goesL_ (some 20) rfl rfl Try.func14 (by kernel_rfl) rfl #[.int .i64 a2] rfl (by (try simp only [List.map_toArray, List.map_cons, List.map_nil]); first | done | rfl | (simp only [List.length_drop, List.length_take]; rfl)) ?_; (with_reducible refine (matrix_One.calls kj3 a2 t104 _ A11.out).mono ?_); rintro e w13 ⟨v105, rfl, ho0, hb⟩; refine ⟨_, rfl, ?_⟩; have n0_ := Aside0.mk (Kd.R_lower ho0 (below_size (by repeat (first | (with_reducible first | exact HB.out | apply below_alloc | apply pw_below_drewN | apply below_drew1) | exact HB.out)))); have n1_ := Aside0.mk (below_step (by repeat (first | (with_reducible first | exact HB.out | apply below_alloc | apply pw_below_drewN | apply below_drew1) | exact HB.out)) hb); clear HB; have HO106 := n0_; have HB := n1_; clear n0_ n1_; (try clear hb); (try clear hb2); (try clear hk); (try clear hi); (try clear ho0); (try clear A11)))
        (try simp only [Act.put, List.setIfInBounds_toArray, List.set_cons_zero, List.set_cons_succ])
        go_cut [26] (fun v26 wc => ∃ (kq : Nat) (x26_11 : Bool), v26 = .bool x26_11 ∧ Aside0 (penumbralaw31_MatrixLooks.j1 kq l0 l1 a2 t104 x26_11 = some r) ∧ Aside0 (kq ≤ kj3) ∧ Aside0 (Kd.R (Kd.int .i64) 3 wc w.heap.size (fun _ => True) v105 t104) ∧ Aside0 (Below w.heap.size w wc))
        case first =>
          have H := HC12.out
          clear HC12
          by_cases c14 : a2 < 1
          · rw [if_pos c14] at H
            have c14b0 : decide (a2 < 1) = true := decide_eq_true c14
            clear c14
            (first | rw [c14b0] | (simp only [i64_w, i32_w]; rw [c14b0]) | skip)
            have H' := Aside0.mk H
            clear H
            go_wp2
            go_meet
            case rel => exact ⟨_, (true), (by first | rfl | (simp; done) | (simp [*]; done)), H', ⟨by have := HJ3.out; first | omega | exact Nat.le_refl _⟩, ⟨by (with_reducible repeat (first | apply Kd.R_alloc | apply Kd.R_drewN | apply Kd.R_drew)); exact HO106.out⟩, ⟨by repeat (first | (with_reducible first | exact HB.out | apply below_alloc | apply pw_below_drewN | apply below_drew1) | exact HB.out)⟩⟩
          · rw [if_neg c14] at H
            have c14b0 : decide (a2 < 1) = false := decide_eq_false c14
            clear c14
            (first | rw [c14b0] | (simp only [i64_w, i32_w]; rw [c14b0]) | skip)
            have H' := Aside0.mk H
            clear H
            go_wp2
            go_meet
            case rel => exact ⟨_, (decide (a2 > 12)), (by first | rfl | (simp; done) | (simp [*]; done)), H', ⟨by have := HJ3.out; first | omega | exact Nat.le_refl _⟩, ⟨by (with_reducible repeat (first | apply Kd.R_alloc | apply Kd.R_drewN | apply Kd.R_drew)); exact HO106.out⟩, ⟨by repeat (first | (with_reducible first | exact HB.out | apply below_alloc | apply pw_below_drewN | apply below_drew1) | exact HB.out)⟩⟩
        case rest =>
          clear HC12
          try clear c1
          try clear p2
          try clear c6
          try clear c7
          try clear c8
          try clear c14
          try clear c14b0
          try clear p2
          obtain ⟨kq, x26_11, rfl, HA, HJ11, HO_7, HB⟩ := hcut
          cases kq with
          | zero => exact absurd HA.out (by simp [penumbralaw31_MatrixLooks.j1])
          | succ kj11 =>
            have H := HA.out
            clear HA
            simp only [penumbralaw31_MatrixLooks.j1] at H
            by_cases c15 : x26_11 = true
            · subst c15
              have H1 : ((penumbralaw31_awake.f kj11).bind fun t107 => (if t107 = true then (if (t104.length : Int) = 0 then ((matrix_Side.f l0).bind fun t108 => ((penumbraref31_Side.f kj11 l0).bind fun t109 => (some (t108 == t109)))) else (some false)) else (some false))) = some r := by rw [if_pos rfl] at H; exact H
              clear H
              have H := H1
              clear H1
              replace H := Option.bind_eq_some_iff.mp H
              obtain ⟨t107, A160, H⟩ := H
              replace H : (if t107 = true then (if (t104.length : Int) = 0 then ((matrix_Side.f l0).bind fun t108 => ((penumbraref31_Side.f kj11 l0).bind fun t109 => (some (t108 == t109)))) else (some false)) else (some false)) = some r := H
              have A16 := Aside0.mk A160
              clear A160
              by_cases c17 : t107 = true
              · subst c17
                have H1 : (if (t104.length : Int) = 0 then ((matrix_Side.f l0).bind fun t108 => ((penumbraref31_Side.f kj11 l0).bind fun t109 => (some (t108 == t109)))) else (some false)) = some r := by rw [if_pos rfl] at H; exact H
                clear H
                have H := H1
                clear H1
                by_cases c18 : (t104.length : Int) = 0
                · rw [if_pos c18] at H
                  have c18b0 : ((t104.length : Int) == 0) = true := beq_iff_eq.mpr c18
                  have c18b1 : ((t104.length : Int) != 0) = false := bne_eq_false_iff_eq.mpr c18
                  clear c18
                  replace H := Option.bind_eq_some_iff.mp H
                  obtain ⟨t108, A190, H⟩ := H
                  replace H : ((penumbraref31_Side.f kj11 l0).bind fun t109 => (some (t108 == t109))) = some r := H
                  have A19 := Aside0.mk A190
                  clear A190
                  replace H := Option.bind_eq_some_iff.mp H
                  obtain ⟨t109, A200, H⟩ := H
                  replace H : (some (t108 == t109)) = some r := H
                  have A20 := Aside0.mk A200
                  clear A200
                  obtain rfl := Option.some.inj H
                  go_wp2_with (first | ((with_reducible refine gate_callee (f := 8) rfl ?_); refine goesL_ (some 27) rfl rfl Try.func8 (by kernel_rfl) rfl #[] rfl (by (try simp only [List.map_toArray, List.map_cons, List.map_nil]); first | done | rfl | (simp only [List.length_drop, List.length_take]; rfl)) ?_; (with_reducible refine (penumbralaw31_awake.calls kj11  true _ A16.out).mono ?_); rintro e w21 ⟨rfl, hb⟩; refine ⟨_, rfl, ?_⟩; have n0_ := Aside0.mk (Kd.R_below (by (with_reducible repeat (first | apply Kd.R_alloc | apply Kd.R_drewN | apply Kd.R_drew)); exact HO_7.out) hb); have n1_ := Aside0.mk (below_step (by repeat (first | (with_reducible first | exact HB.out | apply below_alloc | apply pw_below_drewN | apply below_drew1) | exact HB.out)) hb); clear HO_7; clear HB; have HO_7 := n0_; have HB := n1_; clear n0_ n1_; (try clear hb); (try clear hb2); (try clear hk); (try clear hi); obtain ⟨Ao22, co22, eo22⟩ := Kd.R_slice HO_7.out; subst eo22; (try clear A16)) | (go_at_call 21; (with_reducible refine (matrix_Side.calls _ _ l0 t108 _ ?side1 ?side2 A19.out).mono ?_); (case side1 => repeat (first | exact (Kd.C_below HR0.out HB.out) | (with_reducible refine Kd.C_alloc ?_ _) | (with_reducible refine Kd.C_drewN ?_ _) | (with_reducible refine Kd.C_drew ?_))); (case side2 => exact HC0.out); rintro e w' ⟨rfl, ⟨nd, rfl⟩⟩; (try clear A19)) | (go_at_call 11; (with_reducible refine (penumbraref31_Side.calls kj11 _ _ l0 t109 _ ?side1 ?side2 A20.out).mono ?_); (case side1 => repeat (first | exact (Kd.C_below HR0.out (by repeat (first | (with_reducible first | exact HB.out | apply below_alloc | apply pw_below_drewN | apply below_drew1) | exact HB.out))) | (with_reducible refine Kd.C_alloc ?_ _) | (with_reducible refine Kd.C_drewN ?_ _) | (with_reducible refine Kd.C_drew ?_))); (case side2 => exact HC0.out); rintro e w23 ⟨rfl, hb⟩; have n0_ := Aside0.mk (Kd.R_below (by (with_reducible repeat (first | apply Kd.R_alloc | apply Kd.R_drewN | apply Kd.R_drew)); exact HO_7.out) hb); have n1_ := Aside0.mk (below_step (by repeat (first | (with_reducible first | exact HB.out | apply below_alloc | apply pw_below_drewN | apply below_drew1) | exact HB.out)) hb); clear HO_7; clear HB; have HO_7 := n0_; have HB := n1_; clear n0_ n1_; (try clear hb); (try clear hb2); (try clear hk); (try clear hi); (try clear A20)))
                  go_ret
                  exact ⟨by first | rfl | (simp [errW_none, errW_some] <;> rfl) | (simp [*, errW_none, errW_some] <;> rfl), by repeat (first | (with_reducible first | exact HB.out | apply below_alloc | apply pw_below_drewN | apply below_drew1) | exact HB.out)⟩
                · rw [if_neg c18] at H
                  have c18b0 : ((t104.length : Int) == 0) = false := beq_eq_false_iff_ne.mpr c18
                  have c18b1 : ((t104.length : Int) != 0) = true := bne_iff_ne.mpr c18
                  have c18b2 : ¬ (t104 = []) := fun h_ => c18 (by rw [h_]; rfl)
                  exact absurd ((Option.some.inj H).trans hr_) (by decide)
              · replace c17 := Bool.eq_false_iff.mpr c17
                subst c17
                have H1 : (some false) = some r := by rw [if_neg (show ¬ (false = true) by decide)] at H; exact H
                clear H
                have H := H1
                clear H1
                exact absurd ((Option.some.inj H).trans hr_) (by decide)
            · replace c15 := Bool.eq_false_iff.mpr c15
              subst c15
              have H1 : (if (t104.length : Int) = (wrap64 (a2 * a2)) then ((penumbraref31_Side.f kj11 l0).bind fun t110 => (if t110 = a2 then ((matrix_Mul.f t104 l0).bind fun bt111 => (if bt111.2 = 0 then ((penumbraref31_Rests.f kj11 l0).bind fun t115 => ((penumbraref01_Ints.f kj11 bt111.1 t115).bind fun t118 => (if t118 = true then (penumbralaw31_MatrixLooks.j2 kj11 l0 l1) else (some false)))) else (some false))) else (penumbralaw31_MatrixLooks.j2 kj11 l0 l1))) else (some false)) = some r := by rw [if_neg (show ¬ (false = true) by decide)] at H; exact H
              clear H
              have H := H1
              clear H1
              by_cases c24 : (t104.length : Int) = (wrap64 (a2 * a2))
              · rw [if_pos c24] at H
                have c24b0 : ((t104.length : Int) == (wrap64 (a2 * a2))) = true := beq_iff_eq.mpr c24
                have c24b1 : ((t104.length : Int) != (wrap64 (a2 * a2))) = false := bne_eq_false_iff_eq.mpr c24
                clear c24
                replace H := Option.bind_eq_some_iff.mp H
                obtain ⟨t110, A250, H⟩ := H
                replace H : (if t110 = a2 then ((matrix_Mul.f t104 l0).bind fun bt111 => (if bt111.2 = 0 then ((penumbraref31_Rests.f kj11 l0).bind fun t115 => ((penumbraref01_Ints.f kj11 bt111.1 t115).bind fun t118 => (if t118 = true then (penumbralaw31_MatrixLooks.j2 kj11 l0 l1) else (some false)))) else (some false))) else (penumbralaw31_MatrixLooks.j2 kj11 l0 l1)) = some r := H
                have A25 := Aside0.mk A250
                clear A250
                have HC26 := Aside0.mk H
                clear H
                obtain ⟨Ao27, co27, eo27⟩ := Kd.R_slice HO_7.out
                subst eo27
                go_upto_if 49 with (first | ((with_reducible refine gate_callee (f := 11) rfl ?_); refine goesL_ (some 47) rfl rfl Try.func11 (by kernel_rfl) rfl #[.slice A0 l0.length c0] rfl (by (try simp only [List.map_toArray, List.map_cons, List.map_nil]); first | done | rfl | (simp only [List.length_drop, List.length_take]; rfl)) ?_; (with_reducible refine (penumbraref31_Side.calls kj11 _ _ l0 t110 _ ?side1 ?side2 A25.out).mono ?_); (case side1 => repeat (first | exact (Kd.C_below HR0.out HB.out) | (with_reducible refine Kd.C_alloc ?_ _) | (with_reducible refine Kd.C_drewN ?_ _) | (with_reducible refine Kd.C_drew ?_))); (case side2 => exact HC0.out); rintro e w28 ⟨rfl, hb⟩; refine ⟨_, rfl, ?_⟩; have n0_ := Aside0.mk (Kd.R_below (by (with_reducible repeat (first | apply Kd.R_alloc | apply Kd.R_drewN | apply Kd.R_drew)); exact HO_7.out) hb); have n1_ := Aside0.mk (below_step (by repeat (first | (with_reducible first | exact HB.out | apply below_alloc | apply pw_below_drewN | apply below_drew1) | exact HB.out)) hb); clear HO_7; clear HB; have HO_7 := n0_; have HB := n1_; clear n0_ n1_; (try clear hb); (try clear hb2); (try clear hk); (try clear hi); (try clear A25)))
                (try simp only [Act.put, List.setIfInBounds_toArray, List.set_cons_zero, List.set_cons_succ])
                go_cut [] (fun wc => ∃ (kq : Nat), Aside0 (penumbralaw31_MatrixLooks.j2 kq l0 l1 = some r) ∧ Aside0 (kq ≤ kj11) ∧ Aside0 (Below w.heap.size w wc))
                case first =>
                  have H := HC26.out
                  clear HC26
                  by_cases c29 : t110 = a2
                  · rw [if_pos c29] at H
                    have c29b0 : (t110 == a2) = true := beq_iff_eq.mpr c29
                    have c29b1 : (t110 != a2) = false := bne_eq_false_iff_eq.mpr c29
                    clear c29
                    (first | rw [c29b0] | (simp only [i64_w, i32_w]; rw [c29b0]) | skip)
                    replace H := Option.bind_eq_some_iff.mp H
                    obtain ⟨⟨t111, t112⟩, A300, H⟩ := H
                    replace H : (if t112 = 0 then ((penumbraref31_Rests.f kj11 l0).bind fun t115 => ((penumbraref01_Ints.f kj11 t111 t115).bind fun t118 => (if t118 = true then (penumbralaw31_MatrixLooks.j2 kj11 l0 l1) else (some false)))) else (some false)) = some r := H
                    have A30 := Aside0.mk A300
                    clear A300
                    by_cases c31 : t112 = 0
                    · rw [if_pos c31] at H
                      have c31b0 : (t112 == 0) = true := beq_iff_eq.mpr c31
                      have c31b1 : (t112 != 0) = false := bne_eq_false_iff_eq.mpr c31
                      clear c31
                      replace H := Option.bind_eq_some_iff.mp H
                      obtain ⟨t115, A320, H⟩ := H
                      replace H : ((penumbraref01_Ints.f kj11 t111 t115).bind fun t118 => (if t118 = true then (penumbralaw31_MatrixLooks.j2 kj11 l0 l1) else (some false))) = some r := H
                      have A32 := Aside0.mk A320
                      clear A320
                      replace H := Option.bind_eq_some_iff.mp H
                      obtain ⟨t118, A330, H⟩ := H
                      replace H : (if t118 = true then (penumbralaw31_MatrixLooks.j2 kj11 l0 l1) else (some false)) = some r := H
                      have A33 := Aside0.mk A330
                      clear A330
                      by_cases c34 : t118 = true
                      · subst c34
                        have H1 : (penumbralaw31_MatrixLooks.j2 kj11 l0 l1) = some r := by rw [if_pos rfl] at H; exact H
                        clear H
                        have H := H1
                        clear H1
                        have H' := Aside0.mk H
                        clear H
                        go_wp2_with (first | ((with_reducible refine gate_callee (f := 16) rfl ?_); refine goesL_ (some 53) rfl rfl Try.func16 (by kernel_rfl) rfl #[.slice Ao27 t104.length co27, .slice A0 l0.length c0] rfl (by (try simp only [List.map_toArray, List.map_cons, List.map_nil]); first | done | rfl | (simp only [List.length_drop, List.length_take]; rfl)) ?_; (with_reducible refine (matrix_Mul.calls _ _ t104 _ _ l0 t111 t112 _ ?side1 ?side2 ?side3 ?side4 A30.out).mono ?_); (case side1 => repeat (first | exact (Kd.R_reads' HO_7.out).2.2 | (with_reducible refine Kd.C_alloc ?_ _) | (with_reducible refine Kd.C_drewN ?_ _) | (with_reducible refine Kd.C_drew ?_))); (case side2 => exact (Kd.R_reads' HO_7.out).2.1); (case side3 => repeat (first | exact (Kd.C_below HR0.out HB.out) | (with_reducible refine Kd.C_alloc ?_ _) | (with_reducible refine Kd.C_drewN ?_ _) | (with_reducible refine Kd.C_drew ?_))); (case side4 => exact HC0.out); rintro e w35 ⟨v113, rfl, ho0, hb⟩; refine ⟨_, rfl, ?_⟩; have n0_ := Aside0.mk (Kd.R_elder' (by (with_reducible repeat (first | apply Kd.R_alloc | apply Kd.R_drewN | apply Kd.R_drew)); exact HO_7.out) (Kd.R_base ho0) hb); have n1_ := Aside0.mk (Kd.R_lower (Kd.R_new' ho0 (Kd.R_lt (by (with_reducible repeat (first | apply Kd.R_alloc | apply Kd.R_drewN | apply Kd.R_drew)); exact HO_7.out))) (below_size (by repeat (first | (with_reducible first | exact HB.out | apply below_alloc | apply pw_below_drewN | apply below_drew1) | exact HB.out)))); have n2_ := Aside0.mk (below_step (by repeat (first | (with_reducible first | exact HB.out | apply below_alloc | apply pw_below_drewN | apply below_drew1) | exact HB.out)) hb); clear HO_7; clear HB; have HO_7 := n0_; have HO114 := n1_; have HB := n2_; clear n0_ n1_ n2_; (try clear hb); (try clear hb2); (try clear hk); (try clear hi); (try clear ho0); (try clear A30)) | (go_at_call 22; (with_reducible refine (penumbraref31_Rests.calls kj11 _ _ l0 t115 _ ?side1 ?side2 A32.out).mono ?_); (case side1 => repeat (first | exact (Kd.C_below HR0.out HB.out) | (with_reducible refine Kd.C_alloc ?_ _) | (with_reducible refine Kd.C_drewN ?_ _) | (with_reducible refine Kd.C_drew ?_))); (case side2 => exact HC0.out); rintro e w36 ⟨v116, rfl, ho0, hb⟩; have n0_ := Aside0.mk (Kd.R_elder' (by (with_reducible repeat (first | apply Kd.R_alloc | apply Kd.R_drewN | apply Kd.R_drew)); exact HO_7.out) (Kd.R_base ho0) hb); have n1_ := Aside0.mk (Kd.R_elder' (by (with_reducible repeat (first | apply Kd.R_alloc | apply Kd.R_drewN | apply Kd.R_drew)); exact HO114.out) (Kd.R_base ho0) hb); have n2_ := Aside0.mk (Kd.R_lower (Kd.R_new' (Kd.R_new' ho0 (Kd.R_lt (by (with_reducible repeat (first | apply Kd.R_alloc | apply Kd.R_drewN | apply Kd.R_drew)); exact HO_7.out))) (Kd.R_lt (by (with_reducible repeat (first | apply Kd.R_alloc | apply Kd.R_drewN | apply Kd.R_drew)); exact HO114.out))) (below_size (by repeat (first | (with_reducible first | exact HB.out | apply below_alloc | apply pw_below_drewN | apply below_drew1) | exact HB.out)))); have n3_ := Aside0.mk (below_step (by repeat (first | (with_reducible first | exact HB.out | apply below_alloc | apply pw_below_drewN | apply below_drew1) | exact HB.out)) hb); clear HO_7; clear HO114; clear HB; have HO_7 := n0_; have HO114 := n1_; have HO117 := n2_; have HB := n3_; clear n0_ n1_ n2_ n3_; (try clear hb); (try clear hb2); (try clear hk); (try clear hi); (try clear ho0); obtain ⟨Ao37, co37, eo37⟩ := Kd.R_slice HO114.out; subst eo37; obtain ⟨Ao38, co38, eo38⟩ := Kd.R_slice HO117.out; subst eo38; (try clear A32)) | (go_at_call 12; (with_reducible refine (penumbraref01_Ints.calls kj11 _ _ t111 _ _ t115 true _ ?side1 ?side2 ?side3 ?side4 A33.out).mono ?_); (case side1 => repeat (first | exact (Kd.R_reads' HO114.out).2.2 | (with_reducible refine Kd.C_alloc ?_ _) | (with_reducible refine Kd.C_drewN ?_ _) | (with_reducible refine Kd.C_drew ?_))); (case side2 => exact (Kd.R_reads' HO114.out).2.1); (case side3 => repeat (first | exact (Kd.R_reads' HO117.out).2.2 | (with_reducible refine Kd.C_alloc ?_ _) | (with_reducible refine Kd.C_drewN ?_ _) | (with_reducible refine Kd.C_drew ?_))); (case side4 => exact (Kd.R_reads' HO117.out).2.1); rintro e w' ⟨rfl, ⟨nd, rfl⟩⟩; (try clear A33)))
                        go_meet
                        case rel => exact ⟨_, H', ⟨by have := HJ3.out; have := HJ11.out; first | omega | exact Nat.le_refl _⟩, ⟨by repeat (first | (with_reducible first | exact HB.out | apply below_alloc | apply pw_below_drewN | apply below_drew1) | exact HB.out)⟩⟩
                      · replace c34 := Bool.eq_false_iff.mpr c34
                        subst c34
                        have H1 : (some false) = some r := by rw [if_neg (show ¬ (false = true) by decide)] at H; exact H
                        clear H
                        have H := H1
                        clear H1
                        exact absurd ((Option.some.inj H).trans hr_) (by decide)
                    · rw [if_neg c31] at H
                      have c31b0 : (t112 == 0) = false := beq_eq_false_iff_ne.mpr c31
                      have c31b1 : (t112 != 0) = true := bne_iff_ne.mpr c31
                      exact absurd ((Option.some.inj H).trans hr_) (by decide)
                  · rw [if_neg c29] at H
                    have c29b0 : (t110 == a2) = false := beq_eq_false_iff_ne.mpr c29
                    have c29b1 : (t110 != a2) = true := bne_iff_ne.mpr c29
                    (first | rw [c29b0] | (simp only [i64_w, i32_w]; rw [c29b0]) | skip)
                    have H' := Aside0.mk H
                    clear H
                    go_wp2
                    go_meet
                    case rel => exact ⟨_, H', ⟨by have := HJ3.out; have := HJ11.out; first | omega | exact Nat.le_refl _⟩, ⟨by repeat (first | (with_reducible first | exact HB.out | apply below_alloc | apply pw_below_drewN | apply below_drew1) | exact HB.out)⟩⟩
                case rest =>
                  clear HC26
                  try clear c1
                  try clear c2
                  try clear p2
                  try clear c3
                  try clear c6
                  try clear p6
                  try clear c7
                  try clear c8
                  try clear c11
                  try clear c14
                  try clear c14b0
                  try clear c15
                  try clear c16
                  try clear c17
                  try clear c18
                  try clear c18b0
                  try clear c18b1
                  try clear c18b2
                  try clear c24
                  try clear c24b0
                  try clear c24b1
                  try clear c29
                  try clear c29b0
                  try clear c29b1
                  try clear c31
                  try clear c31b0
                  try clear c31b1
                  try clear c34
                  try clear p2
                  obtain ⟨kq, HA, HJ25, HB⟩ := hcut
                  cases kq with
                  | zero => exact absurd HA.out (by simp [penumbralaw31_MatrixLooks.j2])
                  | succ kj25 =>
                    have H := HA.out
                    clear HA
                    simp only [penumbralaw31_MatrixLooks.j2] at H
                    replace H := Option.bind_eq_some_iff.mp H
                    obtain ⟨t119, A390, H⟩ := H
                    replace H : (if t119 = true then ((matrix_Side.f l0).bind fun t120 => ((penumbraref31_Side.f kj25 l0).bind fun t121 => (if t120 = t121 then ((matrix_Same.f kj25 l0 l1).bind fun t122 => ((penumbraref31_Rests.f kj25 l0).bind fun t123 => ((penumbraref31_Rests.f kj25 l1).bind fun t126 => ((penumbraref01_Ints.f kj25 t123 t126).bind fun t129 => (if (t122 == t129) = true then ((penumbraref31_Rests.f kj25 l0).bind fun t130 => ((matrix_Same.f kj25 l0 t130).bind fun t133 => (some t133))) else (some false)))))) else (some false)))) else (some false)) = some r := H
                    have A39 := Aside0.mk A390
                    clear A390
                    by_cases c40 : t119 = true
                    · subst c40
                      have H1 : ((matrix_Side.f l0).bind fun t120 => ((penumbraref31_Side.f kj25 l0).bind fun t121 => (if t120 = t121 then ((matrix_Same.f kj25 l0 l1).bind fun t122 => ((penumbraref31_Rests.f kj25 l0).bind fun t123 => ((penumbraref31_Rests.f kj25 l1).bind fun t126 => ((penumbraref01_Ints.f kj25 t123 t126).bind fun t129 => (if (t122 == t129) = true then ((penumbraref31_Rests.f kj25 l0).bind fun t130 => ((matrix_Same.f kj25 l0 t130).bind fun t133 => (some t133))) else (some false)))))) else (some false)))) = some r := by rw [if_pos rfl] at H; exact H
                      clear H
                      have H := H1
                      clear H1
                      replace H := Option.bind_eq_some_iff.mp H
                      obtain ⟨t120, A410, H⟩ := H
                      replace H : ((penumbraref31_Side.f kj25 l0).bind fun t121 => (if t120 = t121 then ((matrix_Same.f kj25 l0 l1).bind fun t122 => ((penumbraref31_Rests.f kj25 l0).bind fun t123 => ((penumbraref31_Rests.f kj25 l1).bind fun t126 => ((penumbraref01_Ints.f kj25 t123 t126).bind fun t129 => (if (t122 == t129) = true then ((penumbraref31_Rests.f kj25 l0).bind fun t130 => ((matrix_Same.f kj25 l0 t130).bind fun t133 => (some t133))) else (some false)))))) else (some false))) = some r := H
                      have A41 := Aside0.mk A410
                      clear A410
                      replace H := Option.bind_eq_some_iff.mp H
                      obtain ⟨t121, A420, H⟩ := H
                      replace H : (if t120 = t121 then ((matrix_Same.f kj25 l0 l1).bind fun t122 => ((penumbraref31_Rests.f kj25 l0).bind fun t123 => ((penumbraref31_Rests.f kj25 l1).bind fun t126 => ((penumbraref01_Ints.f kj25 t123 t126).bind fun t129 => (if (t122 == t129) = true then ((penumbraref31_Rests.f kj25 l0).bind fun t130 => ((matrix_Same.f kj25 l0 t130).bind fun t133 => (some t133))) else (some false)))))) else (some false)) = some r := H
                      have A42 := Aside0.mk A420
                      clear A420
                      by_cases c43 : t120 = t121
                      · rw [if_pos c43] at H
                        have c43b0 : (t120 == t121) = true := beq_iff_eq.mpr c43
                        have c43b1 : (t120 != t121) = false := bne_eq_false_iff_eq.mpr c43
                        clear c43
                        replace H := Option.bind_eq_some_iff.mp H
                        obtain ⟨t122, A440, H⟩ := H
                        replace H : ((penumbraref31_Rests.f kj25 l0).bind fun t123 => ((penumbraref31_Rests.f kj25 l1).bind fun t126 => ((penumbraref01_Ints.f kj25 t123 t126).bind fun t129 => (if (t122 == t129) = true then ((penumbraref31_Rests.f kj25 l0).bind fun t130 => ((matrix_Same.f kj25 l0 t130).bind fun t133 => (some t133))) else (some false))))) = some r := H
                        have A44 := Aside0.mk A440
                        clear A440
                        replace H := Option.bind_eq_some_iff.mp H
                        obtain ⟨t123, A450, H⟩ := H
                        replace H : ((penumbraref31_Rests.f kj25 l1).bind fun t126 => ((penumbraref01_Ints.f kj25 t123 t126).bind fun t129 => (if (t122 == t129) = true then ((penumbraref31_Rests.f kj25 l0).bind fun t130 => ((matrix_Same.f kj25 l0 t130).bind fun t133 => (some t133))) else (some false)))) = some r := H
                        have A45 := Aside0.mk A450
                        clear A450
                        replace H := Option.bind_eq_some_iff.mp H
                        obtain ⟨t126, A460, H⟩ := H
                        replace H : ((penumbraref01_Ints.f kj25 t123 t126).bind fun t129 => (if (t122 == t129) = true then ((penumbraref31_Rests.f kj25 l0).bind fun t130 => ((matrix_Same.f kj25 l0 t130).bind fun t133 => (some t133))) else (some false))) = some r := H
                        have A46 := Aside0.mk A460
                        clear A460
                        replace H := Option.bind_eq_some_iff.mp H
                        obtain ⟨t129, A470, H⟩ := H
                        replace H : (if (t122 == t129) = true then ((penumbraref31_Rests.f kj25 l0).bind fun t130 => ((matrix_Same.f kj25 l0 t130).bind fun t133 => (some t133))) else (some false)) = some r := H
                        have A47 := Aside0.mk A470
                        clear A470
                        by_cases c48 : (t122 == t129) = true
                        · rw [if_pos c48] at H
                          have c48b0 : (t122 == t129) = true := c48
                          (try (have c48b1 : decide (t122 = t129) = true := by simpa using c48))
                          (try (have c48b2 : (t122 == t129) = true := by simpa using c48))
                          clear c48
                          replace H := Option.bind_eq_some_iff.mp H
                          obtain ⟨t130, A490, H⟩ := H
                          replace H : ((matrix_Same.f kj25 l0 t130).bind fun t133 => (some t133)) = some r := H
                          have A49 := Aside0.mk A490
                          clear A490
                          replace H := Option.bind_eq_some_iff.mp H
                          obtain ⟨t133, A500, H⟩ := H
                          replace H : (some t133) = some r := H
                          have A50 := Aside0.mk A500
                          clear A500
                          obtain rfl := Option.some.inj H
                          go_wp2_with (first | ((with_reducible refine gate_callee (f := 8) rfl ?_); refine goesL_ (some 65) rfl rfl Try.func8 (by kernel_rfl) rfl #[] rfl (by (try simp only [List.map_toArray, List.map_cons, List.map_nil]); first | done | rfl | (simp only [List.length_drop, List.length_take]; rfl)) ?_; (with_reducible refine (penumbralaw31_awake.calls kj25  true _ A39.out).mono ?_); rintro e w51 ⟨rfl, hb⟩; refine ⟨_, rfl, ?_⟩; have n0_ := Aside0.mk (below_step (by repeat (first | (with_reducible first | exact HB.out | apply below_alloc | apply pw_below_drewN | apply below_drew1) | exact HB.out)) hb); clear HB; have HB := n0_; clear n0_; (try clear hb); (try clear hb2); (try clear hk); (try clear hi); (try clear A39)) | (go_at_call 21; (with_reducible refine (matrix_Side.calls _ _ l0 t120 _ ?side1 ?side2 A41.out).mono ?_); (case side1 => repeat (first | exact (Kd.C_below HR0.out HB.out) | (with_reducible refine Kd.C_alloc ?_ _) | (with_reducible refine Kd.C_drewN ?_ _) | (with_reducible refine Kd.C_drew ?_))); (case side2 => exact HC0.out); rintro e w' ⟨rfl, ⟨nd, rfl⟩⟩; (try clear A41)) | (go_at_call 11; (with_reducible refine (penumbraref31_Side.calls kj25 _ _ l0 t121 _ ?side1 ?side2 A42.out).mono ?_); (case side1 => repeat (first | exact (Kd.C_below HR0.out (by repeat (first | (with_reducible first | exact HB.out | apply below_alloc | apply pw_below_drewN | apply below_drew1) | exact HB.out))) | (with_reducible refine Kd.C_alloc ?_ _) | (with_reducible refine Kd.C_drewN ?_ _) | (with_reducible refine Kd.C_drew ?_))); (case side2 => exact HC0.out); rintro e w52 ⟨rfl, hb⟩; have n0_ := Aside0.mk (below_step (by repeat (first | (with_reducible first | exact HB.out | apply below_alloc | apply pw_below_drewN | apply below_drew1) | exact HB.out)) hb); clear HB; have HB := n0_; clear n0_; (try clear hb); (try clear hb2); (try clear hk); (try clear hi); (try clear A42)) | (go_at_call 23; (with_reducible refine (matrix_Same.calls kj25 _ _ l0 _ _ l1 t122 _ ?side1 ?side2 ?side3 ?side4 A44.out).mono ?_); (case side1 => repeat (first | exact (Kd.C_below HR0.out HB.out) | (with_reducible refine Kd.C_alloc ?_ _) | (with_reducible refine Kd.C_drewN ?_ _) | (with_reducible refine Kd.C_drew ?_))); (case side2 => exact HC0.out); (case side3 => repeat (first | exact (Kd.C_below HR1.out HB.out) | (with_reducible refine Kd.C_alloc ?_ _) | (with_reducible refine Kd.C_drewN ?_ _) | (with_reducible refine Kd.C_drew ?_))); (case side4 => exact HC1.out); rintro e w53 ⟨rfl, hb⟩; have n0_ := Aside0.mk (below_step (by repeat (first | (with_reducible first | exact HB.out | apply below_alloc | apply pw_below_drewN | apply below_drew1) | exact HB.out)) hb); clear HB; have HB := n0_; clear n0_; (try clear hb); (try clear hb2); (try clear hk); (try clear hi); (try clear A44)) | (go_at_call 22; (with_reducible refine (penumbraref31_Rests.calls kj25 _ _ l0 t123 _ ?side1 ?side2 A45.out).mono ?_); (case side1 => repeat (first | exact (Kd.C_below HR0.out HB.out) | (with_reducible refine Kd.C_alloc ?_ _) | (with_reducible refine Kd.C_drewN ?_ _) | (with_reducible refine Kd.C_drew ?_))); (case side2 => exact HC0.out); rintro e w54 ⟨v124, rfl, ho0, hb⟩; have n0_ := Aside0.mk (Kd.R_lower ho0 (below_size (by repeat (first | (with_reducible first | exact HB.out | apply below_alloc | apply pw_below_drewN | apply below_drew1) | exact HB.out)))); have n1_ := Aside0.mk (below_step (by repeat (first | (with_reducible first | exact HB.out | apply below_alloc | apply pw_below_drewN | apply below_drew1) | exact HB.out)) hb); clear HB; have HO125 := n0_; have HB := n1_; clear n0_ n1_; (try clear hb); (try clear hb2); (try clear hk); (try clear hi); (try clear ho0); (try clear A45)) | (go_at_call 22; (with_reducible refine (penumbraref31_Rests.calls kj25 _ _ l1 t126 _ ?side1 ?side2 A46.out).mono ?_); (case side1 => repeat (first | exact (Kd.C_below HR1.out HB.out) | (with_reducible refine Kd.C_alloc ?_ _) | (with_reducible refine Kd.C_drewN ?_ _) | (with_reducible refine Kd.C_drew ?_))); (case side2 => exact HC1.out); rintro e w55 ⟨v127, rfl, ho0, hb⟩; have n0_ := Aside0.mk (Kd.R_elder' (by (with_reducible repeat (first | apply Kd.R_alloc | apply Kd.R_drewN | apply Kd.R_drew)); exact HO125.out) (Kd.R_base ho0) hb); have n1_ := Aside0.mk (Kd.R_lower (Kd.R_new' ho0 (Kd.R_lt (by (with_reducible repeat (first | apply Kd.R_alloc | apply Kd.R_drewN | apply Kd.R_drew)); exact HO125.out))) (below_size (by repeat (first | (with_reducible first | exact HB.out | apply below_alloc | apply pw_below_drewN | apply below_drew1) | exact HB.out)))); have n2_ := Aside0.mk (below_step (by repeat (first | (with_reducible first | exact HB.out | apply below_alloc | apply pw_below_drewN | apply below_drew1) | exact HB.out)) hb); clear HO125; clear HB; have HO125 := n0_; have HO128 := n1_; have HB := n2_; clear n0_ n1_ n2_; (try clear hb); (try clear hb2); (try clear hk); (try clear hi); (try clear ho0); obtain ⟨Ao56, co56, eo56⟩ := Kd.R_slice HO125.out; subst eo56; obtain ⟨Ao57, co57, eo57⟩ := Kd.R_slice HO128.out; subst eo57; (try clear A46)) | (go_at_call 12; (with_reducible refine (penumbraref01_Ints.calls kj25 _ _ t123 _ _ t126 t129 _ ?side1 ?side2 ?side3 ?side4 A47.out).mono ?_); (case side1 => repeat (first | exact (Kd.R_reads' HO125.out).2.2 | (with_reducible refine Kd.C_alloc ?_ _) | (with_reducible refine Kd.C_drewN ?_ _) | (with_reducible refine Kd.C_drew ?_))); (case side2 => exact (Kd.R_reads' HO125.out).2.1); (case side3 => repeat (first | exact (Kd.R_reads' HO128.out).2.2 | (with_reducible refine Kd.C_alloc ?_ _) | (with_reducible refine Kd.C_drewN ?_ _) | (with_reducible refine Kd.C_drew ?_))); (case side4 => exact (Kd.R_reads' HO128.out).2.1); rintro e w' ⟨rfl, ⟨nd, rfl⟩⟩; (try clear A47)) | (go_at_call 22; (with_reducible refine (penumbraref31_Rests.calls kj25 _ _ l0 t130 _ ?side1 ?side2 A49.out).mono ?_); (case side1 => repeat (first | exact (Kd.C_below HR0.out (by repeat (first | (with_reducible first | exact HB.out | apply below_alloc | apply pw_below_drewN | apply below_drew1) | exact HB.out))) | (with_reducible refine Kd.C_alloc ?_ _) | (with_reducible refine Kd.C_drewN ?_ _) | (with_reducible refine Kd.C_drew ?_))); (case side2 => exact HC0.out); rintro e w58 ⟨v131, rfl, ho0, hb⟩; have n0_ := Aside0.mk (Kd.R_elder' (by (with_reducible repeat (first | apply Kd.R_alloc | apply Kd.R_drewN | apply Kd.R_drew)); exact HO125.out) (Kd.R_base ho0) hb); have n1_ := Aside0.mk (Kd.R_elder' (by (with_reducible repeat (first | apply Kd.R_alloc | apply Kd.R_drewN | apply Kd.R_drew)); exact HO128.out) (Kd.R_base ho0) hb); have n2_ := Aside0.mk (Kd.R_lower (Kd.R_new' (Kd.R_new' ho0 (Kd.R_lt (by (with_reducible repeat (first | apply Kd.R_alloc | apply Kd.R_drewN | apply Kd.R_drew)); exact HO125.out))) (Kd.R_lt (by (with_reducible repeat (first | apply Kd.R_alloc | apply Kd.R_drewN | apply Kd.R_drew)); exact HO128.out))) (below_size (by repeat (first | (with_reducible first | exact HB.out | apply below_alloc | apply pw_below_drewN | apply below_drew1) | exact HB.out)))); have n3_ := Aside0.mk (below_step (by repeat (first | (with_reducible first | exact HB.out | apply below_alloc | apply pw_below_drewN | apply below_drew1) | exact HB.out)) hb); clear HO125; clear HO128; clear HB; have HO125 := n0_; have HO128 := n1_; have HO132 := n2_; have HB := n3_; clear n0_ n1_ n2_ n3_; (try clear hb); (try clear hb2); (try clear hk); (try clear hi); (try clear ho0); obtain ⟨Ao59, co59, eo59⟩ := Kd.R_slice HO132.out; subst eo59; (try clear A49)) | (go_at_call 23; (with_reducible refine (matrix_Same.calls kj25 _ _ l0 _ _ t130 t133 _ ?side1 ?side2 ?side3 ?side4 A50.out).mono ?_); (case side1 => repeat (first | exact (Kd.C_below HR0.out HB.out) | (with_reducible refine Kd.C_alloc ?_ _) | (with_reducible refine Kd.C_drewN ?_ _) | (with_reducible refine Kd.C_drew ?_))); (case side2 => exact HC0.out); (case side3 => repeat (first | exact (Kd.R_reads' HO132.out).2.2 | (with_reducible refine Kd.C_alloc ?_ _) | (with_reducible refine Kd.C_drewN ?_ _) | (with_reducible refine Kd.C_drew ?_))); (case side4 => exact (Kd.R_reads' HO132.out).2.1); rintro e w60 ⟨rfl, hb⟩; have n0_ := Aside0.mk (Kd.R_below (by (with_reducible repeat (first | apply Kd.R_alloc | apply Kd.R_drewN | apply Kd.R_drew)); exact HO125.out) hb); have n1_ := Aside0.mk (Kd.R_below (by (with_reducible repeat (first | apply Kd.R_alloc | apply Kd.R_drewN | apply Kd.R_drew)); exact HO128.out) hb); have n2_ := Aside0.mk (Kd.R_below (by (with_reducible repeat (first | apply Kd.R_alloc | apply Kd.R_drewN | apply Kd.R_drew)); exact HO132.out) hb); have n3_ := Aside0.mk (below_step (by repeat (first | (with_reducible first | exact HB.out | apply below_alloc | apply pw_below_drewN | apply below_drew1) | exact HB.out)) hb); clear HO125; clear HO128; clear HO132; clear HB; have HO125 := n0_; have HO128 := n1_; have HO132 := n2_; have HB := n3_; clear n0_ n1_ n2_ n3_; (try clear hb); (try clear hb2); (try clear hk); (try clear hi); (try clear A50)))
                          go_ret
                          exact ⟨by first | rfl | (simp [errW_none, errW_some] <;> rfl) | (simp [*, errW_none, errW_some] <;> rfl), by repeat (first | (with_reducible first | exact HB.out | apply below_alloc | apply pw_below_drewN | apply below_drew1) | exact HB.out)⟩
                        · rw [if_neg c48] at H
                          have c48b0 : (t122 == t129) = false := by simpa using c48
                          (try (have c48b1 : decide (t122 = t129) = false := by simpa using c48))
                          (try (have c48b2 : (t122 == t129) = false := by simpa using c48))
                          (try (have c48b3 : ¬ (t122 = t129) := by simpa using c48))
                          clear c48
                          exact absurd ((Option.some.inj H).trans hr_) (by decide)
                      · rw [if_neg c43] at H
                        have c43b0 : (t120 == t121) = false := beq_eq_false_iff_ne.mpr c43
                        have c43b1 : (t120 != t121) = true := bne_iff_ne.mpr c43
                        exact absurd ((Option.some.inj H).trans hr_) (by decide)
                    · replace c40 := Bool.eq_false_iff.mpr c40
                      subst c40
                      have H1 : (some false) = some r := by rw [if_neg (show ¬ (false = true) by decide)] at H; exact H
                      clear H
                      have H := H1
                      clear H1
                      exact absurd ((Option.some.inj H).trans hr_) (by decide)
              · rw [if_neg c24] at H
                have c24b0 : ((t104.length : Int) == (wrap64 (a2 * a2))) = false := beq_eq_false_iff_ne.mpr c24
                have c24b1 : ((t104.length : Int) != (wrap64 (a2 * a2))) = true := bne_iff_ne.mpr c24
                exact absurd ((Option.some.inj H).trans hr_) (by decide)

/-- THE ONE PURE STATEMENT of penumbralaw31_MatrixLooks: yours. -/
def penumbralaw31_MatrixLooks.Pure : Prop := ∀ (l0 : List Int) (l1 : List Int) (a2 : Int), l0.length ≤ maxLen → l0.length * 8 ≤ 140737488351232 → (∀ x ∈ l0, (Lit.int .i64 x).wf = true) → l1.length ≤ maxLen → l1.length * 8 ≤ 140737488351232 → (∀ x ∈ l1, (Lit.int .i64 x).wf = true) → (Lit.int .i64 a2).wf = true → ∃ k, penumbralaw31_MatrixLooks.f k l0 l1 a2 = some true
theorem penumbralaw31_MatrixLooks.walk (P : penumbralaw31_MatrixLooks.Pure) (a0 : Option Addr) (len0 cap0 : Nat) (z0 : List Int) (a1 : Option Addr) (len1 cap1 : Nat) (z1 : List Int) (a2 : Int) (w : World) (w0 : (a0 = none ∧ len0 = 0 ∧ cap0 = 0 ∧ z0 = []) ∨ ∃ x, a0 = some x ∧ len0 ≤ cap0 ∧ cap0 ≤ maxLen ∧ z0.length = cap0 ∧ (∀ i, i < z0.length → w.cell? (x.add i) = some (.int .i64 (z0.getD i 0))) ∧ ∀ n ∈ z0, (Lit.int .i64 n).wf = true) (y0 : len0 * 8 ≤ 140737488351232) (w1 : (a1 = none ∧ len1 = 0 ∧ cap1 = 0 ∧ z1 = []) ∨ ∃ x, a1 = some x ∧ len1 ≤ cap1 ∧ cap1 ≤ maxLen ∧ z1.length = cap1 ∧ (∀ i, i < z1.length → w.cell? (x.add i) = some (.int .i64 (z1.getD i 0))) ∧ ∀ n ∈ z1, (Lit.int .i64 n).wf = true) (y1 : len1 * 8 ≤ 140737488351232) (w2 : (Lit.int .i64 a2).wf = true) :
    Calls Try.prog 6 #[.slice a0 len0 cap0, .slice a1 len1 cap1, .int .i64 a2] w fun e w' => e = .returned (.bool true) ∧ Below w.heap.size w w' := by
  obtain ⟨l0, rfl, hr0, hm0, hw0, hc0⟩ := ReadsInt.ofRowC w0
  obtain ⟨l1, rfl, hr1, hm1, hw1, hc1⟩ := ReadsInt.ofRowC w1
  obtain ⟨k, h⟩ := P l0 l1 a2 hm0 y0 hw0 hm1 y1 hw1 w2
  refine (penumbralaw31_MatrixLooks.calls k _ _ l0 _ _ l1 a2 true w (Kd.C_of_reads (d := (0 : Int)) (h1 := fun _ => rfl) hr0) hc0 (Kd.C_of_reads (d := (0 : Int)) (h1 := fun _ => rfl) hr1) hc1 h rfl).mono ?_
  rintro e w' ⟨rfl, hd⟩
  exact ⟨rfl, hd⟩

end Go.Proofs.Ytmnolhkgnedcnaa.X
