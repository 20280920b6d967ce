-- written by xprint.py (a program of this session, over the kit's print)
import Derived.Test.YtmpbjmjphapnoaaXx0
import Derived.Test.YtmpbjmjphapnoaaXxI44
import Derived.Test.YtmpbjmjphapnoaaXxI44b
import Derived.Test.YtmpbjmjphapnoaaXxL44awake
namespace Go.Proofs.Ytmpbjmjphapnoaa.X
open Go.RowKit Go.Proofs.YtmpbjmjphapnoaaW.PrintWords Go.Proofs.YtmpbjmjphapnoaaW.PrintLast Go.Proofs.YtmpbjmjphapnoaaW.PrintMore
attribute [local go_sem] max2_int min2_int max_two min_two max_three min_three max_four min_four   -- for this text's walks alone
set_option linter.unusedVariables false
set_option linter.unusedSimpArgs false

/-! ### penumbralaw44_PpmDecodes: function 4 -/
def penumbralaw44_PpmDecodes.f (k : Nat) (a0 : ByteArray) : Option (Bool) := if (a0.size : Int) > 3000 then ((penumbralaw44_awake.f k).bind fun t101 => (some t101)) else ((ppm_Decode.f a0).bind fun bt102 => ((penumbraref44_Decode.f k a0).bind fun bt108 => (if bt108.2.2.2 = 0 then ((penumbralaw44_awake.f k).bind fun t112 => (if t112 = true then (if bt102.1 = bt108.1 then (if bt102.2.1 = bt108.2.1 then (if (strOfNums bt102.2.2.1).toList = bt108.2.2.1.toList then (if bt102.2.2.2 = 0 then ((penumbraref44_Encode.f k bt102.1 bt102.2.1 bt102.2.2.1).bind fun t113 => (some (t113.toList == a0.toList))) else (some false)) else (some false)) else (some false)) else (some false)) else (some false))) else ((penumbralaw44_awake.f k).bind fun t114 => (if t114 = true then (if bt102.1 = 0 then (if bt102.2.1 = 0 then (if (bt102.2.2.1.length : Int) = 0 then (some (bt102.2.2.2 == bt108.2.2.2)) else (some false)) else (some false)) else (some false)) else (some false))))))
theorem penumbralaw44_PpmDecodes.mono : ∀ a0 k, LeO (penumbralaw44_PpmDecodes.f k a0) (penumbralaw44_PpmDecodes.f (k + 1) a0) := by
  intro a0 k
  unfold penumbralaw44_PpmDecodes.f
  repeat' first
      | (with_reducible exact penumbralaw44_awake.mono _)
      | (with_reducible exact penumbraref44_Decode.mono _ _)
      | (with_reducible exact penumbraref44_Encode.mono _ _ _ _)
      | (with_reducible exact LeO.refl _)
      | (with_reducible exact LeO.none _)
      | (with_reducible refine LeO.ite ?_ ?_)
      | (with_reducible refine LeO.bind ?_ (fun _ => ?_))
      | exact penumbralaw44_awake.mono _
      | exact penumbraref44_Decode.mono _ _
      | exact penumbraref44_Encode.mono _ _ _ _
      | exact LeO.none _
      | refine LeO.ite ?_ ?_
      | refine LeO.bind ?_ (fun _ => ?_)
set_option maxHeartbeats 8000000 in
set_option maxRecDepth 100000 in
theorem penumbralaw44_PpmDecodes.calls (k : Nat) (a0 : ByteArray) (r : Bool) (w : World) (h : penumbralaw44_PpmDecodes.f k a0 = some r) (hr_ : r = true) :
    Calls Try.prog 4 #[.string a0] w fun e w' => e = .returned (.bool r) ∧ Below w.heap.size w w' := by
  have HB := Aside0.mk (Below.refl w.heap.size w)
  have H : (if (a0.size : Int) > 3000 then ((penumbralaw44_awake.f k).bind fun t101 => (some t101)) else ((ppm_Decode.f a0).bind fun bt102 => ((penumbraref44_Decode.f k a0).bind fun bt108 => (if bt108.2.2.2 = 0 then ((penumbralaw44_awake.f k).bind fun t112 => (if t112 = true then (if bt102.1 = bt108.1 then (if bt102.2.1 = bt108.2.1 then (if (strOfNums bt102.2.2.1).toList = bt108.2.2.1.toList then (if bt102.2.2.2 = 0 then ((penumbraref44_Encode.f k bt102.1 bt102.2.1 bt102.2.2.1).bind fun t113 => (some (t113.toList == a0.toList))) else (some false)) else (some false)) else (some false)) else (some false)) else (some false))) else ((penumbralaw44_awake.f k).bind fun t114 => (if t114 = true then (if bt102.1 = 0 then (if bt102.2.1 = 0 then (if (bt102.2.2.1.length : Int) = 0 then (some (bt102.2.2.2 == bt108.2.2.2)) else (some false)) else (some false)) else (some false)) else (some false))))))) = some r := h
  clear h
  by_cases c2 : (a0.size : Int) > 3000
  · rw [if_pos c2] at H
    have c2b0 : decide (3000 < (a0.size : Int)) = true := decide_eq_true c2
    have c2b1 : decide (3000 < a0.size) = true := decide_eq_true (by omega)
    clear c2
    replace H := Option.bind_eq_some_iff.mp H
    obtain ⟨t101, A30, H⟩ := H
    replace H : (some t101) = some r := H
    have A3 := Aside0.mk A30
    clear A30
    obtain rfl := Option.some.inj H
    go_enter Try.func4, Try.ntmps4
    go_wp2_with (first | ((with_reducible refine gate_callee (f := 7) rfl ?_); refine goesL_ (some 14) rfl rfl Try.func7 (by kernel_rfl) rfl #[] rfl (by (try simp only [List.map_toArray, List.map_cons, List.map_nil]); first | done | rfl | (simp only [List.length_drop, List.length_take]; rfl)) ?_; (with_reducible refine (penumbralaw44_awake.calls k  t101 _ A3.out).mono ?_); rintro e w4 ⟨rfl, hb⟩; refine ⟨_, rfl, ?_⟩; have n0_ := Aside0.mk (below_step (by repeat (first | (with_reducible first | exact HB.out | apply below_alloc | apply pw_below_drewN | apply below_drew1) | exact HB.out)) hb); clear HB; have HB := n0_; clear n0_; (try clear hb); (try clear hb2); (try clear hk); (try clear hi); (try clear A3)))
    go_ret
    exact ⟨by first | rfl | (simp [errW_none, errW_some] <;> rfl) | (simp [*, errW_none, errW_some] <;> rfl), by repeat (first | (with_reducible first | exact HB.out | apply below_alloc | apply pw_below_drewN | apply below_drew1) | exact HB.out)⟩
  · rw [if_neg c2] at H
    have c2b0 : decide (3000 < (a0.size : Int)) = false := decide_eq_false c2
    have c2b1 : decide (3000 < a0.size) = false := decide_eq_false (by omega)
    clear c2
    replace H := Option.bind_eq_some_iff.mp H
    obtain ⟨⟨t102, t103, t104, t105⟩, A50, H⟩ := H
    replace H : ((penumbraref44_Decode.f k a0).bind fun bt108 => (if bt108.2.2.2 = 0 then ((penumbralaw44_awake.f k).bind fun t112 => (if t112 = true then (if t102 = bt108.1 then (if t103 = bt108.2.1 then (if (strOfNums t104).toList = bt108.2.2.1.toList then (if t105 = 0 then ((penumbraref44_Encode.f k t102 t103 t104).bind fun t113 => (some (t113.toList == a0.toList))) else (some false)) else (some false)) else (some false)) else (some false)) else (some false))) else ((penumbralaw44_awake.f k).bind fun t114 => (if t114 = true then (if t102 = 0 then (if t103 = 0 then (if (t104.length : Int) = 0 then (some (t105 == bt108.2.2.2)) else (some false)) else (some false)) else (some false)) else (some false))))) = some r := H
    have A5 := Aside0.mk A50
    clear A50
    replace H := Option.bind_eq_some_iff.mp H
    obtain ⟨⟨t108, t109, t110, t111⟩, A60, H⟩ := H
    replace H : (if t111 = 0 then ((penumbralaw44_awake.f k).bind fun t112 => (if t112 = true then (if t102 = t108 then (if t103 = t109 then (if (strOfNums t104).toList = t110.toList then (if t105 = 0 then ((penumbraref44_Encode.f k t102 t103 t104).bind fun t113 => (some (t113.toList == a0.toList))) else (some false)) else (some false)) else (some false)) else (some false)) else (some false))) else ((penumbralaw44_awake.f k).bind fun t114 => (if t114 = true then (if t102 = 0 then (if t103 = 0 then (if (t104.length : Int) = 0 then (some (t105 == t111)) else (some false)) else (some false)) else (some false)) else (some false)))) = some r := H
    have A6 := Aside0.mk A60
    clear A60
    by_cases c7 : t111 = 0
    · rw [if_pos c7] at H
      have c7b0 : (t111 == 0) = true := beq_iff_eq.mpr c7
      have c7b1 : (t111 != 0) = false := bne_eq_false_iff_eq.mpr c7
      clear c7
      replace H := Option.bind_eq_some_iff.mp H
      obtain ⟨t112, A80, H⟩ := H
      replace H : (if t112 = true then (if t102 = t108 then (if t103 = t109 then (if (strOfNums t104).toList = t110.toList then (if t105 = 0 then ((penumbraref44_Encode.f k t102 t103 t104).bind fun t113 => (some (t113.toList == a0.toList))) else (some false)) else (some false)) else (some false)) else (some false)) else (some false)) = some r := H
      have A8 := Aside0.mk A80
      clear A80
      by_cases c9 : t112 = true
      · subst c9
        have H1 : (if t102 = t108 then (if t103 = t109 then (if (strOfNums t104).toList = t110.toList then (if t105 = 0 then ((penumbraref44_Encode.f k t102 t103 t104).bind fun t113 => (some (t113.toList == a0.toList))) else (some false)) else (some false)) else (some false)) else (some false)) = some r := by rw [if_pos rfl] at H; exact H
        clear H
        have H := H1
        clear H1
        by_cases c10 : t102 = t108
        · rw [if_pos c10] at H
          have c10b0 : (t102 == t108) = true := beq_iff_eq.mpr c10
          have c10b1 : (t102 != t108) = false := bne_eq_false_iff_eq.mpr c10
          clear c10
          by_cases c11 : t103 = t109
          · rw [if_pos c11] at H
            have c11b0 : (t103 == t109) = true := beq_iff_eq.mpr c11
            have c11b1 : (t103 != t109) = false := bne_eq_false_iff_eq.mpr c11
            clear c11
            by_cases c12 : (strOfNums t104).toList = t110.toList
            · rw [if_pos c12] at H
              have c12b0 : ((strOfNums t104).toList == t110.toList) = true := beq_iff_eq.mpr c12
              have c12b1 : ((strOfNums t104).toList != t110.toList) = false := bne_eq_false_iff_eq.mpr c12
              clear c12
              by_cases c13 : t105 = 0
              · rw [if_pos c13] at H
                have c13b0 : (t105 == 0) = true := beq_iff_eq.mpr c13
                have c13b1 : (t105 != 0) = false := bne_eq_false_iff_eq.mpr c13
                clear c13
                replace H := Option.bind_eq_some_iff.mp H
                obtain ⟨t113, A140, H⟩ := H
                replace H : (some (t113.toList == a0.toList)) = some r := H
                have A14 := Aside0.mk A140
                clear A140
                obtain rfl := Option.some.inj H
                go_enter Try.func4, Try.ntmps4
                go_wp2_with (first | ((with_reducible refine gate_callee (f := 12) rfl ?_); refine goesL_ (some 17) rfl rfl Try.func12 (by kernel_rfl) rfl #[.string a0] rfl (by (try simp only [List.map_toArray, List.map_cons, List.map_nil]); first | done | rfl | (simp only [List.length_drop, List.length_take]; rfl)) ?_; (with_reducible refine (ppm_Decode.calls a0 t102 t103 t104 t105 _ A5.out).mono ?_); rintro e w15 ⟨v106, rfl, ho0, hb⟩; refine ⟨_, rfl, ?_⟩; have n0_ := Aside0.mk (Gv.RQ.lower ho0 (below_size (by repeat (first | (with_reducible first | exact HB.out | apply below_alloc | apply pw_below_drewN | apply below_drew1) | exact HB.out)))); have n1_ := Aside0.mk (below_step (by repeat (first | (with_reducible first | exact HB.out | apply below_alloc | apply pw_below_drewN | apply below_drew1) | exact HB.out)) hb); clear HB; have HO107 := n0_; have HB := n1_; clear n0_ n1_; (try clear hb); (try clear hb2); (try clear hk); (try clear hi); (try clear ho0); (try clear A5)) | ((with_reducible refine gate_callee (f := 13) rfl ?_); refine goesL_ (some 24) rfl rfl Try.func13 (by kernel_rfl) rfl #[.string a0] rfl (by (try simp only [List.map_toArray, List.map_cons, List.map_nil]); first | done | rfl | (simp only [List.length_drop, List.length_take]; rfl)) ?_; (with_reducible refine (penumbraref44_Decode.calls k a0 t108 t109 t110 t111 _ A6.out).mono ?_); rintro e w' ⟨rfl, ⟨nd, rfl⟩⟩; refine ⟨_, rfl, ?_⟩; (try clear A6)) | ((with_reducible refine gate_callee (f := 7) rfl ?_); refine goesL_ (some 50) rfl rfl Try.func7 (by kernel_rfl) rfl #[] rfl (by (try simp only [List.map_toArray, List.map_cons, List.map_nil]); first | done | rfl | (simp only [List.length_drop, List.length_take]; rfl)) ?_; (with_reducible refine (penumbralaw44_awake.calls k  true _ A8.out).mono ?_); rintro e w16 ⟨rfl, hb⟩; refine ⟨_, rfl, ?_⟩; have n0_ := Aside0.mk (Gv.RQ.below (by (with_reducible repeat (first | apply Gv.RQ.alloc | apply Gv.RQ.drewN | apply Gv.RQ.drew)); exact HO107.out) hb); have n1_ := Aside0.mk (below_step (by repeat (first | (with_reducible first | exact HB.out | apply below_alloc | apply pw_below_drewN | apply below_drew1) | exact HB.out)) hb); clear HO107; clear HB; have HO107 := n0_; have HB := n1_; clear n0_ n1_; (try clear hb); (try clear hb2); (try clear hk); (try clear hi); have hcv17 := Gv.RQ.string (P := Try.prog) Try.underlying22 Try.underlying5 Try.underlying9 HO107.out; obtain ⟨Ao18, co18, eo18⟩ := Gv.RQ.slice HO107.out; subst eo18; (try clear A8)) | (go_at_call 10; (with_reducible refine (penumbraref44_Encode.calls k t102 t103 _ _ t104 t113 _ ?side1 ?side2 A14.out).mono ?_); (case side1 => repeat (first | exact (Gv.RQ.reads HO107.out).2.2 | (with_reducible refine Kd.C_alloc ?_ _) | (with_reducible refine Kd.C_drewN ?_ _) | (with_reducible refine Kd.C_drew ?_))); (case side2 => exact (Gv.RQ.reads HO107.out).2.1); rintro e w' ⟨rfl, ⟨nd, rfl⟩⟩; (try clear A14)))
                go_ret
                exact ⟨by first | rfl | (simp [errW_none, errW_some] <;> rfl) | (simp [*, errW_none, errW_some] <;> rfl), by repeat (first | (with_reducible first | exact HB.out | apply below_alloc | apply pw_below_drewN | apply below_drew1) | exact HB.out)⟩
              · rw [if_neg c13] at H
                have c13b0 : (t105 == 0) = false := beq_eq_false_iff_ne.mpr c13
                have c13b1 : (t105 != 0) = true := bne_iff_ne.mpr c13
                exact absurd ((Option.some.inj H).trans hr_) (by decide)
            · rw [if_neg c12] at H
              have c12b0 : ((strOfNums t104).toList == t110.toList) = false := beq_eq_false_iff_ne.mpr c12
              have c12b1 : ((strOfNums t104).toList != t110.toList) = true := bne_iff_ne.mpr c12
              exact absurd ((Option.some.inj H).trans hr_) (by decide)
          · rw [if_neg c11] at H
            have c11b0 : (t103 == t109) = false := beq_eq_false_iff_ne.mpr c11
            have c11b1 : (t103 != t109) = true := bne_iff_ne.mpr c11
            exact absurd ((Option.some.inj H).trans hr_) (by decide)
        · rw [if_neg c10] at H
          have c10b0 : (t102 == t108) = false := beq_eq_false_iff_ne.mpr c10
          have c10b1 : (t102 != t108) = true := bne_iff_ne.mpr c10
          exact absurd ((Option.some.inj H).trans hr_) (by decide)
      · replace c9 := Bool.eq_false_iff.mpr c9
        subst c9
        have H1 : (some false) = some r := by rw [if_neg (show ¬ (false = true) by decide)] at H; exact H
        clear H
        have H := H1
        clear H1
        exact absurd ((Option.some.inj H).trans hr_) (by decide)
    · rw [if_neg c7] at H
      have c7b0 : (t111 == 0) = false := beq_eq_false_iff_ne.mpr c7
      have c7b1 : (t111 != 0) = true := bne_iff_ne.mpr c7
      replace H := Option.bind_eq_some_iff.mp H
      obtain ⟨t114, A190, H⟩ := H
      replace H : (if t114 = true then (if t102 = 0 then (if t103 = 0 then (if (t104.length : Int) = 0 then (some (t105 == t111)) else (some false)) else (some false)) else (some false)) else (some false)) = some r := H
      have A19 := Aside0.mk A190
      clear A190
      by_cases c20 : t114 = true
      · subst c20
        have H1 : (if t102 = 0 then (if t103 = 0 then (if (t104.length : Int) = 0 then (some (t105 == t111)) else (some false)) else (some false)) else (some false)) = some r := by rw [if_pos rfl] at H; exact H
        clear H
        have H := H1
        clear H1
        by_cases c21 : t102 = 0
        · rw [if_pos c21] at H
          have c21b0 : (t102 == 0) = true := beq_iff_eq.mpr c21
          have c21b1 : (t102 != 0) = false := bne_eq_false_iff_eq.mpr c21
          clear c21
          by_cases c22 : t103 = 0
          · rw [if_pos c22] at H
            have c22b0 : (t103 == 0) = true := beq_iff_eq.mpr c22
            have c22b1 : (t103 != 0) = false := bne_eq_false_iff_eq.mpr c22
            clear c22
            by_cases c23 : (t104.length : Int) = 0
            · rw [if_pos c23] at H
              have c23b0 : ((t104.length : Int) == 0) = true := beq_iff_eq.mpr c23
              have c23b1 : ((t104.length : Int) != 0) = false := bne_eq_false_iff_eq.mpr c23
              clear c23
              obtain rfl := Option.some.inj H
              go_enter Try.func4, Try.ntmps4
              go_wp2_with (first | ((with_reducible refine gate_callee (f := 12) rfl ?_); refine goesL_ (some 17) rfl rfl Try.func12 (by kernel_rfl) rfl #[.string a0] rfl (by (try simp only [List.map_toArray, List.map_cons, List.map_nil]); first | done | rfl | (simp only [List.length_drop, List.length_take]; rfl)) ?_; (with_reducible refine (ppm_Decode.calls a0 t102 t103 t104 t105 _ A5.out).mono ?_); rintro e w24 ⟨v106, rfl, ho0, hb⟩; refine ⟨_, rfl, ?_⟩; have n0_ := Aside0.mk (Gv.RQ.lower ho0 (below_size (by repeat (first | (with_reducible first | exact HB.out | apply below_alloc | apply pw_below_drewN | apply below_drew1) | exact HB.out)))); have n1_ := Aside0.mk (below_step (by repeat (first | (with_reducible first | exact HB.out | apply below_alloc | apply pw_below_drewN | apply below_drew1) | exact HB.out)) hb); clear HB; have HO107 := n0_; have HB := n1_; clear n0_ n1_; (try clear hb); (try clear hb2); (try clear hk); (try clear hi); (try clear ho0); (try clear A5)) | ((with_reducible refine gate_callee (f := 13) rfl ?_); refine goesL_ (some 24) rfl rfl Try.func13 (by kernel_rfl) rfl #[.string a0] rfl (by (try simp only [List.map_toArray, List.map_cons, List.map_nil]); first | done | rfl | (simp only [List.length_drop, List.length_take]; rfl)) ?_; (with_reducible refine (penumbraref44_Decode.calls k a0 t108 t109 t110 t111 _ A6.out).mono ?_); rintro e w' ⟨rfl, ⟨nd, rfl⟩⟩; refine ⟨_, rfl, ?_⟩; (try clear A6)) | ((with_reducible refine gate_callee (f := 7) rfl ?_); refine goesL_ (some 31) rfl rfl Try.func7 (by kernel_rfl) rfl #[] rfl (by (try simp only [List.map_toArray, List.map_cons, List.map_nil]); first | done | rfl | (simp only [List.length_drop, List.length_take]; rfl)) ?_; (with_reducible refine (penumbralaw44_awake.calls k  true _ A19.out).mono ?_); rintro e w25 ⟨rfl, hb⟩; refine ⟨_, rfl, ?_⟩; have n0_ := Aside0.mk (Gv.RQ.below (by (with_reducible repeat (first | apply Gv.RQ.alloc | apply Gv.RQ.drewN | apply Gv.RQ.drew)); exact HO107.out) hb); have n1_ := Aside0.mk (below_step (by repeat (first | (with_reducible first | exact HB.out | apply below_alloc | apply pw_below_drewN | apply below_drew1) | exact HB.out)) hb); clear HO107; clear HB; have HO107 := n0_; have HB := n1_; clear n0_ n1_; (try clear hb); (try clear hb2); (try clear hk); (try clear hi); obtain ⟨Ao26, co26, eo26⟩ := Gv.RQ.slice HO107.out; subst eo26; (try clear A19)))
              go_ret
              exact ⟨by first | rfl | (simp [errW_none, errW_some] <;> rfl) | (simp [*, errW_none, errW_some] <;> rfl), by repeat (first | (with_reducible first | exact HB.out | apply below_alloc | apply pw_below_drewN | apply below_drew1) | exact HB.out)⟩
            · rw [if_neg c23] at H
              have c23b0 : ((t104.length : Int) == 0) = false := beq_eq_false_iff_ne.mpr c23
              have c23b1 : ((t104.length : Int) != 0) = true := bne_iff_ne.mpr c23
              have c23b2 : ¬ (t104 = []) := fun h_ => c23 (by rw [h_]; rfl)
              exact absurd ((Option.some.inj H).trans hr_) (by decide)
          · rw [if_neg c22] at H
            have c22b0 : (t103 == 0) = false := beq_eq_false_iff_ne.mpr c22
            have c22b1 : (t103 != 0) = true := bne_iff_ne.mpr c22
            exact absurd ((Option.some.inj H).trans hr_) (by decide)
        · rw [if_neg c21] at H
          have c21b0 : (t102 == 0) = false := beq_eq_false_iff_ne.mpr c21
          have c21b1 : (t102 != 0) = true := bne_iff_ne.mpr c21
          exact absurd ((Option.some.inj H).trans hr_) (by decide)
      · replace c20 := Bool.eq_false_iff.mpr c20
        subst c20
        have H1 : (some false) = some r := by rw [if_neg (show ¬ (false = true) by decide)] at H; exact H
        clear H
        have H := H1
        clear H1
        exact absurd ((Option.some.inj H).trans hr_) (by decide)

/-- THE ONE PURE STATEMENT of penumbralaw44_PpmDecodes: yours. -/
def penumbralaw44_PpmDecodes.Pure : Prop := ∀ (a0 : ByteArray), a0.size ≤ 140737488351232 → ∃ k, penumbralaw44_PpmDecodes.f k a0 = some true
theorem penumbralaw44_PpmDecodes.walk (P : penumbralaw44_PpmDecodes.Pure) (a0 : ByteArray) (w : World) (w0 : a0.size ≤ 140737488351232) :
    Calls Try.prog 4 #[.string a0] w fun e w' => e = .returned (.bool true) ∧ Below w.heap.size w w' := by
  obtain ⟨k, h⟩ := P a0 w0
  refine (penumbralaw44_PpmDecodes.calls k a0 true w h rfl).mono ?_
  rintro e w' ⟨rfl, hd⟩
  exact ⟨rfl, hd⟩

end Go.Proofs.Ytmpbjmjphapnoaa.X
