-- written by xprint.py (a program of this session, over the kit's print)
import Derived.Test.YtkjgaecjdfgnmaaXx0
import Derived.Test.YtkjgaecjdfgnmaaXxA30
import Derived.Test.YtkjgaecjdfgnmaaXxL30awake
namespace Go.Proofs.Ytkjgaecjdfgnmaa.X
open Go.RowKit Go.Proofs.YtkjgaecjdfgnmaaW.PrintWords Go.Proofs.YtkjgaecjdfgnmaaW.PrintLast Go.Proofs.YtkjgaecjdfgnmaaW.PrintMore
attribute [local go_sem] max2_int min2_int max_two min_two max_three min_three max_four min_four   -- for this text's walks alone
set_option linter.unusedVariables false
set_option linter.unusedSimpArgs false

/-! ### penumbralaw30_FieldDivides: function 3 -/
def penumbralaw30_FieldDivides.f (k : Nat) (a0 : Int) (a1 : Int) (a2 : Int) : Option (Bool) := (field_Inv.f k a0).bind fun bt101 => ((field_Div.f k a1 a0).bind fun bt103 => ((penumbraref30_Of.f a0).bind fun t105 => (if t105 = 0 then ((penumbralaw30_awake.f k).bind fun t106 => (if t106 = true then (if bt101.1 = 0 then (if bt101.2 = 13 then (if bt103.1 = 0 then (some (bt103.2 == 13)) else (some false)) else (some false)) else (some false)) else (some false))) else ((penumbralaw30_awake.f k).bind fun t107 => (if t107 = true then (if bt101.2 = 0 then (if bt103.2 = 0 then ((penumbraref30_Inv.f k a0).bind fun t108 => (if bt101.1 = t108 then ((penumbraref30_Mul.f bt101.1 a0).bind fun t109 => (if t109 = 1 then ((penumbraref30_Mul.f bt103.1 a0).bind fun t110 => ((penumbraref30_Of.f a1).bind fun t111 => (if t110 = t111 then ((field_Pow.f k a0 (wrap64 (a2))).bind fun t112 => ((penumbraref30_Pow.f k a0 (wrap64 (a2))).bind fun t113 => (if t112 = t113 then ((field_Pow.f k a0 (wrap64 ((-1) - (wrap64 (a2))))).bind fun t114 => (some (t114 == 0))) else (some false)))) else (some false)))) else (some false))) else (some false))) else (some false)) else (some false)) else (some false))))))
theorem penumbralaw30_FieldDivides.mono : ∀ a0 a1 a2 k, LeO (penumbralaw30_FieldDivides.f k a0 a1 a2) (penumbralaw30_FieldDivides.f (k + 1) a0 a1 a2) := by
  intro a0 a1 a2 k
  unfold penumbralaw30_FieldDivides.f
  repeat' first
      | (with_reducible exact field_Div.mono _ _ _)
      | (with_reducible exact field_Inv.mono _ _)
      | (with_reducible exact field_Pow.mono _ _ _)
      | (with_reducible exact penumbralaw30_awake.mono _)
      | (with_reducible exact penumbraref30_Inv.mono _ _)
      | (with_reducible exact penumbraref30_Pow.mono _ _ _)
      | (with_reducible exact LeO.refl _)
      | (with_reducible exact LeO.none _)
      | (with_reducible refine LeO.ite ?_ ?_)
      | (with_reducible refine LeO.bind ?_ (fun _ => ?_))
      | exact field_Div.mono _ _ _
      | exact field_Inv.mono _ _
      | exact field_Pow.mono _ _ _
      | exact penumbralaw30_awake.mono _
      | exact penumbraref30_Inv.mono _ _
      | exact penumbraref30_Pow.mono _ _ _
      | exact LeO.none _
      | refine LeO.ite ?_ ?_
      | refine LeO.bind ?_ (fun _ => ?_)
set_option maxHeartbeats 8000000 in
set_option maxRecDepth 100000 in
theorem penumbralaw30_FieldDivides.calls (k : Nat) (a0 : Int) (a1 : Int) (a2 : Int) (r : Bool) (w : World) (h : penumbralaw30_FieldDivides.f k a0 a1 a2 = some r) (hr_ : r = true) :
    Calls Try.prog 3 #[.int .i64 a0, .int .i64 a1, .int .u8 a2] w fun e w' => e = .returned (.bool r) ∧ Below w.heap.size w w' := by
  have HB := Aside0.mk (Below.refl w.heap.size w)
  have H : ((field_Inv.f k a0).bind fun bt101 => ((field_Div.f k a1 a0).bind fun bt103 => ((penumbraref30_Of.f a0).bind fun t105 => (if t105 = 0 then ((penumbralaw30_awake.f k).bind fun t106 => (if t106 = true then (if bt101.1 = 0 then (if bt101.2 = 13 then (if bt103.1 = 0 then (some (bt103.2 == 13)) else (some false)) else (some false)) else (some false)) else (some false))) else ((penumbralaw30_awake.f k).bind fun t107 => (if t107 = true then (if bt101.2 = 0 then (if bt103.2 = 0 then ((penumbraref30_Inv.f k a0).bind fun t108 => (if bt101.1 = t108 then ((penumbraref30_Mul.f bt101.1 a0).bind fun t109 => (if t109 = 1 then ((penumbraref30_Mul.f bt103.1 a0).bind fun t110 => ((penumbraref30_Of.f a1).bind fun t111 => (if t110 = t111 then ((field_Pow.f k a0 (wrap64 (a2))).bind fun t112 => ((penumbraref30_Pow.f k a0 (wrap64 (a2))).bind fun t113 => (if t112 = t113 then ((field_Pow.f k a0 (wrap64 ((-1) - (wrap64 (a2))))).bind fun t114 => (some (t114 == 0))) else (some false)))) else (some false)))) else (some false))) else (some false))) else (some false)) else (some false)) else (some false))))))) = some r := h
  clear h
  replace H := Option.bind_eq_some_iff.mp H
  obtain ⟨⟨t101, t102⟩, A40, H⟩ := H
  replace H : ((field_Div.f k a1 a0).bind fun bt103 => ((penumbraref30_Of.f a0).bind fun t105 => (if t105 = 0 then ((penumbralaw30_awake.f k).bind fun t106 => (if t106 = true then (if t101 = 0 then (if t102 = 13 then (if bt103.1 = 0 then (some (bt103.2 == 13)) else (some false)) else (some false)) else (some false)) else (some false))) else ((penumbralaw30_awake.f k).bind fun t107 => (if t107 = true then (if t102 = 0 then (if bt103.2 = 0 then ((penumbraref30_Inv.f k a0).bind fun t108 => (if t101 = t108 then ((penumbraref30_Mul.f t101 a0).bind fun t109 => (if t109 = 1 then ((penumbraref30_Mul.f bt103.1 a0).bind fun t110 => ((penumbraref30_Of.f a1).bind fun t111 => (if t110 = t111 then ((field_Pow.f k a0 (wrap64 (a2))).bind fun t112 => ((penumbraref30_Pow.f k a0 (wrap64 (a2))).bind fun t113 => (if t112 = t113 then ((field_Pow.f k a0 (wrap64 ((-1) - (wrap64 (a2))))).bind fun t114 => (some (t114 == 0))) else (some false)))) else (some false)))) else (some false))) else (some false))) else (some false)) else (some false)) else (some false)))))) = some r := H
  have A4 := Aside0.mk A40
  clear A40
  replace H := Option.bind_eq_some_iff.mp H
  obtain ⟨⟨t103, t104⟩, A50, H⟩ := H
  replace H : ((penumbraref30_Of.f a0).bind fun t105 => (if t105 = 0 then ((penumbralaw30_awake.f k).bind fun t106 => (if t106 = true then (if t101 = 0 then (if t102 = 13 then (if t103 = 0 then (some (t104 == 13)) else (some false)) else (some false)) else (some false)) else (some false))) else ((penumbralaw30_awake.f k).bind fun t107 => (if t107 = true then (if t102 = 0 then (if t104 = 0 then ((penumbraref30_Inv.f k a0).bind fun t108 => (if t101 = t108 then ((penumbraref30_Mul.f t101 a0).bind fun t109 => (if t109 = 1 then ((penumbraref30_Mul.f t103 a0).bind fun t110 => ((penumbraref30_Of.f a1).bind fun t111 => (if t110 = t111 then ((field_Pow.f k a0 (wrap64 (a2))).bind fun t112 => ((penumbraref30_Pow.f k a0 (wrap64 (a2))).bind fun t113 => (if t112 = t113 then ((field_Pow.f k a0 (wrap64 ((-1) - (wrap64 (a2))))).bind fun t114 => (some (t114 == 0))) else (some false)))) else (some false)))) else (some false))) else (some false))) else (some false)) else (some false)) else (some false))))) = some r := H
  have A5 := Aside0.mk A50
  clear A50
  replace H := Option.bind_eq_some_iff.mp H
  obtain ⟨t105, A60, H⟩ := H
  replace H : (if t105 = 0 then ((penumbralaw30_awake.f k).bind fun t106 => (if t106 = true then (if t101 = 0 then (if t102 = 13 then (if t103 = 0 then (some (t104 == 13)) else (some false)) else (some false)) else (some false)) else (some false))) else ((penumbralaw30_awake.f k).bind fun t107 => (if t107 = true then (if t102 = 0 then (if t104 = 0 then ((penumbraref30_Inv.f k a0).bind fun t108 => (if t101 = t108 then ((penumbraref30_Mul.f t101 a0).bind fun t109 => (if t109 = 1 then ((penumbraref30_Mul.f t103 a0).bind fun t110 => ((penumbraref30_Of.f a1).bind fun t111 => (if t110 = t111 then ((field_Pow.f k a0 (wrap64 (a2))).bind fun t112 => ((penumbraref30_Pow.f k a0 (wrap64 (a2))).bind fun t113 => (if t112 = t113 then ((field_Pow.f k a0 (wrap64 ((-1) - (wrap64 (a2))))).bind fun t114 => (some (t114 == 0))) else (some false)))) else (some false)))) else (some false))) else (some false))) else (some false)) else (some false)) else (some false)))) = some r := H
  have A6 := Aside0.mk A60
  clear A60
  by_cases c7 : t105 = 0
  · rw [if_pos c7] at H
    have c7b0 : (t105 == 0) = true := beq_iff_eq.mpr c7
    have c7b1 : (t105 != 0) = false := bne_eq_false_iff_eq.mpr c7
    clear c7
    replace H := Option.bind_eq_some_iff.mp H
    obtain ⟨t106, A80, H⟩ := H
    replace H : (if t106 = true then (if t101 = 0 then (if t102 = 13 then (if t103 = 0 then (some (t104 == 13)) else (some false)) else (some false)) else (some false)) else (some false)) = some r := H
    have A8 := Aside0.mk A80
    clear A80
    by_cases c9 : t106 = true
    · subst c9
      have H1 : (if t101 = 0 then (if t102 = 13 then (if t103 = 0 then (some (t104 == 13)) else (some false)) else (some false)) else (some false)) = some r := by rw [if_pos rfl] at H; exact H
      clear H
      have H := H1
      clear H1
      by_cases c10 : t101 = 0
      · rw [if_pos c10] at H
        have c10b0 : (t101 == 0) = true := beq_iff_eq.mpr c10
        have c10b1 : (t101 != 0) = false := bne_eq_false_iff_eq.mpr c10
        clear c10
        by_cases c11 : t102 = 13
        · rw [if_pos c11] at H
          have c11b0 : (t102 == 13) = true := beq_iff_eq.mpr c11
          have c11b1 : (t102 != 13) = false := bne_eq_false_iff_eq.mpr c11
          clear c11
          by_cases c12 : t103 = 0
          · rw [if_pos c12] at H
            have c12b0 : (t103 == 0) = true := beq_iff_eq.mpr c12
            have c12b1 : (t103 != 0) = false := bne_eq_false_iff_eq.mpr c12
            clear c12
            obtain rfl := Option.some.inj H
            go_enter Try.func3, Try.ntmps3
            go_wp2_with (first | ((with_reducible refine gate_callee (f := 7) rfl ?_); refine goesL_ (some 13) rfl rfl Try.func7 (by kernel_rfl) rfl #[.int .i64 a0] rfl (by (try simp only [List.map_toArray, List.map_cons, List.map_nil]); first | done | rfl | (simp only [List.length_drop, List.length_take]; rfl)) ?_; (with_reducible refine (field_Inv.calls k a0 t101 t102 _ A4.out).mono ?_); rintro e w13 ⟨rfl, hb⟩; refine ⟨_, rfl, ?_⟩; have n0_ := Aside0.mk (below_step (by repeat (first | (with_reducible first | exact HB.out | apply below_alloc | apply pw_below_drewN | apply below_drew1) | exact HB.out)) hb); clear HB; have HB := n0_; clear n0_; (try clear hb); (try clear hb2); (try clear hk); (try clear hi); (try clear A4)) | ((with_reducible refine gate_callee (f := 8) rfl ?_); refine goesL_ (some 19) rfl rfl Try.func8 (by kernel_rfl) rfl #[.int .i64 a1, .int .i64 a0] rfl (by (try simp only [List.map_toArray, List.map_cons, List.map_nil]); first | done | rfl | (simp only [List.length_drop, List.length_take]; rfl)) ?_; (with_reducible refine (field_Div.calls k a1 a0 t103 t104 _ A5.out).mono ?_); rintro e w14 ⟨rfl, hb⟩; refine ⟨_, rfl, ?_⟩; have n0_ := Aside0.mk (below_step (by repeat (first | (with_reducible first | exact HB.out | apply below_alloc | apply pw_below_drewN | apply below_drew1) | exact HB.out)) hb); clear HB; have HB := n0_; clear n0_; (try clear hb); (try clear hb2); (try clear hk); (try clear hi); (try clear A5)) | ((with_reducible refine gate_callee (f := 9) rfl ?_); refine goesL_ (some 23) rfl rfl Try.func9 (by kernel_rfl) rfl #[.int .i64 a0] rfl (by (try simp only [List.map_toArray, List.map_cons, List.map_nil]); first | done | rfl | (simp only [List.length_drop, List.length_take]; rfl)) ?_; (with_reducible refine (penumbraref30_Of.calls a0 t105 _ A6.out).mono ?_); rintro e w' ⟨rfl, ⟨nd, rfl⟩⟩; refine ⟨_, rfl, ?_⟩; (try clear A6)) | ((with_reducible refine gate_callee (f := 10) rfl ?_); refine goesL_ (some 25) rfl rfl Try.func10 (by kernel_rfl) rfl #[] rfl (by (try simp only [List.map_toArray, List.map_cons, List.map_nil]); first | done | rfl | (simp only [List.length_drop, List.length_take]; rfl)) ?_; (with_reducible refine (penumbralaw30_awake.calls k  true _ A8.out).mono ?_); rintro e w15 ⟨rfl, hb⟩; refine ⟨_, rfl, ?_⟩; have n0_ := Aside0.mk (below_step (by repeat (first | (with_reducible first | exact HB.out | apply below_alloc | apply pw_below_drewN | apply below_drew1) | exact HB.out)) hb); clear HB; have HB := n0_; clear n0_; (try clear hb); (try clear hb2); (try clear hk); (try clear hi); (try clear A8)))
            go_ret
            exact ⟨by first | rfl | (simp [errW_none, errW_some] <;> rfl) | (simp [*, errW_none, errW_some] <;> rfl), by repeat (first | (with_reducible first | exact HB.out | apply below_alloc | apply pw_below_drewN | apply below_drew1) | exact HB.out)⟩
          · rw [if_neg c12] at H
            have c12b0 : (t103 == 0) = false := beq_eq_false_iff_ne.mpr c12
            have c12b1 : (t103 != 0) = true := bne_iff_ne.mpr c12
            exact absurd ((Option.some.inj H).trans hr_) (by decide)
        · rw [if_neg c11] at H
          have c11b0 : (t102 == 13) = false := beq_eq_false_iff_ne.mpr c11
          have c11b1 : (t102 != 13) = true := bne_iff_ne.mpr c11
          exact absurd ((Option.some.inj H).trans hr_) (by decide)
      · rw [if_neg c10] at H
        have c10b0 : (t101 == 0) = false := beq_eq_false_iff_ne.mpr c10
        have c10b1 : (t101 != 0) = true := bne_iff_ne.mpr c10
        exact absurd ((Option.some.inj H).trans hr_) (by decide)
    · replace c9 := Bool.eq_false_iff.mpr c9
      subst c9
      have H1 : (some false) = some r := by rw [if_neg (show ¬ (false = true) by decide)] at H; exact H
      clear H
      have H := H1
      clear H1
      exact absurd ((Option.some.inj H).trans hr_) (by decide)
  · rw [if_neg c7] at H
    have c7b0 : (t105 == 0) = false := beq_eq_false_iff_ne.mpr c7
    have c7b1 : (t105 != 0) = true := bne_iff_ne.mpr c7
    replace H := Option.bind_eq_some_iff.mp H
    obtain ⟨t107, A160, H⟩ := H
    replace H : (if t107 = true then (if t102 = 0 then (if t104 = 0 then ((penumbraref30_Inv.f k a0).bind fun t108 => (if t101 = t108 then ((penumbraref30_Mul.f t101 a0).bind fun t109 => (if t109 = 1 then ((penumbraref30_Mul.f t103 a0).bind fun t110 => ((penumbraref30_Of.f a1).bind fun t111 => (if t110 = t111 then ((field_Pow.f k a0 (wrap64 (a2))).bind fun t112 => ((penumbraref30_Pow.f k a0 (wrap64 (a2))).bind fun t113 => (if t112 = t113 then ((field_Pow.f k a0 (wrap64 ((-1) - (wrap64 (a2))))).bind fun t114 => (some (t114 == 0))) else (some false)))) else (some false)))) else (some false))) else (some false))) else (some false)) else (some false)) else (some false)) = some r := H
    have A16 := Aside0.mk A160
    clear A160
    by_cases c17 : t107 = true
    · subst c17
      have H1 : (if t102 = 0 then (if t104 = 0 then ((penumbraref30_Inv.f k a0).bind fun t108 => (if t101 = t108 then ((penumbraref30_Mul.f t101 a0).bind fun t109 => (if t109 = 1 then ((penumbraref30_Mul.f t103 a0).bind fun t110 => ((penumbraref30_Of.f a1).bind fun t111 => (if t110 = t111 then ((field_Pow.f k a0 (wrap64 (a2))).bind fun t112 => ((penumbraref30_Pow.f k a0 (wrap64 (a2))).bind fun t113 => (if t112 = t113 then ((field_Pow.f k a0 (wrap64 ((-1) - (wrap64 (a2))))).bind fun t114 => (some (t114 == 0))) else (some false)))) else (some false)))) else (some false))) else (some false))) else (some false)) else (some false)) = some r := by rw [if_pos rfl] at H; exact H
      clear H
      have H := H1
      clear H1
      by_cases c18 : t102 = 0
      · rw [if_pos c18] at H
        have c18b0 : (t102 == 0) = true := beq_iff_eq.mpr c18
        have c18b1 : (t102 != 0) = false := bne_eq_false_iff_eq.mpr c18
        clear c18
        by_cases c19 : t104 = 0
        · rw [if_pos c19] at H
          have c19b0 : (t104 == 0) = true := beq_iff_eq.mpr c19
          have c19b1 : (t104 != 0) = false := bne_eq_false_iff_eq.mpr c19
          clear c19
          replace H := Option.bind_eq_some_iff.mp H
          obtain ⟨t108, A200, H⟩ := H
          replace H : (if t101 = t108 then ((penumbraref30_Mul.f t101 a0).bind fun t109 => (if t109 = 1 then ((penumbraref30_Mul.f t103 a0).bind fun t110 => ((penumbraref30_Of.f a1).bind fun t111 => (if t110 = t111 then ((field_Pow.f k a0 (wrap64 (a2))).bind fun t112 => ((penumbraref30_Pow.f k a0 (wrap64 (a2))).bind fun t113 => (if t112 = t113 then ((field_Pow.f k a0 (wrap64 ((-1) - (wrap64 (a2))))).bind fun t114 => (some (t114 == 0))) else (some false)))) else (some false)))) else (some false))) else (some false)) = some r := H
          have A20 := Aside0.mk A200
          clear A200
          by_cases c21 : t101 = t108
          · rw [if_pos c21] at H
            have c21b0 : (t101 == t108) = true := beq_iff_eq.mpr c21
            have c21b1 : (t101 != t108) = false := bne_eq_false_iff_eq.mpr c21
            clear c21
            replace H := Option.bind_eq_some_iff.mp H
            obtain ⟨t109, A220, H⟩ := H
            replace H : (if t109 = 1 then ((penumbraref30_Mul.f t103 a0).bind fun t110 => ((penumbraref30_Of.f a1).bind fun t111 => (if t110 = t111 then ((field_Pow.f k a0 (wrap64 (a2))).bind fun t112 => ((penumbraref30_Pow.f k a0 (wrap64 (a2))).bind fun t113 => (if t112 = t113 then ((field_Pow.f k a0 (wrap64 ((-1) - (wrap64 (a2))))).bind fun t114 => (some (t114 == 0))) else (some false)))) else (some false)))) else (some false)) = some r := H
            have A22 := Aside0.mk A220
            clear A220
            by_cases c23 : t109 = 1
            · rw [if_pos c23] at H
              have c23b0 : (t109 == 1) = true := beq_iff_eq.mpr c23
              have c23b1 : (t109 != 1) = false := bne_eq_false_iff_eq.mpr c23
              clear c23
              replace H := Option.bind_eq_some_iff.mp H
              obtain ⟨t110, A240, H⟩ := H
              replace H : ((penumbraref30_Of.f a1).bind fun t111 => (if t110 = t111 then ((field_Pow.f k a0 (wrap64 (a2))).bind fun t112 => ((penumbraref30_Pow.f k a0 (wrap64 (a2))).bind fun t113 => (if t112 = t113 then ((field_Pow.f k a0 (wrap64 ((-1) - (wrap64 (a2))))).bind fun t114 => (some (t114 == 0))) else (some false)))) else (some false))) = some r := H
              have A24 := Aside0.mk A240
              clear A240
              replace H := Option.bind_eq_some_iff.mp H
              obtain ⟨t111, A250, H⟩ := H
              replace H : (if t110 = t111 then ((field_Pow.f k a0 (wrap64 (a2))).bind fun t112 => ((penumbraref30_Pow.f k a0 (wrap64 (a2))).bind fun t113 => (if t112 = t113 then ((field_Pow.f k a0 (wrap64 ((-1) - (wrap64 (a2))))).bind fun t114 => (some (t114 == 0))) else (some false)))) else (some false)) = some r := H
              have A25 := Aside0.mk A250
              clear A250
              by_cases c26 : t110 = t111
              · rw [if_pos c26] at H
                have c26b0 : (t110 == t111) = true := beq_iff_eq.mpr c26
                have c26b1 : (t110 != t111) = false := bne_eq_false_iff_eq.mpr c26
                clear c26
                replace H := Option.bind_eq_some_iff.mp H
                obtain ⟨t112, A270, H⟩ := H
                replace H : ((penumbraref30_Pow.f k a0 (wrap64 (a2))).bind fun t113 => (if t112 = t113 then ((field_Pow.f k a0 (wrap64 ((-1) - (wrap64 (a2))))).bind fun t114 => (some (t114 == 0))) else (some false))) = some r := H
                have A27 := Aside0.mk A270
                clear A270
                replace H := Option.bind_eq_some_iff.mp H
                obtain ⟨t113, A280, H⟩ := H
                replace H : (if t112 = t113 then ((field_Pow.f k a0 (wrap64 ((-1) - (wrap64 (a2))))).bind fun t114 => (some (t114 == 0))) else (some false)) = some r := H
                have A28 := Aside0.mk A280
                clear A280
                by_cases c29 : t112 = t113
                · rw [if_pos c29] at H
                  have c29b0 : (t112 == t113) = true := beq_iff_eq.mpr c29
                  have c29b1 : (t112 != t113) = false := bne_eq_false_iff_eq.mpr c29
                  clear c29
                  replace H := Option.bind_eq_some_iff.mp H
                  obtain ⟨t114, A300, H⟩ := H
                  replace H : (some (t114 == 0)) = some r := H
                  have A30 := Aside0.mk A300
                  clear A300
                  obtain rfl := Option.some.inj H
                  go_enter Try.func3, Try.ntmps3
                  go_wp2_with (first | ((with_reducible refine gate_callee (f := 7) rfl ?_); refine goesL_ (some 13) rfl rfl Try.func7 (by kernel_rfl) rfl #[.int .i64 a0] rfl (by (try simp only [List.map_toArray, List.map_cons, List.map_nil]); first | done | rfl | (simp only [List.length_drop, List.length_take]; rfl)) ?_; (with_reducible refine (field_Inv.calls k a0 t101 t102 _ A4.out).mono ?_); rintro e w31 ⟨rfl, hb⟩; refine ⟨_, rfl, ?_⟩; have n0_ := Aside0.mk (below_step (by repeat (first | (with_reducible first | exact HB.out | apply below_alloc | apply pw_below_drewN | apply below_drew1) | exact HB.out)) hb); clear HB; have HB := n0_; clear n0_; (try clear hb); (try clear hb2); (try clear hk); (try clear hi); (try clear A4)) | ((with_reducible refine gate_callee (f := 8) rfl ?_); refine goesL_ (some 19) rfl rfl Try.func8 (by kernel_rfl) rfl #[.int .i64 a1, .int .i64 a0] rfl (by (try simp only [List.map_toArray, List.map_cons, List.map_nil]); first | done | rfl | (simp only [List.length_drop, List.length_take]; rfl)) ?_; (with_reducible refine (field_Div.calls k a1 a0 t103 t104 _ A5.out).mono ?_); rintro e w32 ⟨rfl, hb⟩; refine ⟨_, rfl, ?_⟩; have n0_ := Aside0.mk (below_step (by repeat (first | (with_reducible first | exact HB.out | apply below_alloc | apply pw_below_drewN | apply below_drew1) | exact HB.out)) hb); clear HB; have HB := n0_; clear n0_; (try clear hb); (try clear hb2); (try clear hk); (try clear hi); (try clear A5)) | ((with_reducible refine gate_callee (f := 9) rfl ?_); refine goesL_ (some 23) rfl rfl Try.func9 (by kernel_rfl) rfl #[.int .i64 a0] rfl (by (try simp only [List.map_toArray, List.map_cons, List.map_nil]); first | done | rfl | (simp only [List.length_drop, List.length_take]; rfl)) ?_; (with_reducible refine (penumbraref30_Of.calls a0 t105 _ A6.out).mono ?_); rintro e w' ⟨rfl, ⟨nd, rfl⟩⟩; refine ⟨_, rfl, ?_⟩; (try clear A6)) | ((with_reducible refine gate_callee (f := 10) rfl ?_); refine goesL_ (some 42) rfl rfl Try.func10 (by kernel_rfl) rfl #[] rfl (by (try simp only [List.map_toArray, List.map_cons, List.map_nil]); first | done | rfl | (simp only [List.length_drop, List.length_take]; rfl)) ?_; (with_reducible refine (penumbralaw30_awake.calls k  true _ A16.out).mono ?_); rintro e w33 ⟨rfl, hb⟩; refine ⟨_, rfl, ?_⟩; have n0_ := Aside0.mk (below_step (by repeat (first | (with_reducible first | exact HB.out | apply below_alloc | apply pw_below_drewN | apply below_drew1) | exact HB.out)) hb); clear HB; have HB := n0_; clear n0_; (try clear hb); (try clear hb2); (try clear hk); (try clear hi); (try clear A16)) | (go_at_call 11; (with_reducible refine (penumbraref30_Inv.calls k a0 t108 _ A20.out).mono ?_); rintro e w' ⟨rfl, ⟨nd, rfl⟩⟩; (try clear A20)) | (go_at_call 12; (with_reducible refine (penumbraref30_Mul.calls t101 a0 t109 _ A22.out).mono ?_); rintro e w' ⟨rfl, ⟨nd, rfl⟩⟩; (try clear A22)) | (go_at_call 12; (with_reducible refine (penumbraref30_Mul.calls t103 a0 t110 _ A24.out).mono ?_); rintro e w' ⟨rfl, ⟨nd, rfl⟩⟩; (try clear A24)) | (go_at_call 9; (with_reducible refine (penumbraref30_Of.calls a1 t111 _ A25.out).mono ?_); rintro e w' ⟨rfl, ⟨nd, rfl⟩⟩; (try clear A25)) | (go_at_call 13; (with_reducible refine (field_Pow.calls k a0 (wrap64 (a2)) t112 _ A27.out).mono ?_); rintro e w34 ⟨rfl, hb⟩; have n0_ := Aside0.mk (below_step (by repeat (first | (with_reducible first | exact HB.out | apply below_alloc | apply pw_below_drewN | apply below_drew1) | exact HB.out)) hb); clear HB; have HB := n0_; clear n0_; (try clear hb); (try clear hb2); (try clear hk); (try clear hi); (try clear A27)) | (go_at_call 14; (with_reducible refine (penumbraref30_Pow.calls k a0 (wrap64 (a2)) t113 _ A28.out).mono ?_); rintro e w' ⟨rfl, ⟨nd, rfl⟩⟩; (try clear A28)) | (go_at_call 13; (with_reducible refine (field_Pow.calls k a0 (wrap64 ((-1) - (wrap64 (a2)))) t114 _ A30.out).mono ?_); rintro e w35 ⟨rfl, hb⟩; have n0_ := Aside0.mk (below_step (by repeat (first | (with_reducible first | exact HB.out | apply below_alloc | apply pw_below_drewN | apply below_drew1) | exact HB.out)) hb); clear HB; have HB := n0_; clear n0_; (try clear hb); (try clear hb2); (try clear hk); (try clear hi); (try clear A30)))
                  go_ret
                  exact ⟨by first | rfl | (simp [errW_none, errW_some] <;> rfl) | (simp [*, errW_none, errW_some] <;> rfl), by repeat (first | (with_reducible first | exact HB.out | apply below_alloc | apply pw_below_drewN | apply below_drew1) | exact HB.out)⟩
                · rw [if_neg c29] at H
                  have c29b0 : (t112 == t113) = false := beq_eq_false_iff_ne.mpr c29
                  have c29b1 : (t112 != t113) = true := bne_iff_ne.mpr c29
                  exact absurd ((Option.some.inj H).trans hr_) (by decide)
              · rw [if_neg c26] at H
                have c26b0 : (t110 == t111) = false := beq_eq_false_iff_ne.mpr c26
                have c26b1 : (t110 != t111) = true := bne_iff_ne.mpr c26
                exact absurd ((Option.some.inj H).trans hr_) (by decide)
            · rw [if_neg c23] at H
              have c23b0 : (t109 == 1) = false := beq_eq_false_iff_ne.mpr c23
              have c23b1 : (t109 != 1) = true := bne_iff_ne.mpr c23
              exact absurd ((Option.some.inj H).trans hr_) (by decide)
          · rw [if_neg c21] at H
            have c21b0 : (t101 == t108) = false := beq_eq_false_iff_ne.mpr c21
            have c21b1 : (t101 != t108) = true := bne_iff_ne.mpr c21
            exact absurd ((Option.some.inj H).trans hr_) (by decide)
        · rw [if_neg c19] at H
          have c19b0 : (t104 == 0) = false := beq_eq_false_iff_ne.mpr c19
          have c19b1 : (t104 != 0) = true := bne_iff_ne.mpr c19
          exact absurd ((Option.some.inj H).trans hr_) (by decide)
      · rw [if_neg c18] at H
        have c18b0 : (t102 == 0) = false := beq_eq_false_iff_ne.mpr c18
        have c18b1 : (t102 != 0) = true := bne_iff_ne.mpr c18
        exact absurd ((Option.some.inj H).trans hr_) (by decide)
    · replace c17 := Bool.eq_false_iff.mpr c17
      subst c17
      have H1 : (some false) = some r := by rw [if_neg (show ¬ (false = true) by decide)] at H; exact H
      clear H
      have H := H1
      clear H1
      exact absurd ((Option.some.inj H).trans hr_) (by decide)

/-- THE ONE PURE STATEMENT of penumbralaw30_FieldDivides: yours. -/
def penumbralaw30_FieldDivides.Pure : Prop := ∀ (a0 : Int) (a1 : Int) (a2 : Int), (Lit.int .i64 a0).wf = true → (Lit.int .i64 a1).wf = true → (Lit.int .u8 a2).wf = true → ∃ k, penumbralaw30_FieldDivides.f k a0 a1 a2 = some true
theorem penumbralaw30_FieldDivides.walk (P : penumbralaw30_FieldDivides.Pure) (a0 : Int) (a1 : Int) (a2 : Int) (w : World) (w0 : (Lit.int .i64 a0).wf = true) (w1 : (Lit.int .i64 a1).wf = true) (w2 : (Lit.int .u8 a2).wf = true) :
    Calls Try.prog 3 #[.int .i64 a0, .int .i64 a1, .int .u8 a2] w fun e w' => e = .returned (.bool true) ∧ Below w.heap.size w w' := by
  obtain ⟨k, h⟩ := P a0 a1 a2 w0 w1 w2
  refine (penumbralaw30_FieldDivides.calls k a0 a1 a2 true w h rfl).mono ?_
  rintro e w' ⟨rfl, hd⟩
  exact ⟨rfl, hd⟩

end Go.Proofs.Ytkjgaecjdfgnmaa.X
