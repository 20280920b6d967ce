-- written by xprint.py (a program of this session, over the kit's print)
import Derived.Test.YtkjgaecjdfgnmaaXx0
import Derived.Test.YtkjgaecjdfgnmaaXxA30
import Derived.Test.YtkjgaecjdfgnmaaXxL30awake
namespace Go.Proofs.Ytkjgaecjdfgnmaa.X
open Go.RowKit Go.Proofs.YtkjgaecjdfgnmaaW.PrintWords Go.Proofs.YtkjgaecjdfgnmaaW.PrintLast Go.Proofs.YtkjgaecjdfgnmaaW.PrintMore
attribute [local go_sem] max2_int min2_int max_two min_two max_three min_three max_four min_four   -- for this text's walks alone
set_option linter.unusedVariables false
set_option linter.unusedSimpArgs false

/-! ### penumbralaw30_FieldReckons: function 6 -/
mutual
def penumbralaw30_FieldReckons.l0 : Nat → List Int → Int → Int → Int → Int → Int → Option (Bool)
  | 0, _, _, _, _, _, _ => none
  | k + 1, x0, x1, x2, x7, x8, x9 => if x9 < (x0.length : Int) then (if 0 ≤ x9 then ((penumbraref30_Add.f x7 (rd x0 x9)).bind fun t106 => ((penumbraref30_Mul.f x8 (rd x0 x9)).bind fun t108 => (penumbralaw30_FieldReckons.l0 k x0 x1 x2 t106 t108 (wrap64 (x9 + 1))))) else (none)) else ((field_Clean.f k x0).bind fun t109 => (penumbralaw30_FieldReckons.l1 k x0 x1 x2 x7 x8 t109 0))
def penumbralaw30_FieldReckons.l1 : Nat → List Int → Int → Int → Int → Int → List Int → Int → Option (Bool)
  | 0, _, _, _, _, _, _, _ => none
  | k + 1, x0, x1, x2, x7, x8, x10, x11 => if x11 < (x0.length : Int) then (if x11 ≥ (x10.length : Int) then (some false) else (if 0 ≤ x11 then (if x11 < (x10.length : Int) then ((penumbraref30_Of.f (rd x0 x11)).bind fun t114 => (if (rd x10 x11) = t114 then (penumbralaw30_FieldReckons.l1 k x0 x1 x2 x7 x8 x10 (wrap64 (x11 + 1))) else (some false))) else (none)) else (none))) else ((penumbralaw30_awake.f k).bind fun t115 => (if t115 = true then ((field_Add.f x0).bind fun t116 => (if t116 = x7 then ((field_Mul.f x0).bind fun t117 => (if t117 = x8 then ((field_Sub.f x1 x2).bind fun t118 => ((penumbraref30_Sub.f x1 x2).bind fun t119 => (if t118 = t119 then ((field_Of.f x1).bind fun t120 => ((penumbraref30_Of.f x1).bind fun t121 => (if t120 = t121 then (some ((x10.length : Int) == (x0.length : Int))) else (some false)))) else (some false)))) else (some false))) else (some false))) else (some false)))
def penumbralaw30_FieldReckons.l1002 : Nat → List Int → Int → Int → Int → Int → Int → Option (Bool)
  | 0, _, _, _, _, _, _ => none
  | k + 1, x0, x1, x2, x7, x8, x9 => if x9 < (x0.length : Int) then (if 0 ≤ x9 then ((penumbraref30_Add.f x7 (rd x0 x9)).bind fun t123 => ((penumbraref30_Mul.f x8 (rd x0 x9)).bind fun t125 => (penumbralaw30_FieldReckons.l1002 k x0 x1 x2 t123 t125 (wrap64 (x9 + 1))))) else (none)) else ((field_Clean.f k x0).bind fun t126 => (penumbralaw30_FieldReckons.l1003 k x0 x1 x2 x7 x8 t126 0))
def penumbralaw30_FieldReckons.l1003 : Nat → List Int → Int → Int → Int → Int → List Int → Int → Option (Bool)
  | 0, _, _, _, _, _, _, _ => none
  | k + 1, x0, x1, x2, x7, x8, x10, x11 => if x11 < (x0.length : Int) then (if x11 ≥ (x10.length : Int) then (some false) else (if 0 ≤ x11 then (if x11 < (x10.length : Int) then ((penumbraref30_Of.f (rd x0 x11)).bind fun t131 => (if (rd x10 x11) = t131 then (penumbralaw30_FieldReckons.l1003 k x0 x1 x2 x7 x8 x10 (wrap64 (x11 + 1))) else (some false))) else (none)) else (none))) else ((penumbralaw30_awake.f k).bind fun t132 => (if t132 = true then ((field_Add.f x0).bind fun t133 => (if t133 = x7 then ((field_Mul.f x0).bind fun t134 => (if t134 = x8 then ((field_Sub.f x1 x2).bind fun t135 => ((penumbraref30_Sub.f x1 x2).bind fun t136 => (if t135 = t136 then ((field_Of.f x1).bind fun t137 => ((penumbraref30_Of.f x1).bind fun t138 => (if t137 = t138 then (some ((x10.length : Int) == (x0.length : Int))) else (some false)))) else (some false)))) else (some false))) else (some false))) else (some false)))
end
def penumbralaw30_FieldReckons.f (k : Nat) (l0 : List Int) (a1 : Int) (a2 : Int) : Option (Bool) := if (l0.length : Int) > 50 then (if 50 ≤ (l0.length : Int) then (penumbralaw30_FieldReckons.l0 k (l0.take 50) a1 a2 0 1 0) else (none)) else (penumbralaw30_FieldReckons.l1002 k l0 a1 a2 0 1 0)
theorem penumbralaw30_FieldReckons.mono_l : ∀ k, (∀ y0 y1 y2 y3 y4 y5, LeO (penumbralaw30_FieldReckons.l0 k y0 y1 y2 y3 y4 y5) (penumbralaw30_FieldReckons.l0 (k + 1) y0 y1 y2 y3 y4 y5)) ∧ (∀ y0 y1 y2 y3 y4 y5 y6, LeO (penumbralaw30_FieldReckons.l1 k y0 y1 y2 y3 y4 y5 y6) (penumbralaw30_FieldReckons.l1 (k + 1) y0 y1 y2 y3 y4 y5 y6)) ∧ (∀ y0 y1 y2 y3 y4 y5, LeO (penumbralaw30_FieldReckons.l1002 k y0 y1 y2 y3 y4 y5) (penumbralaw30_FieldReckons.l1002 (k + 1) y0 y1 y2 y3 y4 y5)) ∧ (∀ y0 y1 y2 y3 y4 y5 y6, LeO (penumbralaw30_FieldReckons.l1003 k y0 y1 y2 y3 y4 y5 y6) (penumbralaw30_FieldReckons.l1003 (k + 1) y0 y1 y2 y3 y4 y5 y6))
  | 0 => ⟨fun _ _ _ _ _ _ r h => by simp [penumbralaw30_FieldReckons.l0] at h, fun _ _ _ _ _ _ _ r h => by simp [penumbralaw30_FieldReckons.l1] at h, fun _ _ _ _ _ _ r h => by simp [penumbralaw30_FieldReckons.l1002] at h, fun _ _ _ _ _ _ _ r h => by simp [penumbralaw30_FieldReckons.l1003] at h⟩
  | k + 1 => by
    obtain ⟨ih0, ih1, ih2, ih3⟩ := penumbralaw30_FieldReckons.mono_l k
    refine ⟨?_, ?_, ?_, ?_⟩
    · intro y0 y1 y2 y3 y4 y5
      unfold penumbralaw30_FieldReckons.l0
      repeat' first
      | (with_reducible exact ih0 _ _ _ _ _ _)
      | (with_reducible exact ih1 _ _ _ _ _ _ _)
      | (with_reducible exact ih2 _ _ _ _ _ _)
      | (with_reducible exact ih3 _ _ _ _ _ _ _)
      | (with_reducible exact field_Clean.mono _ _)
      | (with_reducible exact penumbralaw30_awake.mono _)
      | (with_reducible exact LeO.refl _)
      | (with_reducible exact LeO.none _)
      | (with_reducible refine LeO.ite ?_ ?_)
      | (with_reducible refine LeO.bind ?_ (fun _ => ?_))
      | exact ih0 _ _ _ _ _ _
      | exact ih1 _ _ _ _ _ _ _
      | exact ih2 _ _ _ _ _ _
      | exact ih3 _ _ _ _ _ _ _
      | exact field_Clean.mono _ _
      | exact penumbralaw30_awake.mono _
      | exact LeO.none _
      | refine LeO.ite ?_ ?_
      | refine LeO.bind ?_ (fun _ => ?_)
    · intro y0 y1 y2 y3 y4 y5 y6
      unfold penumbralaw30_FieldReckons.l1
      repeat' first
      | (with_reducible exact ih0 _ _ _ _ _ _)
      | (with_reducible exact ih1 _ _ _ _ _ _ _)
      | (with_reducible exact ih2 _ _ _ _ _ _)
      | (with_reducible exact ih3 _ _ _ _ _ _ _)
      | (with_reducible exact field_Clean.mono _ _)
      | (with_reducible exact penumbralaw30_awake.mono _)
      | (with_reducible exact LeO.refl _)
      | (with_reducible exact LeO.none _)
      | (with_reducible refine LeO.ite ?_ ?_)
      | (with_reducible refine LeO.bind ?_ (fun _ => ?_))
      | exact ih0 _ _ _ _ _ _
      | exact ih1 _ _ _ _ _ _ _
      | exact ih2 _ _ _ _ _ _
      | exact ih3 _ _ _ _ _ _ _
      | exact field_Clean.mono _ _
      | exact penumbralaw30_awake.mono _
      | exact LeO.none _
      | refine LeO.ite ?_ ?_
      | refine LeO.bind ?_ (fun _ => ?_)
    · intro y0 y1 y2 y3 y4 y5
      unfold penumbralaw30_FieldReckons.l1002
      repeat' first
      | (with_reducible exact ih0 _ _ _ _ _ _)
      | (with_reducible exact ih1 _ _ _ _ _ _ _)
      | (with_reducible exact ih2 _ _ _ _ _ _)
      | (with_reducible exact ih3 _ _ _ _ _ _ _)
      | (with_reducible exact field_Clean.mono _ _)
      | (with_reducible exact penumbralaw30_awake.mono _)
      | (with_reducible exact LeO.refl _)
      | (with_reducible exact LeO.none _)
      | (with_reducible refine LeO.ite ?_ ?_)
      | (with_reducible refine LeO.bind ?_ (fun _ => ?_))
      | exact ih0 _ _ _ _ _ _
      | exact ih1 _ _ _ _ _ _ _
      | exact ih2 _ _ _ _ _ _
      | exact ih3 _ _ _ _ _ _ _
      | exact field_Clean.mono _ _
      | exact penumbralaw30_awake.mono _
      | exact LeO.none _
      | refine LeO.ite ?_ ?_
      | refine LeO.bind ?_ (fun _ => ?_)
    · intro y0 y1 y2 y3 y4 y5 y6
      unfold penumbralaw30_FieldReckons.l1003
      repeat' first
      | (with_reducible exact ih0 _ _ _ _ _ _)
      | (with_reducible exact ih1 _ _ _ _ _ _ _)
      | (with_reducible exact ih2 _ _ _ _ _ _)
      | (with_reducible exact ih3 _ _ _ _ _ _ _)
      | (with_reducible exact field_Clean.mono _ _)
      | (with_reducible exact penumbralaw30_awake.mono _)
      | (with_reducible exact LeO.refl _)
      | (with_reducible exact LeO.none _)
      | (with_reducible refine LeO.ite ?_ ?_)
      | (with_reducible refine LeO.bind ?_ (fun _ => ?_))
      | exact ih0 _ _ _ _ _ _
      | exact ih1 _ _ _ _ _ _ _
      | exact ih2 _ _ _ _ _ _
      | exact ih3 _ _ _ _ _ _ _
      | exact field_Clean.mono _ _
      | exact penumbralaw30_awake.mono _
      | exact LeO.none _
      | refine LeO.ite ?_ ?_
      | refine LeO.bind ?_ (fun _ => ?_)
theorem penumbralaw30_FieldReckons.mono : ∀ a0 a1 a2 k, LeO (penumbralaw30_FieldReckons.f k a0 a1 a2) (penumbralaw30_FieldReckons.f (k + 1) a0 a1 a2) := by
  intro a0 a1 a2 k
  obtain ⟨ih0, ih1, ih2, ih3⟩ := penumbralaw30_FieldReckons.mono_l k
  unfold penumbralaw30_FieldReckons.f
  repeat' first
      | (with_reducible exact ih0 _ _ _ _ _ _)
      | (with_reducible exact ih1 _ _ _ _ _ _ _)
      | (with_reducible exact ih2 _ _ _ _ _ _)
      | (with_reducible exact ih3 _ _ _ _ _ _ _)
      | (with_reducible exact field_Clean.mono _ _)
      | (with_reducible exact penumbralaw30_awake.mono _)
      | (with_reducible exact LeO.refl _)
      | (with_reducible exact LeO.none _)
      | (with_reducible refine LeO.ite ?_ ?_)
      | (with_reducible refine LeO.bind ?_ (fun _ => ?_))
      | exact ih0 _ _ _ _ _ _
      | exact ih1 _ _ _ _ _ _ _
      | exact ih2 _ _ _ _ _ _
      | exact ih3 _ _ _ _ _ _ _
      | exact field_Clean.mono _ _
      | exact penumbralaw30_awake.mono _
      | exact LeO.none _
      | refine LeO.ite ?_ ?_
      | refine LeO.bind ?_ (fun _ => ?_)
set_option maxHeartbeats 8000000 in
set_option maxRecDepth 100000 in
theorem penumbralaw30_FieldReckons.calls (k : Nat) (A0 : Option Addr) (c0 : Nat) (l0 : List Int) (a1 : Int) (a2 : Int) (r : Bool) (w : World) (hr0 : Kd.C (Kd.int .i64) w A0 l0.length l0) (hc0 : l0.length ≤ c0) (h : penumbralaw30_FieldReckons.f k l0 a1 a2 = some r) (hr_ : r = true) :
    Calls Try.prog 6 #[.slice A0 l0.length c0, .int .i64 a1, .int .i64 a2] w fun e w' => e = .returned (.bool r) ∧ Below w.heap.size w w' := by
  have HR0 := Aside0.mk hr0
  have HC0 := Aside0.mk hc0
  clear hr0 hc0
  have HB := Aside0.mk (Below.refl w.heap.size w)
  have H : (if (l0.length : Int) > 50 then (if 50 ≤ (l0.length : Int) then (penumbralaw30_FieldReckons.l0 k (l0.take 50) a1 a2 0 1 0) else (none)) else (penumbralaw30_FieldReckons.l1002 k l0 a1 a2 0 1 0)) = some r := h
  clear h
  by_cases c4 : (l0.length : Int) > 50
  · rw [if_pos c4] at H
    have c4b0 : decide (50 < (l0.length : Int)) = true := decide_eq_true c4
    have c4b1 : decide (50 < l0.length) = true := decide_eq_true (by omega)
    clear c4
    by_cases c5 : 50 ≤ (l0.length : Int)
    · rw [if_pos c5] at H
      have c5b0 := eq_true c5
      have c5b1 : decide (50 ≤ (l0.length : Int)) = true := decide_eq_true c5
      clear c5
      obtain ⟨y101, hy101⟩ : ∃ y_ : List Int, y_ = (l0.take 50) := ⟨_, rfl⟩
      replace H : (penumbralaw30_FieldReckons.l0 k y101 a1 a2 0 1 0) = some r := by first | (rw [hy101]; with_reducible exact H) | (have H2_ := (Option.bind_some _ _).symm.trans H; rw [hy101]; with_reducible exact H2_) | (have H2_ := (Option.bind_some _ _).symm.trans H; with_reducible exact H2_) | with_reducible exact H | (rw [hy101]; exact H) | exact H
      have Ny101 := Aside0.mk hy101
      clear hy101
      have H' := Aside0.mk H
      clear H
      have q6 : (50 : Int) ≤ ((l0.length : Int) : Int) := of_decide_eq_true (by first | (with_reducible assumption) | assumption)
      obtain ⟨i06, hi06, _, hsz6, _⟩ := info_parts info3
      have hroom6 : l0.length ≤ c0 := HC0.out
      have hC6 : Kd.C (Kd.int .i64) _ A0 l0.length l0 := HR0.out
      have hcut6 := cut_to (P := Try.prog) 35 3 .i64 Try.underlying35 hi06 A0 l0.length c0 50 (by omega) q6 hroom6
      have hr6 := Kd.C_take (m := 50) hC6 (by omega)
      have hy6 : y101.length = (50 : Int).toNat := (by rw [Ny101.out, List.length_take]; omega)
      rw [← Ny101.out] at hr6
      rw [← hy6] at hcut6
      have HR104 := Aside0.mk hr6
      have HC104 := Aside0.mk (show y101.length ≤ c0 from by omega)
      clear hr6 hC6 hroom6 hi06 hsz6
      have KY6 := Aside0.mk hy6
      clear hy6
      replace q6 := eq_true q6
      go_enter Try.func6, Try.ntmps6
      go_wp2
      repeat (go_quiet (fail); try go_wp2)
      go_loopg [7, 8, 9] k (fun kq v7 v8 v9 w' => ∃ (x7_1 : Int) (x8_1 : Int) (x9_1 : Int), v7 = .int .i64 x7_1 ∧ v8 = .int .i64 x8_1 ∧ v9 = .int .i64 x9_1 ∧ Aside0 (penumbralaw30_FieldReckons.l0 kq y101 a1 a2 x7_1 x8_1 x9_1 = some r) ∧ Aside0 (kq ≤ k) ∧ Aside0 (Below w.heap.size w w'))
      case atStart => exact ⟨(0), (1), (0), (by first | rfl | (simp; done) | (simp [*]; done)), (by first | rfl | (simp; done) | (simp [*]; done)), (by first | rfl | (simp; done) | (simp [*]; done)), H', ⟨Nat.le_refl _⟩, ⟨by repeat (first | (with_reducible first | exact HB.out | apply below_alloc | apply pw_below_drewN | apply below_drew1) | exact HB.out)⟩⟩
      case round =>
        clear H'
        try clear p2
        try clear c4
        try clear c4b0
        try clear c4b1
        try clear c5
        try clear c5b0
        try clear c5b1
        try clear c6
        try clear q6
        try clear q6
        obtain ⟨x7_1, x8_1, x9_1, rfl, rfl, rfl, HA, HK1, HB⟩ := hrel
        cases gk with
        | zero => exact absurd HA.out (by simp [penumbralaw30_FieldReckons.l0])
        | succ k1 =>
          have H := HA.out
          clear HA
          simp only [penumbralaw30_FieldReckons.l0] at H
          by_cases c7 : x9_1 < (y101.length : Int)
          · rw [if_pos c7] at H
            have c7b0 : decide (x9_1 < (y101.length : Int)) = true := decide_eq_true c7
            clear c7
            by_cases c8 : 0 ≤ x9_1
            · rw [if_pos c8] at H
              have c8b0 : decide (0 ≤ x9_1) = true := decide_eq_true c8
              clear c8
              replace H := Option.bind_eq_some_iff.mp H
              obtain ⟨t106, A90, H⟩ := H
              replace H : ((penumbraref30_Mul.f x8_1 (rd y101 x9_1)).bind fun t108 => (penumbralaw30_FieldReckons.l0 k1 y101 a1 a2 t106 t108 (wrap64 (x9_1 + 1)))) = some r := H
              have A9 := Aside0.mk A90
              clear A90
              replace H := Option.bind_eq_some_iff.mp H
              obtain ⟨t108, A100, H⟩ := H
              replace H : (penumbralaw30_FieldReckons.l0 k1 y101 a1 a2 t106 t108 (wrap64 (x9_1 + 1))) = some r := H
              have A10 := Aside0.mk A100
              clear A100
              have H' := Aside0.mk H
              clear H
              have p105 : 0 ≤ (x9_1 : Int) := of_decide_eq_true (by first | (with_reducible assumption) | assumption)
              have q105 : x9_1 < (y101.length : Int) := of_decide_eq_true (by first | (with_reducible assumption) | assumption)
              obtain ⟨ad105, e105, hx105_0⟩ := Kd.at_int HR104.out x9_1 p105 q105
              cases e105
              replace hx105_0 := (HB.out.cell (World.block_lt_of_cell? w _ hx105_0)).trans hx105_0
              replace p105 := eq_true p105
              replace q105 := eq_true q105
              go_wp2_with (first | (go_at_call 19; (with_reducible refine (penumbraref30_Add.calls x7_1 (rd y101 x9_1) t106 _ A9.out).mono ?_); rintro e w' ⟨rfl, ⟨nd, rfl⟩⟩; (try first | exact ⟨rfl, _, World.drewN_drewN _ _ _⟩ | exact ⟨rfl, _, Eq.trans (World.drewN_drewN _ _ _) (congrArg (World.drewN _) (Nat.add_assoc _ _ _))⟩); have p107 : 0 ≤ (x9_1 : Int) := of_decide_eq_true (by first | (with_reducible assumption) | assumption); have q107 : x9_1 < (y101.length : Int) := of_decide_eq_true (by first | (with_reducible assumption) | assumption); obtain ⟨ad107, e107, hx107_0⟩ := Kd.at_int HR104.out x9_1 p107 q107; obtain rfl : ad105 = ad107 := (by injection e107); replace hx107_0 := (HB.out.cell (World.block_lt_of_cell? w _ hx107_0)).trans hx107_0; replace p107 := eq_true p107; replace q107 := eq_true q107; (try clear A9)) | (go_at_call 12; (with_reducible refine (penumbraref30_Mul.calls x8_1 (rd y101 x9_1) t108 _ A10.out).mono ?_); rintro e w' ⟨rfl, ⟨nd, rfl⟩⟩; (try first | exact ⟨rfl, _, World.drewN_drewN _ _ _⟩ | exact ⟨rfl, _, Eq.trans (World.drewN_drewN _ _ _) (congrArg (World.drewN _) (Nat.add_assoc _ _ _))⟩); (try clear A10)))
              repeat (go_quiet (first | (go_at_call 19; (with_reducible refine (penumbraref30_Add.calls x7_1 (rd y101 x9_1) t106 _ A9.out).mono ?_); rintro e w' ⟨rfl, ⟨nd, rfl⟩⟩; (try first | exact ⟨rfl, _, World.drewN_drewN _ _ _⟩ | exact ⟨rfl, _, Eq.trans (World.drewN_drewN _ _ _) (congrArg (World.drewN _) (Nat.add_assoc _ _ _))⟩); have p107 : 0 ≤ (x9_1 : Int) := of_decide_eq_true (by first | (with_reducible assumption) | assumption); have q107 : x9_1 < (y101.length : Int) := of_decide_eq_true (by first | (with_reducible assumption) | assumption); obtain ⟨ad107, e107, hx107_0⟩ := Kd.at_int HR104.out x9_1 p107 q107; obtain rfl : ad105 = ad107 := (by injection e107); replace hx107_0 := (HB.out.cell (World.block_lt_of_cell? w _ hx107_0)).trans hx107_0; replace p107 := eq_true p107; replace q107 := eq_true q107; (try clear A9)) | (go_at_call 12; (with_reducible refine (penumbraref30_Mul.calls x8_1 (rd y101 x9_1) t108 _ A10.out).mono ?_); rintro e w' ⟨rfl, ⟨nd, rfl⟩⟩; (try first | exact ⟨rfl, _, World.drewN_drewN _ _ _⟩ | exact ⟨rfl, _, Eq.trans (World.drewN_drewN _ _ _) (congrArg (World.drewN _) (Nat.add_assoc _ _ _))⟩); (try clear A10))); try go_wp2_with (first | (go_at_call 19; (with_reducible refine (penumbraref30_Add.calls x7_1 (rd y101 x9_1) t106 _ A9.out).mono ?_); rintro e w' ⟨rfl, ⟨nd, rfl⟩⟩; (try first | exact ⟨rfl, _, World.drewN_drewN _ _ _⟩ | exact ⟨rfl, _, Eq.trans (World.drewN_drewN _ _ _) (congrArg (World.drewN _) (Nat.add_assoc _ _ _))⟩); have p107 : 0 ≤ (x9_1 : Int) := of_decide_eq_true (by first | (with_reducible assumption) | assumption); have q107 : x9_1 < (y101.length : Int) := of_decide_eq_true (by first | (with_reducible assumption) | assumption); obtain ⟨ad107, e107, hx107_0⟩ := Kd.at_int HR104.out x9_1 p107 q107; obtain rfl : ad105 = ad107 := (by injection e107); replace hx107_0 := (HB.out.cell (World.block_lt_of_cell? w _ hx107_0)).trans hx107_0; replace p107 := eq_true p107; replace q107 := eq_true q107; (try clear A9)) | (go_at_call 12; (with_reducible refine (penumbraref30_Mul.calls x8_1 (rd y101 x9_1) t108 _ A10.out).mono ?_); rintro e w' ⟨rfl, ⟨nd, rfl⟩⟩; (try first | exact ⟨rfl, _, World.drewN_drewN _ _ _⟩ | exact ⟨rfl, _, Eq.trans (World.drewN_drewN _ _ _) (congrArg (World.drewN _) (Nat.add_assoc _ _ _))⟩); (try clear A10))))
              go_roundg k1
              case measure => have := HK1.out; omega
              case rel => exact ⟨(t106), (t108), (wrap64 (x9_1 + 1)), (by first | rfl | (simp; done) | (simp [*]; done)), (by first | rfl | (simp; done) | (simp [*]; done)), (by first | rfl | (simp; done) | (simp [*]; done)), H', ⟨by have := HK1.out; omega⟩, ⟨by repeat (first | (with_reducible first | exact HB.out | apply below_alloc | apply pw_below_drewN | apply below_drew1) | exact HB.out)⟩⟩
            · rw [if_neg c8] at H
              exact absurd H (by simp)
          · rw [if_neg c7] at H
            have c7b0 : decide (x9_1 < (y101.length : Int)) = false := decide_eq_false c7
            clear c7
            replace H := Option.bind_eq_some_iff.mp H
            obtain ⟨t109, A110, H⟩ := H
            replace H : (penumbralaw30_FieldReckons.l1 k1 y101 a1 a2 x7_1 x8_1 t109 0) = some r := H
            have A11 := Aside0.mk A110
            clear A110
            have H' := Aside0.mk H
            clear H
            go_wp2_with (first | (go_at_call 21; (with_reducible refine (field_Clean.calls k1 _ _ y101 t109 _ ?side1 ?side2 A11.out).mono ?_); (case side1 => repeat (first | exact (Kd.C_below HR104.out HB.out) | (with_reducible refine Kd.C_alloc ?_ _) | (with_reducible refine Kd.C_drewN ?_ _) | (with_reducible refine Kd.C_drew ?_))); (case side2 => exact HC104.out); rintro e w12 ⟨v110, rfl, ho0, hb⟩; have n0_ := Aside0.mk (Kd.R_lower ho0 (below_size (by repeat (first | (with_reducible first | exact HB.out | apply below_alloc | apply pw_below_drewN | apply below_drew1) | exact HB.out)))); have n1_ := Aside0.mk (below_step (by repeat (first | (with_reducible first | exact HB.out | apply below_alloc | apply pw_below_drewN | apply below_drew1) | exact HB.out)) hb); clear HB; have HO111 := n0_; have HB := n1_; clear n0_ n1_; (try clear hb); (try clear hb2); (try clear hk); (try clear hi); (try clear ho0); (try clear A11)))
            repeat (go_quiet (first | (go_at_call 21; (with_reducible refine (field_Clean.calls k1 _ _ y101 t109 _ ?side1 ?side2 A11.out).mono ?_); (case side1 => repeat (first | exact (Kd.C_below HR104.out HB.out) | (with_reducible refine Kd.C_alloc ?_ _) | (with_reducible refine Kd.C_drewN ?_ _) | (with_reducible refine Kd.C_drew ?_))); (case side2 => exact HC104.out); rintro e w12 ⟨v110, rfl, ho0, hb⟩; have n0_ := Aside0.mk (Kd.R_lower ho0 (below_size (by repeat (first | (with_reducible first | exact HB.out | apply below_alloc | apply pw_below_drewN | apply below_drew1) | exact HB.out)))); have n1_ := Aside0.mk (below_step (by repeat (first | (with_reducible first | exact HB.out | apply below_alloc | apply pw_below_drewN | apply below_drew1) | exact HB.out)) hb); clear HB; have HO111 := n0_; have HB := n1_; clear n0_ n1_; (try clear hb); (try clear hb2); (try clear hk); (try clear hi); (try clear ho0); (try clear A11))); try go_wp2_with (first | (go_at_call 21; (with_reducible refine (field_Clean.calls k1 _ _ y101 t109 _ ?side1 ?side2 A11.out).mono ?_); (case side1 => repeat (first | exact (Kd.C_below HR104.out HB.out) | (with_reducible refine Kd.C_alloc ?_ _) | (with_reducible refine Kd.C_drewN ?_ _) | (with_reducible refine Kd.C_drew ?_))); (case side2 => exact HC104.out); rintro e w12 ⟨v110, rfl, ho0, hb⟩; have n0_ := Aside0.mk (Kd.R_lower ho0 (below_size (by repeat (first | (with_reducible first | exact HB.out | apply below_alloc | apply pw_below_drewN | apply below_drew1) | exact HB.out)))); have n1_ := Aside0.mk (below_step (by repeat (first | (with_reducible first | exact HB.out | apply below_alloc | apply pw_below_drewN | apply below_drew1) | exact HB.out)) hb); clear HB; have HO111 := n0_; have HB := n1_; clear n0_ n1_; (try clear hb); (try clear hb2); (try clear hk); (try clear hi); (try clear ho0); (try clear A11))))
            go_loopg [11] k1 (fun kq v11 w' => ∃ (x11_2 : Int), v11 = .int .i64 x11_2 ∧ Aside0 (penumbralaw30_FieldReckons.l1 kq y101 a1 a2 x7_1 x8_1 t109 x11_2 = some r) ∧ Aside0 (kq ≤ k1) ∧ Aside0 (Kd.R (Kd.int .i64) 3 w' w.heap.size (fun _ => True) v110 t109) ∧ Aside0 (Below w.heap.size w w'))
            case atStart => exact ⟨(0), (by first | rfl | (simp; done) | (simp [*]; done)), H', ⟨Nat.le_refl _⟩, ⟨by (with_reducible repeat (first | apply Kd.R_alloc | apply Kd.R_drewN | apply Kd.R_drew)); exact HO111.out⟩, ⟨by repeat (first | (with_reducible first | exact HB.out | apply below_alloc | apply pw_below_drewN | apply below_drew1) | exact HB.out)⟩⟩
            case round =>
              clear H'
              try clear p1
              try clear q1
              try clear hx1
              try clear p2
              try clear c4
              try clear c4b0
              try clear c4b1
              try clear c5
              try clear c5b0
              try clear c5b1
              try clear c6
              try clear p6
              try clear q6
              try clear c7
              try clear c7b0
              try clear c8
              try clear c8b0
              try clear p10
              try clear q10
              try clear hx10
              try clear hx105_0
              try clear hx107_0
              try clear p105
              try clear p107
              try clear p2
              try clear q105
              try clear q107
              try clear q6
              obtain ⟨x11_2, rfl, HA, HK2, HO_10, HB⟩ := hrel
              cases gk with
              | zero => exact absurd HA.out (by simp [penumbralaw30_FieldReckons.l1])
              | succ k2 =>
                have H := HA.out
                clear HA
                simp only [penumbralaw30_FieldReckons.l1] at H
                by_cases c13 : x11_2 < (y101.length : Int)
                · rw [if_pos c13] at H
                  have c13b0 : decide (x11_2 < (y101.length : Int)) = true := decide_eq_true c13
                  clear c13
                  by_cases c14 : x11_2 ≥ (t109.length : Int)
                  · rw [if_pos c14] at H
                    have c14b0 : decide ((t109.length : Int) ≤ x11_2) = true := decide_eq_true c14
                    clear c14
                    exact absurd ((Option.some.inj H).trans hr_) (by decide)
                  · rw [if_neg c14] at H
                    have c14b0 : decide ((t109.length : Int) ≤ x11_2) = false := decide_eq_false c14
                    clear c14
                    by_cases c15 : 0 ≤ x11_2
                    · rw [if_pos c15] at H
                      have c15b0 : decide (0 ≤ x11_2) = true := decide_eq_true c15
                      clear c15
                      by_cases c16 : x11_2 < (t109.length : Int)
                      · rw [if_pos c16] at H
                        have c16b0 : decide (x11_2 < (t109.length : Int)) = true := decide_eq_true c16
                        clear c16
                        replace H := Option.bind_eq_some_iff.mp H
                        obtain ⟨t114, A170, H⟩ := H
                        replace H : (if (rd t109 x11_2) = t114 then (penumbralaw30_FieldReckons.l1 k2 y101 a1 a2 x7_1 x8_1 t109 (wrap64 (x11_2 + 1))) else (some false)) = some r := H
                        have A17 := Aside0.mk A170
                        clear A170
                        by_cases c18 : (rd t109 x11_2) = t114
                        · rw [if_pos c18] at H
                          have c18b0 : ((rd t109 x11_2) == t114) = true := beq_iff_eq.mpr c18
                          have c18b1 : ((rd t109 x11_2) != t114) = false := bne_eq_false_iff_eq.mpr c18
                          clear c18
                          have H' := Aside0.mk H
                          clear H
                          obtain ⟨Ao19, co19, eo19⟩ := Kd.R_slice HO_10.out
                          subst eo19
                          have p112 : 0 ≤ (x11_2 : Int) := of_decide_eq_true (by first | (with_reducible assumption) | assumption)
                          have q112 : x11_2 < (t109.length : Int) := of_decide_eq_true (by first | (with_reducible assumption) | assumption)
                          obtain ⟨ad112, e112, hx112_0⟩ := Kd.at_int (Kd.R_reads' HO_10.out).2.2 x11_2 p112 q112
                          cases e112
                          replace p112 := eq_true p112
                          replace q112 := eq_true q112
                          have p113 : 0 ≤ (x11_2 : Int) := of_decide_eq_true (by first | (with_reducible assumption) | assumption)
                          have q113 : x11_2 < (y101.length : Int) := of_decide_eq_true (by first | (with_reducible assumption) | assumption)
                          obtain ⟨ad113, e113, hx113_0⟩ := Kd.at_int HR104.out x11_2 p113 q113
                          cases e113
                          replace hx113_0 := (HB.out.cell (World.block_lt_of_cell? w _ hx113_0)).trans hx113_0
                          replace p113 := eq_true p113
                          replace q113 := eq_true q113
                          go_wp2_with (first | (go_at_call 9; (with_reducible refine (penumbraref30_Of.calls (rd y101 x11_2) t114 _ A17.out).mono ?_); rintro e w' ⟨rfl, ⟨nd, rfl⟩⟩; (try first | exact ⟨rfl, _, World.drewN_drewN _ _ _⟩ | exact ⟨rfl, _, Eq.trans (World.drewN_drewN _ _ _) (congrArg (World.drewN _) (Nat.add_assoc _ _ _))⟩); (try clear A17)))
                          repeat (go_quiet (first | (go_at_call 9; (with_reducible refine (penumbraref30_Of.calls (rd y101 x11_2) t114 _ A17.out).mono ?_); rintro e w' ⟨rfl, ⟨nd, rfl⟩⟩; (try first | exact ⟨rfl, _, World.drewN_drewN _ _ _⟩ | exact ⟨rfl, _, Eq.trans (World.drewN_drewN _ _ _) (congrArg (World.drewN _) (Nat.add_assoc _ _ _))⟩); (try clear A17))); try go_wp2_with (first | (go_at_call 9; (with_reducible refine (penumbraref30_Of.calls (rd y101 x11_2) t114 _ A17.out).mono ?_); rintro e w' ⟨rfl, ⟨nd, rfl⟩⟩; (try first | exact ⟨rfl, _, World.drewN_drewN _ _ _⟩ | exact ⟨rfl, _, Eq.trans (World.drewN_drewN _ _ _) (congrArg (World.drewN _) (Nat.add_assoc _ _ _))⟩); (try clear A17))))
                          go_roundg k2
                          case measure => have := HK1.out; have := HK2.out; omega
                          case rel => exact ⟨(wrap64 (x11_2 + 1)), (by first | rfl | (simp; done) | (simp [*]; done)), H', ⟨by have := HK1.out; have := HK2.out; omega⟩, ⟨by (with_reducible repeat (first | apply Kd.R_alloc | apply Kd.R_drewN | apply Kd.R_drew)); exact HO_10.out⟩, ⟨by repeat (first | (with_reducible first | exact HB.out | apply below_alloc | apply pw_below_drewN | apply below_drew1) | exact HB.out)⟩⟩
                        · rw [if_neg c18] at H
                          have c18b0 : ((rd t109 x11_2) == t114) = false := beq_eq_false_iff_ne.mpr c18
                          have c18b1 : ((rd t109 x11_2) != t114) = true := bne_iff_ne.mpr c18
                          exact absurd ((Option.some.inj H).trans hr_) (by decide)
                      · rw [if_neg c16] at H
                        exact absurd H (by simp)
                    · rw [if_neg c15] at H
                      exact absurd H (by simp)
                · rw [if_neg c13] at H
                  have c13b0 : decide (x11_2 < (y101.length : Int)) = false := decide_eq_false c13
                  clear c13
                  replace H := Option.bind_eq_some_iff.mp H
                  obtain ⟨t115, A200, H⟩ := H
                  replace H : (if t115 = true then ((field_Add.f y101).bind fun t116 => (if t116 = x7_1 then ((field_Mul.f y101).bind fun t117 => (if t117 = x8_1 then ((field_Sub.f a1 a2).bind fun t118 => ((penumbraref30_Sub.f a1 a2).bind fun t119 => (if t118 = t119 then ((field_Of.f a1).bind fun t120 => ((penumbraref30_Of.f a1).bind fun t121 => (if t120 = t121 then (some ((t109.length : Int) == (y101.length : Int))) else (some false)))) else (some false)))) else (some false))) else (some false))) else (some false)) = some r := H
                  have A20 := Aside0.mk A200
                  clear A200
                  by_cases c21 : t115 = true
                  · subst c21
                    have H1 : ((field_Add.f y101).bind fun t116 => (if t116 = x7_1 then ((field_Mul.f y101).bind fun t117 => (if t117 = x8_1 then ((field_Sub.f a1 a2).bind fun t118 => ((penumbraref30_Sub.f a1 a2).bind fun t119 => (if t118 = t119 then ((field_Of.f a1).bind fun t120 => ((penumbraref30_Of.f a1).bind fun t121 => (if t120 = t121 then (some ((t109.length : Int) == (y101.length : Int))) else (some false)))) else (some false)))) else (some false))) else (some false))) = some r := by rw [if_pos rfl] at H; exact H
                    clear H
                    have H := H1
                    clear H1
                    replace H := Option.bind_eq_some_iff.mp H
                    obtain ⟨t116, A220, H⟩ := H
                    replace H : (if t116 = x7_1 then ((field_Mul.f y101).bind fun t117 => (if t117 = x8_1 then ((field_Sub.f a1 a2).bind fun t118 => ((penumbraref30_Sub.f a1 a2).bind fun t119 => (if t118 = t119 then ((field_Of.f a1).bind fun t120 => ((penumbraref30_Of.f a1).bind fun t121 => (if t120 = t121 then (some ((t109.length : Int) == (y101.length : Int))) else (some false)))) else (some false)))) else (some false))) else (some false)) = some r := H
                    have A22 := Aside0.mk A220
                    clear A220
                    by_cases c23 : t116 = x7_1
                    · rw [if_pos c23] at H
                      have c23b0 : (t116 == x7_1) = true := beq_iff_eq.mpr c23
                      have c23b1 : (t116 != x7_1) = false := bne_eq_false_iff_eq.mpr c23
                      clear c23
                      replace H := Option.bind_eq_some_iff.mp H
                      obtain ⟨t117, A240, H⟩ := H
                      replace H : (if t117 = x8_1 then ((field_Sub.f a1 a2).bind fun t118 => ((penumbraref30_Sub.f a1 a2).bind fun t119 => (if t118 = t119 then ((field_Of.f a1).bind fun t120 => ((penumbraref30_Of.f a1).bind fun t121 => (if t120 = t121 then (some ((t109.length : Int) == (y101.length : Int))) else (some false)))) else (some false)))) else (some false)) = some r := H
                      have A24 := Aside0.mk A240
                      clear A240
                      by_cases c25 : t117 = x8_1
                      · rw [if_pos c25] at H
                        have c25b0 : (t117 == x8_1) = true := beq_iff_eq.mpr c25
                        have c25b1 : (t117 != x8_1) = false := bne_eq_false_iff_eq.mpr c25
                        clear c25
                        replace H := Option.bind_eq_some_iff.mp H
                        obtain ⟨t118, A260, H⟩ := H
                        replace H : ((penumbraref30_Sub.f a1 a2).bind fun t119 => (if t118 = t119 then ((field_Of.f a1).bind fun t120 => ((penumbraref30_Of.f a1).bind fun t121 => (if t120 = t121 then (some ((t109.length : Int) == (y101.length : Int))) else (some false)))) else (some false))) = some r := H
                        have A26 := Aside0.mk A260
                        clear A260
                        replace H := Option.bind_eq_some_iff.mp H
                        obtain ⟨t119, A270, H⟩ := H
                        replace H : (if t118 = t119 then ((field_Of.f a1).bind fun t120 => ((penumbraref30_Of.f a1).bind fun t121 => (if t120 = t121 then (some ((t109.length : Int) == (y101.length : Int))) else (some false)))) else (some false)) = some r := H
                        have A27 := Aside0.mk A270
                        clear A270
                        by_cases c28 : t118 = t119
                        · rw [if_pos c28] at H
                          have c28b0 : (t118 == t119) = true := beq_iff_eq.mpr c28
                          have c28b1 : (t118 != t119) = false := bne_eq_false_iff_eq.mpr c28
                          clear c28
                          replace H := Option.bind_eq_some_iff.mp H
                          obtain ⟨t120, A290, H⟩ := H
                          replace H : ((penumbraref30_Of.f a1).bind fun t121 => (if t120 = t121 then (some ((t109.length : Int) == (y101.length : Int))) else (some false))) = some r := H
                          have A29 := Aside0.mk A290
                          clear A290
                          replace H := Option.bind_eq_some_iff.mp H
                          obtain ⟨t121, A300, H⟩ := H
                          replace H : (if t120 = t121 then (some ((t109.length : Int) == (y101.length : Int))) else (some false)) = some r := H
                          have A30 := Aside0.mk A300
                          clear A300
                          by_cases c31 : t120 = t121
                          · rw [if_pos c31] at H
                            have c31b0 : (t120 == t121) = true := beq_iff_eq.mpr c31
                            have c31b1 : (t120 != t121) = false := bne_eq_false_iff_eq.mpr c31
                            clear c31
                            obtain rfl := Option.some.inj H
                            go_wp2_with (first | (go_at_call 10; (with_reducible refine (penumbralaw30_awake.calls k2  true _ A20.out).mono ?_); rintro e w32 ⟨rfl, hb⟩; have n0_ := Aside0.mk (Kd.R_below (by (with_reducible repeat (first | apply Kd.R_alloc | apply Kd.R_drewN | apply Kd.R_drew)); exact HO_10.out) hb); have n1_ := Aside0.mk (below_step (by repeat (first | (with_reducible first | exact HB.out | apply below_alloc | apply pw_below_drewN | apply below_drew1) | exact HB.out)) hb); clear HO_10; clear HB; have HO_10 := n0_; have HB := n1_; clear n0_ n1_; (try clear hb); (try clear hb2); (try clear hk); (try clear hi); (try clear A20)) | (go_at_call 16; (with_reducible refine (field_Add.calls _ _ y101 t116 _ ?side1 ?side2 A22.out).mono ?_); (case side1 => repeat (first | exact (Kd.C_below HR104.out HB.out) | (with_reducible refine Kd.C_alloc ?_ _) | (with_reducible refine Kd.C_drewN ?_ _) | (with_reducible refine Kd.C_drew ?_))); (case side2 => exact HC104.out); rintro e w' ⟨rfl, ⟨nd, rfl⟩⟩; (try first | exact ⟨rfl, _, World.drewN_drewN _ _ _⟩ | exact ⟨rfl, _, Eq.trans (World.drewN_drewN _ _ _) (congrArg (World.drewN _) (Nat.add_assoc _ _ _))⟩); (try clear A22)) | (go_at_call 15; (with_reducible refine (field_Mul.calls _ _ y101 t117 _ ?side1 ?side2 A24.out).mono ?_); (case side1 => repeat (first | exact (Kd.C_below HR104.out (by repeat (first | (with_reducible first | exact HB.out | apply below_alloc | apply pw_below_drewN | apply below_drew1) | exact HB.out))) | (with_reducible refine Kd.C_alloc ?_ _) | (with_reducible refine Kd.C_drewN ?_ _) | (with_reducible refine Kd.C_drew ?_))); (case side2 => exact HC104.out); rintro e w' ⟨rfl, ⟨nd, rfl⟩⟩; (try first | exact ⟨rfl, _, World.drewN_drewN _ _ _⟩ | exact ⟨rfl, _, Eq.trans (World.drewN_drewN _ _ _) (congrArg (World.drewN _) (Nat.add_assoc _ _ _))⟩); (try clear A24)) | (go_at_call 17; (with_reducible refine (field_Sub.calls a1 a2 t118 _ A26.out).mono ?_); rintro e w' ⟨rfl, ⟨nd, rfl⟩⟩; (try first | exact ⟨rfl, _, World.drewN_drewN _ _ _⟩ | exact ⟨rfl, _, Eq.trans (World.drewN_drewN _ _ _) (congrArg (World.drewN _) (Nat.add_assoc _ _ _))⟩); (try clear A26)) | (go_at_call 22; (with_reducible refine (penumbraref30_Sub.calls a1 a2 t119 _ A27.out).mono ?_); rintro e w' ⟨rfl, ⟨nd, rfl⟩⟩; (try first | exact ⟨rfl, _, World.drewN_drewN _ _ _⟩ | exact ⟨rfl, _, Eq.trans (World.drewN_drewN _ _ _) (congrArg (World.drewN _) (Nat.add_assoc _ _ _))⟩); (try clear A27)) | (go_at_call 18; (with_reducible refine (field_Of.calls a1 t120 _ A29.out).mono ?_); rintro e w' ⟨rfl, ⟨nd, rfl⟩⟩; (try first | exact ⟨rfl, _, World.drewN_drewN _ _ _⟩ | exact ⟨rfl, _, Eq.trans (World.drewN_drewN _ _ _) (congrArg (World.drewN _) (Nat.add_assoc _ _ _))⟩); (try clear A29)) | (go_at_call 9; (with_reducible refine (penumbraref30_Of.calls a1 t121 _ A30.out).mono ?_); rintro e w' ⟨rfl, ⟨nd, rfl⟩⟩; (try first | exact ⟨rfl, _, World.drewN_drewN _ _ _⟩ | exact ⟨rfl, _, Eq.trans (World.drewN_drewN _ _ _) (congrArg (World.drewN _) (Nat.add_assoc _ _ _))⟩); obtain ⟨Ao33, co33, eo33⟩ := Kd.R_slice HO_10.out; subst eo33; (try clear A30)))
                            repeat (go_quiet (first | (go_at_call 10; (with_reducible refine (penumbralaw30_awake.calls k2  true _ A20.out).mono ?_); rintro e w32 ⟨rfl, hb⟩; have n0_ := Aside0.mk (Kd.R_below (by (with_reducible repeat (first | apply Kd.R_alloc | apply Kd.R_drewN | apply Kd.R_drew)); exact HO_10.out) hb); have n1_ := Aside0.mk (below_step (by repeat (first | (with_reducible first | exact HB.out | apply below_alloc | apply pw_below_drewN | apply below_drew1) | exact HB.out)) hb); clear HO_10; clear HB; have HO_10 := n0_; have HB := n1_; clear n0_ n1_; (try clear hb); (try clear hb2); (try clear hk); (try clear hi); (try clear A20)) | (go_at_call 16; (with_reducible refine (field_Add.calls _ _ y101 t116 _ ?side1 ?side2 A22.out).mono ?_); (case side1 => repeat (first | exact (Kd.C_below HR104.out HB.out) | (with_reducible refine Kd.C_alloc ?_ _) | (with_reducible refine Kd.C_drewN ?_ _) | (with_reducible refine Kd.C_drew ?_))); (case side2 => exact HC104.out); rintro e w' ⟨rfl, ⟨nd, rfl⟩⟩; (try first | exact ⟨rfl, _, World.drewN_drewN _ _ _⟩ | exact ⟨rfl, _, Eq.trans (World.drewN_drewN _ _ _) (congrArg (World.drewN _) (Nat.add_assoc _ _ _))⟩); (try clear A22)) | (go_at_call 15; (with_reducible refine (field_Mul.calls _ _ y101 t117 _ ?side1 ?side2 A24.out).mono ?_); (case side1 => repeat (first | exact (Kd.C_below HR104.out (by repeat (first | (with_reducible first | exact HB.out | apply below_alloc | apply pw_below_drewN | apply below_drew1) | exact HB.out))) | (with_reducible refine Kd.C_alloc ?_ _) | (with_reducible refine Kd.C_drewN ?_ _) | (with_reducible refine Kd.C_drew ?_))); (case side2 => exact HC104.out); rintro e w' ⟨rfl, ⟨nd, rfl⟩⟩; (try first | exact ⟨rfl, _, World.drewN_drewN _ _ _⟩ | exact ⟨rfl, _, Eq.trans (World.drewN_drewN _ _ _) (congrArg (World.drewN _) (Nat.add_assoc _ _ _))⟩); (try clear A24)) | (go_at_call 17; (with_reducible refine (field_Sub.calls a1 a2 t118 _ A26.out).mono ?_); rintro e w' ⟨rfl, ⟨nd, rfl⟩⟩; (try first | exact ⟨rfl, _, World.drewN_drewN _ _ _⟩ | exact ⟨rfl, _, Eq.trans (World.drewN_drewN _ _ _) (congrArg (World.drewN _) (Nat.add_assoc _ _ _))⟩); (try clear A26)) | (go_at_call 22; (with_reducible refine (penumbraref30_Sub.calls a1 a2 t119 _ A27.out).mono ?_); rintro e w' ⟨rfl, ⟨nd, rfl⟩⟩; (try first | exact ⟨rfl, _, World.drewN_drewN _ _ _⟩ | exact ⟨rfl, _, Eq.trans (World.drewN_drewN _ _ _) (congrArg (World.drewN _) (Nat.add_assoc _ _ _))⟩); (try clear A27)) | (go_at_call 18; (with_reducible refine (field_Of.calls a1 t120 _ A29.out).mono ?_); rintro e w' ⟨rfl, ⟨nd, rfl⟩⟩; (try first | exact ⟨rfl, _, World.drewN_drewN _ _ _⟩ | exact ⟨rfl, _, Eq.trans (World.drewN_drewN _ _ _) (congrArg (World.drewN _) (Nat.add_assoc _ _ _))⟩); (try clear A29)) | (go_at_call 9; (with_reducible refine (penumbraref30_Of.calls a1 t121 _ A30.out).mono ?_); rintro e w' ⟨rfl, ⟨nd, rfl⟩⟩; (try first | exact ⟨rfl, _, World.drewN_drewN _ _ _⟩ | exact ⟨rfl, _, Eq.trans (World.drewN_drewN _ _ _) (congrArg (World.drewN _) (Nat.add_assoc _ _ _))⟩); obtain ⟨Ao33, co33, eo33⟩ := Kd.R_slice HO_10.out; subst eo33; (try clear A30))); try go_wp2_with (first | (go_at_call 10; (with_reducible refine (penumbralaw30_awake.calls k2  true _ A20.out).mono ?_); rintro e w32 ⟨rfl, hb⟩; have n0_ := Aside0.mk (Kd.R_below (by (with_reducible repeat (first | apply Kd.R_alloc | apply Kd.R_drewN | apply Kd.R_drew)); exact HO_10.out) hb); have n1_ := Aside0.mk (below_step (by repeat (first | (with_reducible first | exact HB.out | apply below_alloc | apply pw_below_drewN | apply below_drew1) | exact HB.out)) hb); clear HO_10; clear HB; have HO_10 := n0_; have HB := n1_; clear n0_ n1_; (try clear hb); (try clear hb2); (try clear hk); (try clear hi); (try clear A20)) | (go_at_call 16; (with_reducible refine (field_Add.calls _ _ y101 t116 _ ?side1 ?side2 A22.out).mono ?_); (case side1 => repeat (first | exact (Kd.C_below HR104.out HB.out) | (with_reducible refine Kd.C_alloc ?_ _) | (with_reducible refine Kd.C_drewN ?_ _) | (with_reducible refine Kd.C_drew ?_))); (case side2 => exact HC104.out); rintro e w' ⟨rfl, ⟨nd, rfl⟩⟩; (try first | exact ⟨rfl, _, World.drewN_drewN _ _ _⟩ | exact ⟨rfl, _, Eq.trans (World.drewN_drewN _ _ _) (congrArg (World.drewN _) (Nat.add_assoc _ _ _))⟩); (try clear A22)) | (go_at_call 15; (with_reducible refine (field_Mul.calls _ _ y101 t117 _ ?side1 ?side2 A24.out).mono ?_); (case side1 => repeat (first | exact (Kd.C_below HR104.out (by repeat (first | (with_reducible first | exact HB.out | apply below_alloc | apply pw_below_drewN | apply below_drew1) | exact HB.out))) | (with_reducible refine Kd.C_alloc ?_ _) | (with_reducible refine Kd.C_drewN ?_ _) | (with_reducible refine Kd.C_drew ?_))); (case side2 => exact HC104.out); rintro e w' ⟨rfl, ⟨nd, rfl⟩⟩; (try first | exact ⟨rfl, _, World.drewN_drewN _ _ _⟩ | exact ⟨rfl, _, Eq.trans (World.drewN_drewN _ _ _) (congrArg (World.drewN _) (Nat.add_assoc _ _ _))⟩); (try clear A24)) | (go_at_call 17; (with_reducible refine (field_Sub.calls a1 a2 t118 _ A26.out).mono ?_); rintro e w' ⟨rfl, ⟨nd, rfl⟩⟩; (try first | exact ⟨rfl, _, World.drewN_drewN _ _ _⟩ | exact ⟨rfl, _, Eq.trans (World.drewN_drewN _ _ _) (congrArg (World.drewN _) (Nat.add_assoc _ _ _))⟩); (try clear A26)) | (go_at_call 22; (with_reducible refine (penumbraref30_Sub.calls a1 a2 t119 _ A27.out).mono ?_); rintro e w' ⟨rfl, ⟨nd, rfl⟩⟩; (try first | exact ⟨rfl, _, World.drewN_drewN _ _ _⟩ | exact ⟨rfl, _, Eq.trans (World.drewN_drewN _ _ _) (congrArg (World.drewN _) (Nat.add_assoc _ _ _))⟩); (try clear A27)) | (go_at_call 18; (with_reducible refine (field_Of.calls a1 t120 _ A29.out).mono ?_); rintro e w' ⟨rfl, ⟨nd, rfl⟩⟩; (try first | exact ⟨rfl, _, World.drewN_drewN _ _ _⟩ | exact ⟨rfl, _, Eq.trans (World.drewN_drewN _ _ _) (congrArg (World.drewN _) (Nat.add_assoc _ _ _))⟩); (try clear A29)) | (go_at_call 9; (with_reducible refine (penumbraref30_Of.calls a1 t121 _ A30.out).mono ?_); rintro e w' ⟨rfl, ⟨nd, rfl⟩⟩; (try first | exact ⟨rfl, _, World.drewN_drewN _ _ _⟩ | exact ⟨rfl, _, Eq.trans (World.drewN_drewN _ _ _) (congrArg (World.drewN _) (Nat.add_assoc _ _ _))⟩); obtain ⟨Ao33, co33, eo33⟩ := Kd.R_slice HO_10.out; subst eo33; (try clear A30))))
                            go_ret
                            exact ⟨by first | rfl | (simp [errW_none, errW_some] <;> rfl) | (simp [*, errW_none, errW_some] <;> rfl), by repeat (first | (with_reducible first | exact HB.out | apply below_alloc | apply pw_below_drewN | apply below_drew1) | exact HB.out)⟩
                          · rw [if_neg c31] at H
                            have c31b0 : (t120 == t121) = false := beq_eq_false_iff_ne.mpr c31
                            have c31b1 : (t120 != t121) = true := bne_iff_ne.mpr c31
                            exact absurd ((Option.some.inj H).trans hr_) (by decide)
                        · rw [if_neg c28] at H
                          have c28b0 : (t118 == t119) = false := beq_eq_false_iff_ne.mpr c28
                          have c28b1 : (t118 != t119) = true := bne_iff_ne.mpr c28
                          exact absurd ((Option.some.inj H).trans hr_) (by decide)
                      · rw [if_neg c25] at H
                        have c25b0 : (t117 == x8_1) = false := beq_eq_false_iff_ne.mpr c25
                        have c25b1 : (t117 != x8_1) = true := bne_iff_ne.mpr c25
                        exact absurd ((Option.some.inj H).trans hr_) (by decide)
                    · rw [if_neg c23] at H
                      have c23b0 : (t116 == x7_1) = false := beq_eq_false_iff_ne.mpr c23
                      have c23b1 : (t116 != x7_1) = true := bne_iff_ne.mpr c23
                      exact absurd ((Option.some.inj H).trans hr_) (by decide)
                  · replace c21 := Bool.eq_false_iff.mpr c21
                    subst c21
                    have H1 : (some false) = some r := by rw [if_neg (show ¬ (false = true) by decide)] at H; exact H
                    clear H
                    have H := H1
                    clear H1
                    exact absurd ((Option.some.inj H).trans hr_) (by decide)
    · rw [if_neg c5] at H
      exact absurd H (by simp)
  · rw [if_neg c4] at H
    have c4b0 : decide (50 < (l0.length : Int)) = false := decide_eq_false c4
    have c4b1 : decide (50 < l0.length) = false := decide_eq_false (by omega)
    clear c4
    have H' := Aside0.mk H
    clear H
    go_enter Try.func6, Try.ntmps6
    go_wp2
    repeat (go_quiet (fail); try go_wp2)
    go_loopg [7, 8, 9] k (fun kq v7 v8 v9 w' => ∃ (x7_1 : Int) (x8_1 : Int) (x9_1 : Int), v7 = .int .i64 x7_1 ∧ v8 = .int .i64 x8_1 ∧ v9 = .int .i64 x9_1 ∧ Aside0 (penumbralaw30_FieldReckons.l1002 kq l0 a1 a2 x7_1 x8_1 x9_1 = some r) ∧ Aside0 (kq ≤ k) ∧ Aside0 (Below w.heap.size w w'))
    case atStart => exact ⟨(0), (1), (0), (by first | rfl | (simp; done) | (simp [*]; done)), (by first | rfl | (simp; done) | (simp [*]; done)), (by first | rfl | (simp; done) | (simp [*]; done)), H', ⟨Nat.le_refl _⟩, ⟨by repeat (first | (with_reducible first | exact HB.out | apply below_alloc | apply pw_below_drewN | apply below_drew1) | exact HB.out)⟩⟩
    case round =>
      clear H'
      try clear c1
      try clear p1
      try clear q1
      try clear hx1
      try clear c2
      try clear p2
      try clear c3
      try clear c4
      try clear c4b0
      try clear c4b1
      try clear c5
      try clear c5b0
      try clear c5b1
      try clear c6
      try clear p6
      try clear q6
      try clear c7
      try clear c7b0
      try clear c8
      try clear c8b0
      try clear p10
      try clear q10
      try clear hx10
      try clear p11
      try clear q11
      try clear hx11
      try clear c13
      try clear c13b0
      try clear c14
      try clear c14b0
      try clear c15
      try clear c15b0
      try clear c16
      try clear c16b0
      try clear c18
      try clear c18b0
      try clear c18b1
      try clear c21
      try clear c23
      try clear c23b0
      try clear c23b1
      try clear c25
      try clear c25b0
      try clear c25b1
      try clear c28
      try clear c28b0
      try clear c28b1
      try clear c31
      try clear c31b0
      try clear c31b1
      try clear hx105_0
      try clear hx107_0
      try clear hx112_0
      try clear hx113_0
      try clear p1
      try clear p10
      try clear p105
      try clear p107
      try clear p112
      try clear p113
      try clear p2
      try clear p6
      try clear q1
      try clear q10
      try clear q105
      try clear q107
      try clear q112
      try clear q113
      try clear q6
      obtain ⟨x7_1, x8_1, x9_1, rfl, rfl, rfl, HA, HK1, HB⟩ := hrel
      cases gk with
      | zero => exact absurd HA.out (by simp [penumbralaw30_FieldReckons.l1002])
      | succ k1 =>
        have H := HA.out
        clear HA
        simp only [penumbralaw30_FieldReckons.l1002] at H
        by_cases c34 : x9_1 < (l0.length : Int)
        · rw [if_pos c34] at H
          have c34b0 : decide (x9_1 < (l0.length : Int)) = true := decide_eq_true c34
          clear c34
          by_cases c35 : 0 ≤ x9_1
          · rw [if_pos c35] at H
            have c35b0 : decide (0 ≤ x9_1) = true := decide_eq_true c35
            clear c35
            replace H := Option.bind_eq_some_iff.mp H
            obtain ⟨t123, A360, H⟩ := H
            replace H : ((penumbraref30_Mul.f x8_1 (rd l0 x9_1)).bind fun t125 => (penumbralaw30_FieldReckons.l1002 k1 l0 a1 a2 t123 t125 (wrap64 (x9_1 + 1)))) = some r := H
            have A36 := Aside0.mk A360
            clear A360
            replace H := Option.bind_eq_some_iff.mp H
            obtain ⟨t125, A370, H⟩ := H
            replace H : (penumbralaw30_FieldReckons.l1002 k1 l0 a1 a2 t123 t125 (wrap64 (x9_1 + 1))) = some r := H
            have A37 := Aside0.mk A370
            clear A370
            have H' := Aside0.mk H
            clear H
            have p122 : 0 ≤ (x9_1 : Int) := of_decide_eq_true (by first | (with_reducible assumption) | assumption)
            have q122 : x9_1 < (l0.length : Int) := of_decide_eq_true (by first | (with_reducible assumption) | assumption)
            obtain ⟨ad122, e122, hx122_0⟩ := Kd.at_int HR0.out x9_1 p122 q122
            cases e122
            replace hx122_0 := (HB.out.cell (World.block_lt_of_cell? w _ hx122_0)).trans hx122_0
            replace p122 := eq_true p122
            replace q122 := eq_true q122
            go_wp2_with (first | (go_at_call 19; (with_reducible refine (penumbraref30_Add.calls x7_1 (rd l0 x9_1) t123 _ A36.out).mono ?_); rintro e w' ⟨rfl, ⟨nd, rfl⟩⟩; (try first | exact ⟨rfl, _, World.drewN_drewN _ _ _⟩ | exact ⟨rfl, _, Eq.trans (World.drewN_drewN _ _ _) (congrArg (World.drewN _) (Nat.add_assoc _ _ _))⟩); have p124 : 0 ≤ (x9_1 : Int) := of_decide_eq_true (by first | (with_reducible assumption) | assumption); have q124 : x9_1 < (l0.length : Int) := of_decide_eq_true (by first | (with_reducible assumption) | assumption); obtain ⟨ad124, e124, hx124_0⟩ := Kd.at_int HR0.out x9_1 p124 q124; obtain rfl : ad122 = ad124 := (by injection e124); replace hx124_0 := (HB.out.cell (World.block_lt_of_cell? w _ hx124_0)).trans hx124_0; replace p124 := eq_true p124; replace q124 := eq_true q124; (try clear A36)) | (go_at_call 12; (with_reducible refine (penumbraref30_Mul.calls x8_1 (rd l0 x9_1) t125 _ A37.out).mono ?_); rintro e w' ⟨rfl, ⟨nd, rfl⟩⟩; (try first | exact ⟨rfl, _, World.drewN_drewN _ _ _⟩ | exact ⟨rfl, _, Eq.trans (World.drewN_drewN _ _ _) (congrArg (World.drewN _) (Nat.add_assoc _ _ _))⟩); (try clear A37)))
            repeat (go_quiet (first | (go_at_call 19; (with_reducible refine (penumbraref30_Add.calls x7_1 (rd l0 x9_1) t123 _ A36.out).mono ?_); rintro e w' ⟨rfl, ⟨nd, rfl⟩⟩; (try first | exact ⟨rfl, _, World.drewN_drewN _ _ _⟩ | exact ⟨rfl, _, Eq.trans (World.drewN_drewN _ _ _) (congrArg (World.drewN _) (Nat.add_assoc _ _ _))⟩); have p124 : 0 ≤ (x9_1 : Int) := of_decide_eq_true (by first | (with_reducible assumption) | assumption); have q124 : x9_1 < (l0.length : Int) := of_decide_eq_true (by first | (with_reducible assumption) | assumption); obtain ⟨ad124, e124, hx124_0⟩ := Kd.at_int HR0.out x9_1 p124 q124; obtain rfl : ad122 = ad124 := (by injection e124); replace hx124_0 := (HB.out.cell (World.block_lt_of_cell? w _ hx124_0)).trans hx124_0; replace p124 := eq_true p124; replace q124 := eq_true q124; (try clear A36)) | (go_at_call 12; (with_reducible refine (penumbraref30_Mul.calls x8_1 (rd l0 x9_1) t125 _ A37.out).mono ?_); rintro e w' ⟨rfl, ⟨nd, rfl⟩⟩; (try first | exact ⟨rfl, _, World.drewN_drewN _ _ _⟩ | exact ⟨rfl, _, Eq.trans (World.drewN_drewN _ _ _) (congrArg (World.drewN _) (Nat.add_assoc _ _ _))⟩); (try clear A37))); try go_wp2_with (first | (go_at_call 19; (with_reducible refine (penumbraref30_Add.calls x7_1 (rd l0 x9_1) t123 _ A36.out).mono ?_); rintro e w' ⟨rfl, ⟨nd, rfl⟩⟩; (try first | exact ⟨rfl, _, World.drewN_drewN _ _ _⟩ | exact ⟨rfl, _, Eq.trans (World.drewN_drewN _ _ _) (congrArg (World.drewN _) (Nat.add_assoc _ _ _))⟩); have p124 : 0 ≤ (x9_1 : Int) := of_decide_eq_true (by first | (with_reducible assumption) | assumption); have q124 : x9_1 < (l0.length : Int) := of_decide_eq_true (by first | (with_reducible assumption) | assumption); obtain ⟨ad124, e124, hx124_0⟩ := Kd.at_int HR0.out x9_1 p124 q124; obtain rfl : ad122 = ad124 := (by injection e124); replace hx124_0 := (HB.out.cell (World.block_lt_of_cell? w _ hx124_0)).trans hx124_0; replace p124 := eq_true p124; replace q124 := eq_true q124; (try clear A36)) | (go_at_call 12; (with_reducible refine (penumbraref30_Mul.calls x8_1 (rd l0 x9_1) t125 _ A37.out).mono ?_); rintro e w' ⟨rfl, ⟨nd, rfl⟩⟩; (try first | exact ⟨rfl, _, World.drewN_drewN _ _ _⟩ | exact ⟨rfl, _, Eq.trans (World.drewN_drewN _ _ _) (congrArg (World.drewN _) (Nat.add_assoc _ _ _))⟩); (try clear A37))))
            go_roundg k1
            case measure => have := HK1.out; omega
            case rel => exact ⟨(t123), (t125), (wrap64 (x9_1 + 1)), (by first | rfl | (simp; done) | (simp [*]; done)), (by first | rfl | (simp; done) | (simp [*]; done)), (by first | rfl | (simp; done) | (simp [*]; done)), H', ⟨by have := HK1.out; omega⟩, ⟨by repeat (first | (with_reducible first | exact HB.out | apply below_alloc | apply pw_below_drewN | apply below_drew1) | exact HB.out)⟩⟩
          · rw [if_neg c35] at H
            exact absurd H (by simp)
        · rw [if_neg c34] at H
          have c34b0 : decide (x9_1 < (l0.length : Int)) = false := decide_eq_false c34
          clear c34
          replace H := Option.bind_eq_some_iff.mp H
          obtain ⟨t126, A380, H⟩ := H
          replace H : (penumbralaw30_FieldReckons.l1003 k1 l0 a1 a2 x7_1 x8_1 t126 0) = some r := H
          have A38 := Aside0.mk A380
          clear A380
          have H' := Aside0.mk H
          clear H
          go_wp2_with (first | (go_at_call 21; (with_reducible refine (field_Clean.calls k1 _ _ l0 t126 _ ?side1 ?side2 A38.out).mono ?_); (case side1 => repeat (first | exact (Kd.C_below HR0.out HB.out) | (with_reducible refine Kd.C_alloc ?_ _) | (with_reducible refine Kd.C_drewN ?_ _) | (with_reducible refine Kd.C_drew ?_))); (case side2 => exact HC0.out); rintro e w39 ⟨v127, rfl, ho0, hb⟩; have n0_ := Aside0.mk (Kd.R_lower ho0 (below_size (by repeat (first | (with_reducible first | exact HB.out | apply below_alloc | apply pw_below_drewN | apply below_drew1) | exact HB.out)))); have n1_ := Aside0.mk (below_step (by repeat (first | (with_reducible first | exact HB.out | apply below_alloc | apply pw_below_drewN | apply below_drew1) | exact HB.out)) hb); clear HB; have HO128 := n0_; have HB := n1_; clear n0_ n1_; (try clear hb); (try clear hb2); (try clear hk); (try clear hi); (try clear ho0); (try clear A38)))
          repeat (go_quiet (first | (go_at_call 21; (with_reducible refine (field_Clean.calls k1 _ _ l0 t126 _ ?side1 ?side2 A38.out).mono ?_); (case side1 => repeat (first | exact (Kd.C_below HR0.out HB.out) | (with_reducible refine Kd.C_alloc ?_ _) | (with_reducible refine Kd.C_drewN ?_ _) | (with_reducible refine Kd.C_drew ?_))); (case side2 => exact HC0.out); rintro e w39 ⟨v127, rfl, ho0, hb⟩; have n0_ := Aside0.mk (Kd.R_lower ho0 (below_size (by repeat (first | (with_reducible first | exact HB.out | apply below_alloc | apply pw_below_drewN | apply below_drew1) | exact HB.out)))); have n1_ := Aside0.mk (below_step (by repeat (first | (with_reducible first | exact HB.out | apply below_alloc | apply pw_below_drewN | apply below_drew1) | exact HB.out)) hb); clear HB; have HO128 := n0_; have HB := n1_; clear n0_ n1_; (try clear hb); (try clear hb2); (try clear hk); (try clear hi); (try clear ho0); (try clear A38))); try go_wp2_with (first | (go_at_call 21; (with_reducible refine (field_Clean.calls k1 _ _ l0 t126 _ ?side1 ?side2 A38.out).mono ?_); (case side1 => repeat (first | exact (Kd.C_below HR0.out HB.out) | (with_reducible refine Kd.C_alloc ?_ _) | (with_reducible refine Kd.C_drewN ?_ _) | (with_reducible refine Kd.C_drew ?_))); (case side2 => exact HC0.out); rintro e w39 ⟨v127, rfl, ho0, hb⟩; have n0_ := Aside0.mk (Kd.R_lower ho0 (below_size (by repeat (first | (with_reducible first | exact HB.out | apply below_alloc | apply pw_below_drewN | apply below_drew1) | exact HB.out)))); have n1_ := Aside0.mk (below_step (by repeat (first | (with_reducible first | exact HB.out | apply below_alloc | apply pw_below_drewN | apply below_drew1) | exact HB.out)) hb); clear HB; have HO128 := n0_; have HB := n1_; clear n0_ n1_; (try clear hb); (try clear hb2); (try clear hk); (try clear hi); (try clear ho0); (try clear A38))))
          go_loopg [11] k1 (fun kq v11 w' => ∃ (x11_2 : Int), v11 = .int .i64 x11_2 ∧ Aside0 (penumbralaw30_FieldReckons.l1003 kq l0 a1 a2 x7_1 x8_1 t126 x11_2 = some r) ∧ Aside0 (kq ≤ k1) ∧ Aside0 (Kd.R (Kd.int .i64) 3 w' w.heap.size (fun _ => True) v127 t126) ∧ Aside0 (Below w.heap.size w w'))
          case atStart => exact ⟨(0), (by first | rfl | (simp; done) | (simp [*]; done)), H', ⟨Nat.le_refl _⟩, ⟨by (with_reducible repeat (first | apply Kd.R_alloc | apply Kd.R_drewN | apply Kd.R_drew)); exact HO128.out⟩, ⟨by repeat (first | (with_reducible first | exact HB.out | apply below_alloc | apply pw_below_drewN | apply below_drew1) | exact HB.out)⟩⟩
          case round =>
            clear H'
            try clear c1
            try clear p1
            try clear q1
            try clear hx1
            try clear c2
            try clear p2
            try clear c3
            try clear c4
            try clear c4b0
            try clear c4b1
            try clear c5
            try clear c5b0
            try clear c5b1
            try clear c6
            try clear p6
            try clear q6
            try clear c7
            try clear c7b0
            try clear c8
            try clear c8b0
            try clear p10
            try clear q10
            try clear hx10
            try clear p11
            try clear q11
            try clear hx11
            try clear p12
            try clear q12
            try clear hx12
            try clear c13
            try clear c13b0
            try clear c14
            try clear c14b0
            try clear c15
            try clear c15b0
            try clear c16
            try clear c16b0
            try clear c18
            try clear c18b0
            try clear c18b1
            try clear c21
            try clear c23
            try clear c23b0
            try clear c23b1
            try clear c25
            try clear c25b0
            try clear c25b1
            try clear c28
            try clear c28b0
            try clear c28b1
            try clear c31
            try clear c31b0
            try clear c31b1
            try clear c34
            try clear c34b0
            try clear c35
            try clear c35b0
            try clear hx105_0
            try clear hx107_0
            try clear hx112_0
            try clear hx113_0
            try clear hx122_0
            try clear hx124_0
            try clear p1
            try clear p10
            try clear p105
            try clear p107
            try clear p11
            try clear p112
            try clear p113
            try clear p122
            try clear p124
            try clear p2
            try clear p6
            try clear q1
            try clear q10
            try clear q105
            try clear q107
            try clear q11
            try clear q112
            try clear q113
            try clear q122
            try clear q124
            try clear q6
            obtain ⟨x11_2, rfl, HA, HK2, HO_10, HB⟩ := hrel
            cases gk with
            | zero => exact absurd HA.out (by simp [penumbralaw30_FieldReckons.l1003])
            | succ k2 =>
              have H := HA.out
              clear HA
              simp only [penumbralaw30_FieldReckons.l1003] at H
              by_cases c40 : x11_2 < (l0.length : Int)
              · rw [if_pos c40] at H
                have c40b0 : decide (x11_2 < (l0.length : Int)) = true := decide_eq_true c40
                clear c40
                by_cases c41 : x11_2 ≥ (t126.length : Int)
                · rw [if_pos c41] at H
                  have c41b0 : decide ((t126.length : Int) ≤ x11_2) = true := decide_eq_true c41
                  clear c41
                  exact absurd ((Option.some.inj H).trans hr_) (by decide)
                · rw [if_neg c41] at H
                  have c41b0 : decide ((t126.length : Int) ≤ x11_2) = false := decide_eq_false c41
                  clear c41
                  by_cases c42 : 0 ≤ x11_2
                  · rw [if_pos c42] at H
                    have c42b0 : decide (0 ≤ x11_2) = true := decide_eq_true c42
                    clear c42
                    by_cases c43 : x11_2 < (t126.length : Int)
                    · rw [if_pos c43] at H
                      have c43b0 : decide (x11_2 < (t126.length : Int)) = true := decide_eq_true c43
                      clear c43
                      replace H := Option.bind_eq_some_iff.mp H
                      obtain ⟨t131, A440, H⟩ := H
                      replace H : (if (rd t126 x11_2) = t131 then (penumbralaw30_FieldReckons.l1003 k2 l0 a1 a2 x7_1 x8_1 t126 (wrap64 (x11_2 + 1))) else (some false)) = some r := H
                      have A44 := Aside0.mk A440
                      clear A440
                      by_cases c45 : (rd t126 x11_2) = t131
                      · rw [if_pos c45] at H
                        have c45b0 : ((rd t126 x11_2) == t131) = true := beq_iff_eq.mpr c45
                        have c45b1 : ((rd t126 x11_2) != t131) = false := bne_eq_false_iff_eq.mpr c45
                        clear c45
                        have H' := Aside0.mk H
                        clear H
                        obtain ⟨Ao46, co46, eo46⟩ := Kd.R_slice HO_10.out
                        subst eo46
                        have p129 : 0 ≤ (x11_2 : Int) := of_decide_eq_true (by first | (with_reducible assumption) | assumption)
                        have q129 : x11_2 < (t126.length : Int) := of_decide_eq_true (by first | (with_reducible assumption) | assumption)
                        obtain ⟨ad129, e129, hx129_0⟩ := Kd.at_int (Kd.R_reads' HO_10.out).2.2 x11_2 p129 q129
                        cases e129
                        replace p129 := eq_true p129
                        replace q129 := eq_true q129
                        have p130 : 0 ≤ (x11_2 : Int) := of_decide_eq_true (by first | (with_reducible assumption) | assumption)
                        have q130 : x11_2 < (l0.length : Int) := of_decide_eq_true (by first | (with_reducible assumption) | assumption)
                        obtain ⟨ad130, e130, hx130_0⟩ := Kd.at_int HR0.out x11_2 p130 q130
                        cases e130
                        replace hx130_0 := (HB.out.cell (World.block_lt_of_cell? w _ hx130_0)).trans hx130_0
                        replace p130 := eq_true p130
                        replace q130 := eq_true q130
                        go_wp2_with (first | (go_at_call 9; (with_reducible refine (penumbraref30_Of.calls (rd l0 x11_2) t131 _ A44.out).mono ?_); rintro e w' ⟨rfl, ⟨nd, rfl⟩⟩; (try first | exact ⟨rfl, _, World.drewN_drewN _ _ _⟩ | exact ⟨rfl, _, Eq.trans (World.drewN_drewN _ _ _) (congrArg (World.drewN _) (Nat.add_assoc _ _ _))⟩); (try clear A44)))
                        repeat (go_quiet (first | (go_at_call 9; (with_reducible refine (penumbraref30_Of.calls (rd l0 x11_2) t131 _ A44.out).mono ?_); rintro e w' ⟨rfl, ⟨nd, rfl⟩⟩; (try first | exact ⟨rfl, _, World.drewN_drewN _ _ _⟩ | exact ⟨rfl, _, Eq.trans (World.drewN_drewN _ _ _) (congrArg (World.drewN _) (Nat.add_assoc _ _ _))⟩); (try clear A44))); try go_wp2_with (first | (go_at_call 9; (with_reducible refine (penumbraref30_Of.calls (rd l0 x11_2) t131 _ A44.out).mono ?_); rintro e w' ⟨rfl, ⟨nd, rfl⟩⟩; (try first | exact ⟨rfl, _, World.drewN_drewN _ _ _⟩ | exact ⟨rfl, _, Eq.trans (World.drewN_drewN _ _ _) (congrArg (World.drewN _) (Nat.add_assoc _ _ _))⟩); (try clear A44))))
                        go_roundg k2
                        case measure => have := HK1.out; have := HK2.out; omega
                        case rel => exact ⟨(wrap64 (x11_2 + 1)), (by first | rfl | (simp; done) | (simp [*]; done)), H', ⟨by have := HK1.out; have := HK2.out; omega⟩, ⟨by (with_reducible repeat (first | apply Kd.R_alloc | apply Kd.R_drewN | apply Kd.R_drew)); exact HO_10.out⟩, ⟨by repeat (first | (with_reducible first | exact HB.out | apply below_alloc | apply pw_below_drewN | apply below_drew1) | exact HB.out)⟩⟩
                      · rw [if_neg c45] at H
                        have c45b0 : ((rd t126 x11_2) == t131) = false := beq_eq_false_iff_ne.mpr c45
                        have c45b1 : ((rd t126 x11_2) != t131) = true := bne_iff_ne.mpr c45
                        exact absurd ((Option.some.inj H).trans hr_) (by decide)
                    · rw [if_neg c43] at H
                      exact absurd H (by simp)
                  · rw [if_neg c42] at H
                    exact absurd H (by simp)
              · rw [if_neg c40] at H
                have c40b0 : decide (x11_2 < (l0.length : Int)) = false := decide_eq_false c40
                clear c40
                replace H := Option.bind_eq_some_iff.mp H
                obtain ⟨t132, A470, H⟩ := H
                replace H : (if t132 = true then ((field_Add.f l0).bind fun t133 => (if t133 = x7_1 then ((field_Mul.f l0).bind fun t134 => (if t134 = x8_1 then ((field_Sub.f a1 a2).bind fun t135 => ((penumbraref30_Sub.f a1 a2).bind fun t136 => (if t135 = t136 then ((field_Of.f a1).bind fun t137 => ((penumbraref30_Of.f a1).bind fun t138 => (if t137 = t138 then (some ((t126.length : Int) == (l0.length : Int))) else (some false)))) else (some false)))) else (some false))) else (some false))) else (some false)) = some r := H
                have A47 := Aside0.mk A470
                clear A470
                by_cases c48 : t132 = true
                · subst c48
                  have H1 : ((field_Add.f l0).bind fun t133 => (if t133 = x7_1 then ((field_Mul.f l0).bind fun t134 => (if t134 = x8_1 then ((field_Sub.f a1 a2).bind fun t135 => ((penumbraref30_Sub.f a1 a2).bind fun t136 => (if t135 = t136 then ((field_Of.f a1).bind fun t137 => ((penumbraref30_Of.f a1).bind fun t138 => (if t137 = t138 then (some ((t126.length : Int) == (l0.length : Int))) else (some false)))) else (some false)))) else (some false))) else (some false))) = some r := by rw [if_pos rfl] at H; exact H
                  clear H
                  have H := H1
                  clear H1
                  replace H := Option.bind_eq_some_iff.mp H
                  obtain ⟨t133, A490, H⟩ := H
                  replace H : (if t133 = x7_1 then ((field_Mul.f l0).bind fun t134 => (if t134 = x8_1 then ((field_Sub.f a1 a2).bind fun t135 => ((penumbraref30_Sub.f a1 a2).bind fun t136 => (if t135 = t136 then ((field_Of.f a1).bind fun t137 => ((penumbraref30_Of.f a1).bind fun t138 => (if t137 = t138 then (some ((t126.length : Int) == (l0.length : Int))) else (some false)))) else (some false)))) else (some false))) else (some false)) = some r := H
                  have A49 := Aside0.mk A490
                  clear A490
                  by_cases c50 : t133 = x7_1
                  · rw [if_pos c50] at H
                    have c50b0 : (t133 == x7_1) = true := beq_iff_eq.mpr c50
                    have c50b1 : (t133 != x7_1) = false := bne_eq_false_iff_eq.mpr c50
                    clear c50
                    replace H := Option.bind_eq_some_iff.mp H
                    obtain ⟨t134, A510, H⟩ := H
                    replace H : (if t134 = x8_1 then ((field_Sub.f a1 a2).bind fun t135 => ((penumbraref30_Sub.f a1 a2).bind fun t136 => (if t135 = t136 then ((field_Of.f a1).bind fun t137 => ((penumbraref30_Of.f a1).bind fun t138 => (if t137 = t138 then (some ((t126.length : Int) == (l0.length : Int))) else (some false)))) else (some false)))) else (some false)) = some r := H
                    have A51 := Aside0.mk A510
                    clear A510
                    by_cases c52 : t134 = x8_1
                    · rw [if_pos c52] at H
                      have c52b0 : (t134 == x8_1) = true := beq_iff_eq.mpr c52
                      have c52b1 : (t134 != x8_1) = false := bne_eq_false_iff_eq.mpr c52
                      clear c52
                      replace H := Option.bind_eq_some_iff.mp H
                      obtain ⟨t135, A530, H⟩ := H
                      replace H : ((penumbraref30_Sub.f a1 a2).bind fun t136 => (if t135 = t136 then ((field_Of.f a1).bind fun t137 => ((penumbraref30_Of.f a1).bind fun t138 => (if t137 = t138 then (some ((t126.length : Int) == (l0.length : Int))) else (some false)))) else (some false))) = some r := H
                      have A53 := Aside0.mk A530
                      clear A530
                      replace H := Option.bind_eq_some_iff.mp H
                      obtain ⟨t136, A540, H⟩ := H
                      replace H : (if t135 = t136 then ((field_Of.f a1).bind fun t137 => ((penumbraref30_Of.f a1).bind fun t138 => (if t137 = t138 then (some ((t126.length : Int) == (l0.length : Int))) else (some false)))) else (some false)) = some r := H
                      have A54 := Aside0.mk A540
                      clear A540
                      by_cases c55 : t135 = t136
                      · rw [if_pos c55] at H
                        have c55b0 : (t135 == t136) = true := beq_iff_eq.mpr c55
                        have c55b1 : (t135 != t136) = false := bne_eq_false_iff_eq.mpr c55
                        clear c55
                        replace H := Option.bind_eq_some_iff.mp H
                        obtain ⟨t137, A560, H⟩ := H
                        replace H : ((penumbraref30_Of.f a1).bind fun t138 => (if t137 = t138 then (some ((t126.length : Int) == (l0.length : Int))) else (some false))) = some r := H
                        have A56 := Aside0.mk A560
                        clear A560
                        replace H := Option.bind_eq_some_iff.mp H
                        obtain ⟨t138, A570, H⟩ := H
                        replace H : (if t137 = t138 then (some ((t126.length : Int) == (l0.length : Int))) else (some false)) = some r := H
                        have A57 := Aside0.mk A570
                        clear A570
                        by_cases c58 : t137 = t138
                        · rw [if_pos c58] at H
                          have c58b0 : (t137 == t138) = true := beq_iff_eq.mpr c58
                          have c58b1 : (t137 != t138) = false := bne_eq_false_iff_eq.mpr c58
                          clear c58
                          obtain rfl := Option.some.inj H
                          go_wp2_with (first | (go_at_call 10; (with_reducible refine (penumbralaw30_awake.calls k2  true _ A47.out).mono ?_); rintro e w59 ⟨rfl, hb⟩; have n0_ := Aside0.mk (Kd.R_below (by (with_reducible repeat (first | apply Kd.R_alloc | apply Kd.R_drewN | apply Kd.R_drew)); exact HO_10.out) hb); have n1_ := Aside0.mk (below_step (by repeat (first | (with_reducible first | exact HB.out | apply below_alloc | apply pw_below_drewN | apply below_drew1) | exact HB.out)) hb); clear HO_10; clear HB; have HO_10 := n0_; have HB := n1_; clear n0_ n1_; (try clear hb); (try clear hb2); (try clear hk); (try clear hi); (try clear A47)) | (go_at_call 16; (with_reducible refine (field_Add.calls _ _ l0 t133 _ ?side1 ?side2 A49.out).mono ?_); (case side1 => repeat (first | exact (Kd.C_below HR0.out HB.out) | (with_reducible refine Kd.C_alloc ?_ _) | (with_reducible refine Kd.C_drewN ?_ _) | (with_reducible refine Kd.C_drew ?_))); (case side2 => exact HC0.out); rintro e w' ⟨rfl, ⟨nd, rfl⟩⟩; (try first | exact ⟨rfl, _, World.drewN_drewN _ _ _⟩ | exact ⟨rfl, _, Eq.trans (World.drewN_drewN _ _ _) (congrArg (World.drewN _) (Nat.add_assoc _ _ _))⟩); (try clear A49)) | (go_at_call 15; (with_reducible refine (field_Mul.calls _ _ l0 t134 _ ?side1 ?side2 A51.out).mono ?_); (case side1 => repeat (first | exact (Kd.C_below HR0.out (by repeat (first | (with_reducible first | exact HB.out | apply below_alloc | apply pw_below_drewN | apply below_drew1) | exact HB.out))) | (with_reducible refine Kd.C_alloc ?_ _) | (with_reducible refine Kd.C_drewN ?_ _) | (with_reducible refine Kd.C_drew ?_))); (case side2 => exact HC0.out); rintro e w' ⟨rfl, ⟨nd, rfl⟩⟩; (try first | exact ⟨rfl, _, World.drewN_drewN _ _ _⟩ | exact ⟨rfl, _, Eq.trans (World.drewN_drewN _ _ _) (congrArg (World.drewN _) (Nat.add_assoc _ _ _))⟩); (try clear A51)) | (go_at_call 17; (with_reducible refine (field_Sub.calls a1 a2 t135 _ A53.out).mono ?_); rintro e w' ⟨rfl, ⟨nd, rfl⟩⟩; (try first | exact ⟨rfl, _, World.drewN_drewN _ _ _⟩ | exact ⟨rfl, _, Eq.trans (World.drewN_drewN _ _ _) (congrArg (World.drewN _) (Nat.add_assoc _ _ _))⟩); (try clear A53)) | (go_at_call 22; (with_reducible refine (penumbraref30_Sub.calls a1 a2 t136 _ A54.out).mono ?_); rintro e w' ⟨rfl, ⟨nd, rfl⟩⟩; (try first | exact ⟨rfl, _, World.drewN_drewN _ _ _⟩ | exact ⟨rfl, _, Eq.trans (World.drewN_drewN _ _ _) (congrArg (World.drewN _) (Nat.add_assoc _ _ _))⟩); (try clear A54)) | (go_at_call 18; (with_reducible refine (field_Of.calls a1 t137 _ A56.out).mono ?_); rintro e w' ⟨rfl, ⟨nd, rfl⟩⟩; (try first | exact ⟨rfl, _, World.drewN_drewN _ _ _⟩ | exact ⟨rfl, _, Eq.trans (World.drewN_drewN _ _ _) (congrArg (World.drewN _) (Nat.add_assoc _ _ _))⟩); (try clear A56)) | (go_at_call 9; (with_reducible refine (penumbraref30_Of.calls a1 t138 _ A57.out).mono ?_); rintro e w' ⟨rfl, ⟨nd, rfl⟩⟩; (try first | exact ⟨rfl, _, World.drewN_drewN _ _ _⟩ | exact ⟨rfl, _, Eq.trans (World.drewN_drewN _ _ _) (congrArg (World.drewN _) (Nat.add_assoc _ _ _))⟩); obtain ⟨Ao60, co60, eo60⟩ := Kd.R_slice HO_10.out; subst eo60; (try clear A57)))
                          repeat (go_quiet (first | (go_at_call 10; (with_reducible refine (penumbralaw30_awake.calls k2  true _ A47.out).mono ?_); rintro e w59 ⟨rfl, hb⟩; have n0_ := Aside0.mk (Kd.R_below (by (with_reducible repeat (first | apply Kd.R_alloc | apply Kd.R_drewN | apply Kd.R_drew)); exact HO_10.out) hb); have n1_ := Aside0.mk (below_step (by repeat (first | (with_reducible first | exact HB.out | apply below_alloc | apply pw_below_drewN | apply below_drew1) | exact HB.out)) hb); clear HO_10; clear HB; have HO_10 := n0_; have HB := n1_; clear n0_ n1_; (try clear hb); (try clear hb2); (try clear hk); (try clear hi); (try clear A47)) | (go_at_call 16; (with_reducible refine (field_Add.calls _ _ l0 t133 _ ?side1 ?side2 A49.out).mono ?_); (case side1 => repeat (first | exact (Kd.C_below HR0.out HB.out) | (with_reducible refine Kd.C_alloc ?_ _) | (with_reducible refine Kd.C_drewN ?_ _) | (with_reducible refine Kd.C_drew ?_))); (case side2 => exact HC0.out); rintro e w' ⟨rfl, ⟨nd, rfl⟩⟩; (try first | exact ⟨rfl, _, World.drewN_drewN _ _ _⟩ | exact ⟨rfl, _, Eq.trans (World.drewN_drewN _ _ _) (congrArg (World.drewN _) (Nat.add_assoc _ _ _))⟩); (try clear A49)) | (go_at_call 15; (with_reducible refine (field_Mul.calls _ _ l0 t134 _ ?side1 ?side2 A51.out).mono ?_); (case side1 => repeat (first | exact (Kd.C_below HR0.out (by repeat (first | (with_reducible first | exact HB.out | apply below_alloc | apply pw_below_drewN | apply below_drew1) | exact HB.out))) | (with_reducible refine Kd.C_alloc ?_ _) | (with_reducible refine Kd.C_drewN ?_ _) | (with_reducible refine Kd.C_drew ?_))); (case side2 => exact HC0.out); rintro e w' ⟨rfl, ⟨nd, rfl⟩⟩; (try first | exact ⟨rfl, _, World.drewN_drewN _ _ _⟩ | exact ⟨rfl, _, Eq.trans (World.drewN_drewN _ _ _) (congrArg (World.drewN _) (Nat.add_assoc _ _ _))⟩); (try clear A51)) | (go_at_call 17; (with_reducible refine (field_Sub.calls a1 a2 t135 _ A53.out).mono ?_); rintro e w' ⟨rfl, ⟨nd, rfl⟩⟩; (try first | exact ⟨rfl, _, World.drewN_drewN _ _ _⟩ | exact ⟨rfl, _, Eq.trans (World.drewN_drewN _ _ _) (congrArg (World.drewN _) (Nat.add_assoc _ _ _))⟩); (try clear A53)) | (go_at_call 22; (with_reducible refine (penumbraref30_Sub.calls a1 a2 t136 _ A54.out).mono ?_); rintro e w' ⟨rfl, ⟨nd, rfl⟩⟩; (try first | exact ⟨rfl, _, World.drewN_drewN _ _ _⟩ | exact ⟨rfl, _, Eq.trans (World.drewN_drewN _ _ _) (congrArg (World.drewN _) (Nat.add_assoc _ _ _))⟩); (try clear A54)) | (go_at_call 18; (with_reducible refine (field_Of.calls a1 t137 _ A56.out).mono ?_); rintro e w' ⟨rfl, ⟨nd, rfl⟩⟩; (try first | exact ⟨rfl, _, World.drewN_drewN _ _ _⟩ | exact ⟨rfl, _, Eq.trans (World.drewN_drewN _ _ _) (congrArg (World.drewN _) (Nat.add_assoc _ _ _))⟩); (try clear A56)) | (go_at_call 9; (with_reducible refine (penumbraref30_Of.calls a1 t138 _ A57.out).mono ?_); rintro e w' ⟨rfl, ⟨nd, rfl⟩⟩; (try first | exact ⟨rfl, _, World.drewN_drewN _ _ _⟩ | exact ⟨rfl, _, Eq.trans (World.drewN_drewN _ _ _) (congrArg (World.drewN _) (Nat.add_assoc _ _ _))⟩); obtain ⟨Ao60, co60, eo60⟩ := Kd.R_slice HO_10.out; subst eo60; (try clear A57))); try go_wp2_with (first | (go_at_call 10; (with_reducible refine (penumbralaw30_awake.calls k2  true _ A47.out).mono ?_); rintro e w59 ⟨rfl, hb⟩; have n0_ := Aside0.mk (Kd.R_below (by (with_reducible repeat (first | apply Kd.R_alloc | apply Kd.R_drewN | apply Kd.R_drew)); exact HO_10.out) hb); have n1_ := Aside0.mk (below_step (by repeat (first | (with_reducible first | exact HB.out | apply below_alloc | apply pw_below_drewN | apply below_drew1) | exact HB.out)) hb); clear HO_10; clear HB; have HO_10 := n0_; have HB := n1_; clear n0_ n1_; (try clear hb); (try clear hb2); (try clear hk); (try clear hi); (try clear A47)) | (go_at_call 16; (with_reducible refine (field_Add.calls _ _ l0 t133 _ ?side1 ?side2 A49.out).mono ?_); (case side1 => repeat (first | exact (Kd.C_below HR0.out HB.out) | (with_reducible refine Kd.C_alloc ?_ _) | (with_reducible refine Kd.C_drewN ?_ _) | (with_reducible refine Kd.C_drew ?_))); (case side2 => exact HC0.out); rintro e w' ⟨rfl, ⟨nd, rfl⟩⟩; (try first | exact ⟨rfl, _, World.drewN_drewN _ _ _⟩ | exact ⟨rfl, _, Eq.trans (World.drewN_drewN _ _ _) (congrArg (World.drewN _) (Nat.add_assoc _ _ _))⟩); (try clear A49)) | (go_at_call 15; (with_reducible refine (field_Mul.calls _ _ l0 t134 _ ?side1 ?side2 A51.out).mono ?_); (case side1 => repeat (first | exact (Kd.C_below HR0.out (by repeat (first | (with_reducible first | exact HB.out | apply below_alloc | apply pw_below_drewN | apply below_drew1) | exact HB.out))) | (with_reducible refine Kd.C_alloc ?_ _) | (with_reducible refine Kd.C_drewN ?_ _) | (with_reducible refine Kd.C_drew ?_))); (case side2 => exact HC0.out); rintro e w' ⟨rfl, ⟨nd, rfl⟩⟩; (try first | exact ⟨rfl, _, World.drewN_drewN _ _ _⟩ | exact ⟨rfl, _, Eq.trans (World.drewN_drewN _ _ _) (congrArg (World.drewN _) (Nat.add_assoc _ _ _))⟩); (try clear A51)) | (go_at_call 17; (with_reducible refine (field_Sub.calls a1 a2 t135 _ A53.out).mono ?_); rintro e w' ⟨rfl, ⟨nd, rfl⟩⟩; (try first | exact ⟨rfl, _, World.drewN_drewN _ _ _⟩ | exact ⟨rfl, _, Eq.trans (World.drewN_drewN _ _ _) (congrArg (World.drewN _) (Nat.add_assoc _ _ _))⟩); (try clear A53)) | (go_at_call 22; (with_reducible refine (penumbraref30_Sub.calls a1 a2 t136 _ A54.out).mono ?_); rintro e w' ⟨rfl, ⟨nd, rfl⟩⟩; (try first | exact ⟨rfl, _, World.drewN_drewN _ _ _⟩ | exact ⟨rfl, _, Eq.trans (World.drewN_drewN _ _ _) (congrArg (World.drewN _) (Nat.add_assoc _ _ _))⟩); (try clear A54)) | (go_at_call 18; (with_reducible refine (field_Of.calls a1 t137 _ A56.out).mono ?_); rintro e w' ⟨rfl, ⟨nd, rfl⟩⟩; (try first | exact ⟨rfl, _, World.drewN_drewN _ _ _⟩ | exact ⟨rfl, _, Eq.trans (World.drewN_drewN _ _ _) (congrArg (World.drewN _) (Nat.add_assoc _ _ _))⟩); (try clear A56)) | (go_at_call 9; (with_reducible refine (penumbraref30_Of.calls a1 t138 _ A57.out).mono ?_); rintro e w' ⟨rfl, ⟨nd, rfl⟩⟩; (try first | exact ⟨rfl, _, World.drewN_drewN _ _ _⟩ | exact ⟨rfl, _, Eq.trans (World.drewN_drewN _ _ _) (congrArg (World.drewN _) (Nat.add_assoc _ _ _))⟩); obtain ⟨Ao60, co60, eo60⟩ := Kd.R_slice HO_10.out; subst eo60; (try clear A57))))
                          go_ret
                          exact ⟨by first | rfl | (simp [errW_none, errW_some] <;> rfl) | (simp [*, errW_none, errW_some] <;> rfl), by repeat (first | (with_reducible first | exact HB.out | apply below_alloc | apply pw_below_drewN | apply below_drew1) | exact HB.out)⟩
                        · rw [if_neg c58] at H
                          have c58b0 : (t137 == t138) = false := beq_eq_false_iff_ne.mpr c58
                          have c58b1 : (t137 != t138) = true := bne_iff_ne.mpr c58
                          exact absurd ((Option.some.inj H).trans hr_) (by decide)
                      · rw [if_neg c55] at H
                        have c55b0 : (t135 == t136) = false := beq_eq_false_iff_ne.mpr c55
                        have c55b1 : (t135 != t136) = true := bne_iff_ne.mpr c55
                        exact absurd ((Option.some.inj H).trans hr_) (by decide)
                    · rw [if_neg c52] at H
                      have c52b0 : (t134 == x8_1) = false := beq_eq_false_iff_ne.mpr c52
                      have c52b1 : (t134 != x8_1) = true := bne_iff_ne.mpr c52
                      exact absurd ((Option.some.inj H).trans hr_) (by decide)
                  · rw [if_neg c50] at H
                    have c50b0 : (t133 == x7_1) = false := beq_eq_false_iff_ne.mpr c50
                    have c50b1 : (t133 != x7_1) = true := bne_iff_ne.mpr c50
                    exact absurd ((Option.some.inj H).trans hr_) (by decide)
                · replace c48 := Bool.eq_false_iff.mpr c48
                  subst c48
                  have H1 : (some false) = some r := by rw [if_neg (show ¬ (false = true) by decide)] at H; exact H
                  clear H
                  have H := H1
                  clear H1
                  exact absurd ((Option.some.inj H).trans hr_) (by decide)

/-- THE ONE PURE STATEMENT of penumbralaw30_FieldReckons: yours. -/
def penumbralaw30_FieldReckons.Pure : Prop := ∀ (l0 : List Int) (a1 : Int) (a2 : Int), l0.length ≤ maxLen → l0.length * 8 ≤ 140737488351232 → (∀ x ∈ l0, (Lit.int .i64 x).wf = true) → (Lit.int .i64 a1).wf = true → (Lit.int .i64 a2).wf = true → ∃ k, penumbralaw30_FieldReckons.f k l0 a1 a2 = some true
theorem penumbralaw30_FieldReckons.walk (P : penumbralaw30_FieldReckons.Pure) (a0 : Option Addr) (len0 cap0 : Nat) (z0 : List Int) (a1 : Int) (a2 : Int) (w : World) (w0 : (a0 = none ∧ len0 = 0 ∧ cap0 = 0 ∧ z0 = []) ∨ ∃ x, a0 = some x ∧ len0 ≤ cap0 ∧ cap0 ≤ maxLen ∧ z0.length = cap0 ∧ (∀ i, i < z0.length → w.cell? (x.add i) = some (.int .i64 (z0.getD i 0))) ∧ ∀ n ∈ z0, (Lit.int .i64 n).wf = true) (y0 : len0 * 8 ≤ 140737488351232) (w1 : (Lit.int .i64 a1).wf = true) (w2 : (Lit.int .i64 a2).wf = true) :
    Calls Try.prog 6 #[.slice a0 len0 cap0, .int .i64 a1, .int .i64 a2] w fun e w' => e = .returned (.bool true) ∧ Below w.heap.size w w' := by
  obtain ⟨l0, rfl, hr0, hm0, hw0, hc0⟩ := ReadsInt.ofRowC w0
  obtain ⟨k, h⟩ := P l0 a1 a2 hm0 y0 hw0 w1 w2
  refine (penumbralaw30_FieldReckons.calls k _ _ l0 a1 a2 true w (Kd.C_of_reads (d := (0 : Int)) (h1 := fun _ => rfl) hr0) hc0 h rfl).mono ?_
  rintro e w' ⟨rfl, hd⟩
  exact ⟨rfl, hd⟩

end Go.Proofs.Ytkjgaecjdfgnmaa.X
