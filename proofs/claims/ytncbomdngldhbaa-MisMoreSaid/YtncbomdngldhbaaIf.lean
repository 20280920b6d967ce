/- MisMore, by hand. (Printed by a program of this session: the cases of its guard.) -/
import Derived.Test.YtncbomdngldhbaaFs
import Derived.Test.YtncbomdngldhbaaIe
namespace Go.Proofs.Ytncbomdngldhbaa.Gv
open Go.RowKit Go.Proofs.YtncbomdngldhbaaW.PrintWords Go.Proofs.YtncbomdngldhbaaW.PrintLast
def BX (p : Bool) (a b c : Nat) : Obj := .cells #[.bool p, .float .f64 a, .float .f64 b, .float .f64 c] 24 (0, 0)
theorem bx_cells (p : Bool) (a b c : Nat) (w : World) : (w.alloc (.cells #[.bool p, .float .f64 a, .float .f64 b, .float .f64 c] 24 (0, 0))).cell? ⟨w.heap.size, 0, none⟩ = some (.bool p) ∧ (w.alloc (.cells #[.bool p, .float .f64 a, .float .f64 b, .float .f64 c] 24 (0, 0))).cell? ⟨w.heap.size, 1, none⟩ = some (.float .f64 a) ∧ (w.alloc (.cells #[.bool p, .float .f64 a, .float .f64 b, .float .f64 c] 24 (0, 0))).cell? ⟨w.heap.size, 2, none⟩ = some (.float .f64 b) ∧ (w.alloc (.cells #[.bool p, .float .f64 a, .float .f64 b, .float .f64 c] 24 (0, 0))).cell? ⟨w.heap.size, 3, none⟩ = some (.float .f64 c) :=
  ⟨(blk_cell (blk_new _ _) 0).trans rfl, (blk_cell (blk_new _ _) 1).trans rfl, (blk_cell (blk_new _ _) 2).trans rfl, (blk_cell (blk_new _ _) 3).trans rfl⟩
theorem more_end {w w1 w2 : World} {m : Nat} (h : Below w.heap.size w w1) (h2 : Below (w1.drewN m).heap.size (w1.drewN m) w2) : Below w.heap.size w w2 := below_then (pw_below_drewN h m) (pw_below_drewN h m).size h2
set_option maxHeartbeats 2000000 in
theorem more_bad0 (p : Bool) (a b c : Nat) (w : World) (na : isNum a = false) :
    Calls Try.prog 3 #[.agg #[.bool p, .float .f64 a, .float .f64 b, .float .f64 c]] w fun e w' => e = .returned (.bool true) ∧ Below w.heap.size w w' := by
  have HA := Aside0.mk (rnum_any a)
  rw [na] at HA
  clear na
  obtain ⟨k0, k1, k2, k3⟩ := bx_cells p a b c w
  have hB := Below.alloc (Below.refl w.heap.size w) (Nat.le_refl _) (.cells #[.bool p, .float .f64 a, .float .f64 b, .float .f64 c] 24 (0, 0))
  go_enter Try.func3, Try.ntmps3
  go_wp2
  go_region
  cases p
  all_goals
    go_wp2_with (first
      | (go_at_call 6; with_reducible refine (HA.out _).mono ?_; rintro x w1 ⟨rfl, m1, rfl⟩)
      | (go_at_call 7; refine (awake25 _).mono ?_; rintro x w9 ⟨rfl, hb9⟩))
  all_goals
    go_ret
    exact ⟨rfl, more_end hB hb9⟩
set_option maxHeartbeats 2000000 in
theorem more_bad1 (p : Bool) (a b c : Nat) (w : World) (na : isNum a = true) (nb : isNum b = false) :
    Calls Try.prog 3 #[.agg #[.bool p, .float .f64 a, .float .f64 b, .float .f64 c]] w fun e w' => e = .returned (.bool true) ∧ Below w.heap.size w w' := by
  have HA := Aside0.mk (rnum_any a)
  rw [na] at HA
  have HB := Aside0.mk (rnum_any b)
  rw [nb] at HB
  clear na nb
  obtain ⟨k0, k1, k2, k3⟩ := bx_cells p a b c w
  have hB := Below.alloc (Below.refl w.heap.size w) (Nat.le_refl _) (.cells #[.bool p, .float .f64 a, .float .f64 b, .float .f64 c] 24 (0, 0))
  go_enter Try.func3, Try.ntmps3
  go_wp2
  go_region
  cases p
  all_goals
    go_wp2_with (first
      | (go_at_call 6; with_reducible refine (HA.out _).mono ?_; rintro x w1 ⟨rfl, m1, rfl⟩)
      | (go_at_call 6; with_reducible refine (HB.out _).mono ?_; rintro x w2 ⟨rfl, m2, rfl⟩)
      | (go_at_call 7; refine (awake25 _).mono ?_; rintro x w9 ⟨rfl, hb9⟩))
  all_goals
    go_ret
    exact ⟨rfl, more_end hB hb9⟩
set_option maxHeartbeats 2000000 in
theorem more_bad2 (p : Bool) (a b c : Nat) (w : World) (na : isNum a = true) (nb : isNum b = true) (nc : isNum c = false) :
    Calls Try.prog 3 #[.agg #[.bool p, .float .f64 a, .float .f64 b, .float .f64 c]] w fun e w' => e = .returned (.bool true) ∧ Below w.heap.size w w' := by
  have HA := Aside0.mk (rnum_any a)
  rw [na] at HA
  have HB := Aside0.mk (rnum_any b)
  rw [nb] at HB
  have HC := Aside0.mk (rnum_any c)
  rw [nc] at HC
  clear na nb nc
  obtain ⟨k0, k1, k2, k3⟩ := bx_cells p a b c w
  have hB := Below.alloc (Below.refl w.heap.size w) (Nat.le_refl _) (.cells #[.bool p, .float .f64 a, .float .f64 b, .float .f64 c] 24 (0, 0))
  go_enter Try.func3, Try.ntmps3
  go_wp2
  go_region
  cases p
  all_goals
    go_wp2_with (first
      | (go_at_call 6; with_reducible refine (HA.out _).mono ?_; rintro x w1 ⟨rfl, m1, rfl⟩)
      | (go_at_call 6; with_reducible refine (HB.out _).mono ?_; rintro x w2 ⟨rfl, m2, rfl⟩)
      | (go_at_call 6; with_reducible refine (HC.out _).mono ?_; rintro x w3 ⟨rfl, m3, rfl⟩)
      | (go_at_call 7; refine (awake25 _).mono ?_; rintro x w9 ⟨rfl, hb9⟩))
  all_goals
    go_ret
    exact ⟨rfl, more_end hB hb9⟩
set_option maxHeartbeats 2000000 in
theorem more_bad3 (p : Bool) (a b c : Nat) (w : World) (na : isNum a = true) (nb : isNum b = true) (nc : isNum c = true) (ga : (FloatKind.f64.format.order a 0 == some .gt) = false) :
    Calls Try.prog 3 #[.agg #[.bool p, .float .f64 a, .float .f64 b, .float .f64 c]] w fun e w' => e = .returned (.bool true) ∧ Below w.heap.size w w' := by
  have HA := Aside0.mk (rnum_any a)
  rw [na] at HA
  have HB := Aside0.mk (rnum_any b)
  rw [nb] at HB
  have HC := Aside0.mk (rnum_any c)
  rw [nc] at HC
  clear na nb nc
  obtain ⟨k0, k1, k2, k3⟩ := bx_cells p a b c w
  have hB := Below.alloc (Below.refl w.heap.size w) (Nat.le_refl _) (.cells #[.bool p, .float .f64 a, .float .f64 b, .float .f64 c] 24 (0, 0))
  go_enter Try.func3, Try.ntmps3
  go_wp2
  go_region
  cases p
  all_goals
    go_wp2_with (first
      | (go_at_call 6; with_reducible refine (HA.out _).mono ?_; rintro x w1 ⟨rfl, m1, rfl⟩)
      | (go_at_call 6; with_reducible refine (HB.out _).mono ?_; rintro x w2 ⟨rfl, m2, rfl⟩)
      | (go_at_call 6; with_reducible refine (HC.out _).mono ?_; rintro x w3 ⟨rfl, m3, rfl⟩)
      | (go_at_call 7; refine (awake25 _).mono ?_; rintro x w9 ⟨rfl, hb9⟩))
  all_goals
    go_ret
    exact ⟨rfl, more_end hB hb9⟩
set_option maxHeartbeats 2000000 in
theorem more_bad4 (p : Bool) (a b c : Nat) (w : World) (na : isNum a = true) (nb : isNum b = true) (nc : isNum c = true) (ga : (FloatKind.f64.format.order a 0 == some .gt) = true) (gb : (FloatKind.f64.format.order b 0 == some .lt) = true) :
    Calls Try.prog 3 #[.agg #[.bool p, .float .f64 a, .float .f64 b, .float .f64 c]] w fun e w' => e = .returned (.bool true) ∧ Below w.heap.size w w' := by
  have HA := Aside0.mk (rnum_any a)
  rw [na] at HA
  have HB := Aside0.mk (rnum_any b)
  rw [nb] at HB
  have HC := Aside0.mk (rnum_any c)
  rw [nc] at HC
  clear na nb nc
  obtain ⟨k0, k1, k2, k3⟩ := bx_cells p a b c w
  have hB := Below.alloc (Below.refl w.heap.size w) (Nat.le_refl _) (.cells #[.bool p, .float .f64 a, .float .f64 b, .float .f64 c] 24 (0, 0))
  go_enter Try.func3, Try.ntmps3
  go_wp2
  go_region
  cases p
  all_goals
    go_wp2_with (first
      | (go_at_call 6; with_reducible refine (HA.out _).mono ?_; rintro x w1 ⟨rfl, m1, rfl⟩)
      | (go_at_call 6; with_reducible refine (HB.out _).mono ?_; rintro x w2 ⟨rfl, m2, rfl⟩)
      | (go_at_call 6; with_reducible refine (HC.out _).mono ?_; rintro x w3 ⟨rfl, m3, rfl⟩)
      | (go_at_call 7; refine (awake25 _).mono ?_; rintro x w9 ⟨rfl, hb9⟩))
  all_goals
    go_ret
    exact ⟨rfl, more_end hB hb9⟩
set_option maxHeartbeats 2000000 in
theorem more_bad5 (p : Bool) (a b c : Nat) (w : World) (na : isNum a = true) (nb : isNum b = true) (nc : isNum c = true) (ga : (FloatKind.f64.format.order a 0 == some .gt) = true) (gb : (FloatKind.f64.format.order b 0 == some .lt) = false) (gc : (FloatKind.f64.format.order c b == some .lt) = true) :
    Calls Try.prog 3 #[.agg #[.bool p, .float .f64 a, .float .f64 b, .float .f64 c]] w fun e w' => e = .returned (.bool true) ∧ Below w.heap.size w w' := by
  have HA := Aside0.mk (rnum_any a)
  rw [na] at HA
  have HB := Aside0.mk (rnum_any b)
  rw [nb] at HB
  have HC := Aside0.mk (rnum_any c)
  rw [nc] at HC
  clear na nb nc
  obtain ⟨k0, k1, k2, k3⟩ := bx_cells p a b c w
  have hB := Below.alloc (Below.refl w.heap.size w) (Nat.le_refl _) (.cells #[.bool p, .float .f64 a, .float .f64 b, .float .f64 c] 24 (0, 0))
  go_enter Try.func3, Try.ntmps3
  go_wp2
  go_region
  cases p
  all_goals
    go_wp2_with (first
      | (go_at_call 6; with_reducible refine (HA.out _).mono ?_; rintro x w1 ⟨rfl, m1, rfl⟩)
      | (go_at_call 6; with_reducible refine (HB.out _).mono ?_; rintro x w2 ⟨rfl, m2, rfl⟩)
      | (go_at_call 6; with_reducible refine (HC.out _).mono ?_; rintro x w3 ⟨rfl, m3, rfl⟩)
      | (go_at_call 7; refine (awake25 _).mono ?_; rintro x w9 ⟨rfl, hb9⟩))
  all_goals
    go_ret
    exact ⟨rfl, more_end hB hb9⟩
set_option maxHeartbeats 4000000 in
theorem more_good (p : Bool) (a b c : Nat) (w : World) (na : isNum a = true) (nb : isNum b = true) (nc : isNum c = true) (ga : (FloatKind.f64.format.order a 0 == some .gt) = true) (gb : (FloatKind.f64.format.order b 0 == some .lt) = false) (gc : (FloatKind.f64.format.order c b == some .lt) = false) :
    Calls Try.prog 3 #[.agg #[.bool p, .float .f64 a, .float .f64 b, .float .f64 c]] w fun e w' => e = .returned (.bool true) ∧ Below w.heap.size w w' := by
  have hk : (if p = true then (2 : Int) else 1) = 1 ∨ (if p = true then (2 : Int) else 1) = 2 := by cases p <;> simp
  obtain ⟨l1, l2⟩ := more hk na nb nc ga gb gc
  have HW1 := Aside0.mk (weight_any (if p = true then (2 : Int) else 1) a c)
  have HW2 := Aside0.mk (weight_any (if p = true then (2 : Int) else 1) a b)
  generalize wgt (if p = true then (2 : Int) else 1) a c = u at *
  generalize wgt (if p = true then (2 : Int) else 1) a b = v at *
  have o1 : (FloatKind.f64.format.order u v == some .lt || FloatKind.f64.format.order u v == some .eq) = true := by
    rw [order_val u v (by omega) (by omega)]
    by_cases z : u < v
    · rw [if_pos z]; rfl
    · rw [if_neg z, if_pos (by omega)]; rfl
  have o2 : (FloatKind.f64.format.order v 4607182418800017408 == some .lt || FloatKind.f64.format.order v 4607182418800017408 == some .eq) = true := by
    rw [order_val v 4607182418800017408 (by omega) (by decide)]
    by_cases z : v < 4607182418800017408
    · rw [if_pos z]; rfl
    · rw [if_neg z, if_pos (by omega)]; rfl
  have HA := Aside0.mk (rnum_any a)
  rw [na] at HA
  have HB := Aside0.mk (rnum_any b)
  rw [nb] at HB
  have HC := Aside0.mk (rnum_any c)
  rw [nc] at HC
  clear na nb nc l1 l2 hk
  obtain ⟨k0, k1, k2, k3⟩ := bx_cells p a b c w
  have hB := Below.alloc (Below.refl w.heap.size w) (Nat.le_refl _) (.cells #[.bool p, .float .f64 a, .float .f64 b, .float .f64 c] 24 (0, 0))
  go_enter Try.func3, Try.ntmps3
  go_wp2
  go_region
  cases p
  all_goals
    simp only [Bool.false_eq_true, ↓reduceIte] at HW1 HW2
    go_wp2_with (first
      | (go_at_call 6; with_reducible refine (HA.out _).mono ?_; rintro x w1 ⟨rfl, m1, rfl⟩)
      | (go_at_call 6; with_reducible refine (HB.out _).mono ?_; rintro x w2 ⟨rfl, m2, rfl⟩)
      | (go_at_call 6; with_reducible refine (HC.out _).mono ?_; rintro x w3 ⟨rfl, m3, rfl⟩)
      | (go_at_call 7; refine (awake25 _).mono ?_; rintro x w9 ⟨rfl, hb9⟩)
      | (go_at_call 8; with_reducible refine (HW1.out _).mono ?_; rintro x w10 ⟨rfl, hb10⟩)
      | (go_at_call 8; with_reducible refine (HW2.out w10).mono ?_; rintro x w11 ⟨rfl, hb11⟩)
      | (go_at_call 8; with_reducible refine (HW2.out w11).mono ?_; rintro x w12 ⟨rfl, hb12⟩))
  all_goals
    go_ret
    have h9 := more_end hB hb9
    have h10 := below_then h9 h9.size hb10
    have h11 := below_then h10 h10.size hb11
    exact ⟨rfl, below_then h11 h11.size hb12⟩
theorem misMore_any (p : Bool) (a b c : Nat) (w : World) :
    Calls Try.prog 3 #[.agg #[.bool p, .float .f64 a, .float .f64 b, .float .f64 c]] w fun e w' => e = .returned (.bool true) ∧ Below w.heap.size w w' := by
  cases na : isNum a with
  | false => exact more_bad0 p a b c w na
  | true =>
    cases nb : isNum b with
    | false => exact more_bad1 p a b c w na nb
    | true =>
      cases nc : isNum c with
      | false => exact more_bad2 p a b c w na nb nc
      | true =>
        cases ga : (FloatKind.f64.format.order a 0 == some .gt) with
        | false => exact more_bad3 p a b c w na nb nc ga
        | true =>
          cases gb : (FloatKind.f64.format.order b 0 == some .lt) with
          | true => exact more_bad4 p a b c w na nb nc ga gb
          | false =>
            cases gc : (FloatKind.f64.format.order c b == some .lt) with
            | true => exact more_bad5 p a b c w na nb nc ga gb gc
            | false =>
              exact more_good p a b c w na nb nc ga gb gc
end Go.Proofs.Ytncbomdngldhbaa.Gv
