/- MisOne, by hand. (Printed by a program of this session: the cases of its guard.) -/
import Derived.Test.YtncbomdngldhbaaFw
import Derived.Test.YtncbomdngldhbaaIe
namespace Go.Proofs.Ytncbomdngldhbaa.Gv
open Go.RowKit Go.Proofs.YtncbomdngldhbaaW.PrintWords Go.Proofs.YtncbomdngldhbaaW.PrintLast
theorem one_awake {w w2 : World} {m : Nat} (h2 : Below (w.drewN m).heap.size (w.drewN m) w2) : Below w.heap.size w w2 := below_then (pw_below_drewN (Below.refl _ _) m) (pw_below_drewN (Below.refl w.heap.size _) m).size h2
set_option maxHeartbeats 2000000 in
theorem one_bad0 (p : Bool) (a b : Nat) (w : World) (na : isNum a = false) :
    Calls Try.prog 5 #[.bool p, .float .f64 a, .float .f64 b] w fun e w' => e = .returned (.bool true) ∧ Below w.heap.size w w' := by
  have HA := Aside0.mk (rnum_any a)
  rw [na] at HA
  clear na
  go_enter Try.func5, Try.ntmps5
  cases p
  all_goals
    go_wp2_with (first
      | (go_at_call 6; with_reducible refine (HA.out _).mono ?_; rintro x w1 ⟨rfl, m1, rfl⟩)
      | (go_at_call 7; refine (awake25 _).mono ?_; rintro x w9 ⟨rfl, hb9⟩))
  all_goals
    go_ret
    exact ⟨rfl, one_awake hb9⟩
set_option maxHeartbeats 2000000 in
theorem one_bad1 (p : Bool) (a b : Nat) (w : World) (na : isNum a = true) (nb : isNum b = false) :
    Calls Try.prog 5 #[.bool p, .float .f64 a, .float .f64 b] w fun e w' => e = .returned (.bool true) ∧ Below w.heap.size w w' := by
  have HA := Aside0.mk (rnum_any a)
  rw [na] at HA
  have HB := Aside0.mk (rnum_any b)
  rw [nb] at HB
  clear na nb
  go_enter Try.func5, Try.ntmps5
  cases p
  all_goals
    go_wp2_with (first
      | (go_at_call 6; with_reducible refine (HA.out _).mono ?_; rintro x w1 ⟨rfl, m1, rfl⟩)
      | (go_at_call 6; with_reducible refine (HB.out _).mono ?_; rintro x w2 ⟨rfl, m2, rfl⟩)
      | (go_at_call 7; refine (awake25 _).mono ?_; rintro x w9 ⟨rfl, hb9⟩))
  all_goals
    go_ret
    exact ⟨rfl, one_awake hb9⟩
set_option maxHeartbeats 2000000 in
theorem one_bad2 (p : Bool) (a b : Nat) (w : World) (na : isNum a = true) (nb : isNum b = true) (la : (FloatKind.f64.format.order a 0 == some .lt) = true) :
    Calls Try.prog 5 #[.bool p, .float .f64 a, .float .f64 b] w fun e w' => e = .returned (.bool true) ∧ Below w.heap.size w w' := by
  have HA := Aside0.mk (rnum_any a)
  rw [na] at HA
  have HB := Aside0.mk (rnum_any b)
  rw [nb] at HB
  clear na nb
  go_enter Try.func5, Try.ntmps5
  cases p
  all_goals
    go_wp2_with (first
      | (go_at_call 6; with_reducible refine (HA.out _).mono ?_; rintro x w1 ⟨rfl, m1, rfl⟩)
      | (go_at_call 6; with_reducible refine (HB.out _).mono ?_; rintro x w2 ⟨rfl, m2, rfl⟩)
      | (go_at_call 7; refine (awake25 _).mono ?_; rintro x w9 ⟨rfl, hb9⟩))
  all_goals
    go_ret
    exact ⟨rfl, one_awake hb9⟩
set_option maxHeartbeats 2000000 in
theorem one_bad3 (p : Bool) (a b : Nat) (w : World) (na : isNum a = true) (nb : isNum b = true) (la : (FloatKind.f64.format.order a 0 == some .lt) = false) (lb : (FloatKind.f64.format.order b 0 == some .lt) = true) :
    Calls Try.prog 5 #[.bool p, .float .f64 a, .float .f64 b] w fun e w' => e = .returned (.bool true) ∧ Below w.heap.size w w' := by
  have HA := Aside0.mk (rnum_any a)
  rw [na] at HA
  have HB := Aside0.mk (rnum_any b)
  rw [nb] at HB
  clear na nb
  go_enter Try.func5, Try.ntmps5
  cases p
  all_goals
    go_wp2_with (first
      | (go_at_call 6; with_reducible refine (HA.out _).mono ?_; rintro x w1 ⟨rfl, m1, rfl⟩)
      | (go_at_call 6; with_reducible refine (HB.out _).mono ?_; rintro x w2 ⟨rfl, m2, rfl⟩)
      | (go_at_call 7; refine (awake25 _).mono ?_; rintro x w9 ⟨rfl, hb9⟩))
  all_goals
    go_ret
    exact ⟨rfl, one_awake hb9⟩
set_option maxHeartbeats 2000000 in
theorem one_bad4 (p : Bool) (a b : Nat) (w : World) (na : isNum a = true) (nb : isNum b = true) (la : (FloatKind.f64.format.order a 0 == some .lt) = false) (lb : (FloatKind.f64.format.order b 0 == some .lt) = false) (za : (FloatKind.f64.format.order a 0 == some .eq) = true) (zb : (FloatKind.f64.format.order b 0 == some .eq) = true) :
    Calls Try.prog 5 #[.bool p, .float .f64 a, .float .f64 b] w fun e w' => e = .returned (.bool true) ∧ Below w.heap.size w w' := by
  have HA := Aside0.mk (rnum_any a)
  rw [na] at HA
  have HB := Aside0.mk (rnum_any b)
  rw [nb] at HB
  clear na nb
  go_enter Try.func5, Try.ntmps5
  cases p
  all_goals
    go_wp2_with (first
      | (go_at_call 6; with_reducible refine (HA.out _).mono ?_; rintro x w1 ⟨rfl, m1, rfl⟩)
      | (go_at_call 6; with_reducible refine (HB.out _).mono ?_; rintro x w2 ⟨rfl, m2, rfl⟩)
      | (go_at_call 7; refine (awake25 _).mono ?_; rintro x w9 ⟨rfl, hb9⟩))
  all_goals
    go_ret
    exact ⟨rfl, one_awake hb9⟩
set_option maxHeartbeats 4000000 in
theorem one_good0 (p : Bool) (a b : Nat) (w : World) (na : isNum a = true) (nb : isNum b = true) (la : (FloatKind.f64.format.order a 0 == some .lt) = false) (lb : (FloatKind.f64.format.order b 0 == some .lt) = false) (za : (FloatKind.f64.format.order a 0 == some .eq) = false) :
    Calls Try.prog 5 #[.bool p, .float .f64 a, .float .f64 b] w fun e w' => e = .returned (.bool true) ∧ Below w.heap.size w w' := by
  have hk : (if p = true then (2 : Int) else 1) = 1 ∨ (if p = true then (2 : Int) else 1) = 2 := by cases p <;> simp
  obtain ⟨l1, l2, s, d, hs, hd, o1, o2⟩ := one_law hk na nb la lb (by rw [za]; rfl)
  have o3 := word_ge l1
  have o4 := word_ge l2
  have HW := Aside0.mk (both_any (if p = true then (2 : Int) else 1) a b)
  generalize wgt (if p = true then (2 : Int) else 1) a b = u at *
  generalize wgt (if p = true then (2 : Int) else 1) b a = v at *
  have r1 := fun w => run_float_arith (P := Try.prog) w .add 22 .f64 u v _ hs
  have r2 := fun w => run_float_arith (P := Try.prog) w .sub 22 .f64 s 4607182418800017408 _ hd
  have HA := Aside0.mk (rnum_any a)
  rw [na] at HA
  have HB := Aside0.mk (rnum_any b)
  rw [nb] at HB
  clear na nb
  clear l1 l2 hk hs hd
  go_enter Try.func5, Try.ntmps5
  cases p
  all_goals
    simp only [Bool.false_eq_true, ↓reduceIte] at HW
    go_wp2_with (first
      | (go_at_call 6; with_reducible refine (HA.out _).mono ?_; rintro x w1 ⟨rfl, m1, rfl⟩)
      | (go_at_call 6; with_reducible refine (HB.out _).mono ?_; rintro x w2 ⟨rfl, m2, rfl⟩)
      | (go_at_call 7; refine (awake25 _).mono ?_; rintro x w9 ⟨rfl, hb9⟩)
      | (go_at_call 9; with_reducible refine (HW.out _).mono ?_; rintro x w10 ⟨rfl, hb10⟩))
  all_goals
    go_ret
    have h9 := one_awake hb10
    exact ⟨rfl, below_then h9 h9.size hb9⟩
set_option maxHeartbeats 4000000 in
theorem one_good1 (p : Bool) (a b : Nat) (w : World) (na : isNum a = true) (nb : isNum b = true) (la : (FloatKind.f64.format.order a 0 == some .lt) = false) (lb : (FloatKind.f64.format.order b 0 == some .lt) = false) (za : (FloatKind.f64.format.order a 0 == some .eq) = true) (zb : (FloatKind.f64.format.order b 0 == some .eq) = false) :
    Calls Try.prog 5 #[.bool p, .float .f64 a, .float .f64 b] w fun e w' => e = .returned (.bool true) ∧ Below w.heap.size w w' := by
  have hk : (if p = true then (2 : Int) else 1) = 1 ∨ (if p = true then (2 : Int) else 1) = 2 := by cases p <;> simp
  obtain ⟨l1, l2, s, d, hs, hd, o1, o2⟩ := one_law hk na nb la lb (by rw [zb, Bool.and_false])
  have o3 := word_ge l1
  have o4 := word_ge l2
  have HW := Aside0.mk (both_any (if p = true then (2 : Int) else 1) a b)
  generalize wgt (if p = true then (2 : Int) else 1) a b = u at *
  generalize wgt (if p = true then (2 : Int) else 1) b a = v at *
  have r1 := fun w => run_float_arith (P := Try.prog) w .add 22 .f64 u v _ hs
  have r2 := fun w => run_float_arith (P := Try.prog) w .sub 22 .f64 s 4607182418800017408 _ hd
  have HA := Aside0.mk (rnum_any a)
  rw [na] at HA
  have HB := Aside0.mk (rnum_any b)
  rw [nb] at HB
  clear na nb
  clear l1 l2 hk hs hd
  go_enter Try.func5, Try.ntmps5
  cases p
  all_goals
    simp only [Bool.false_eq_true, ↓reduceIte] at HW
    go_wp2_with (first
      | (go_at_call 6; with_reducible refine (HA.out _).mono ?_; rintro x w1 ⟨rfl, m1, rfl⟩)
      | (go_at_call 6; with_reducible refine (HB.out _).mono ?_; rintro x w2 ⟨rfl, m2, rfl⟩)
      | (go_at_call 7; refine (awake25 _).mono ?_; rintro x w9 ⟨rfl, hb9⟩)
      | (go_at_call 9; with_reducible refine (HW.out _).mono ?_; rintro x w10 ⟨rfl, hb10⟩))
  all_goals
    go_ret
    have h9 := one_awake hb10
    exact ⟨rfl, below_then h9 h9.size hb9⟩
theorem misOne_any (p : Bool) (a b : Nat) (w : World) :
    Calls Try.prog 5 #[.bool p, .float .f64 a, .float .f64 b] w fun e w' => e = .returned (.bool true) ∧ Below w.heap.size w w' := by
  cases na : isNum a with
  | false => exact one_bad0 p a b w na
  | true =>
    cases nb : isNum b with
    | false => exact one_bad1 p a b w na nb
    | true =>
      cases la : (FloatKind.f64.format.order a 0 == some .lt) with
      | true => exact one_bad2 p a b w na nb la
      | false =>
        cases lb : (FloatKind.f64.format.order b 0 == some .lt) with
        | true => exact one_bad3 p a b w na nb la lb
        | false =>
          cases za : (FloatKind.f64.format.order a 0 == some .eq) with
          | false => exact one_good0 p a b w na nb la lb za
          | true =>
            cases zb : (FloatKind.f64.format.order b 0 == some .eq) with
            | true => exact one_bad4 p a b w na nb la lb za zb
            | false => exact one_good1 p a b w na nb la lb za zb
end Go.Proofs.Ytncbomdngldhbaa.Gv
