/- Contracts of package tape's functions that take or make function values. -/
import Derived.Test.YtedifkidnpaejaaProg
import Derived.WalkKit
import Derived.Handy
import Derived.OwnWalk
import Derived.Test.YtedifkidnpaejaaWMore
namespace Go.Proofs.Ytedifkidnpaejaa.Gv
open Go.RowKit Go.Proofs.YtedifkidnpaejaaW.PrintWords Go.Proofs.YtedifkidnpaejaaW.PrintLast

theorem ret_i {a b : Int} (h : a = b) : Ending.returned (.int .i64 a) = .returned (.int .i64 b) := by rw [h]
theorem below_thru {w W w1 : World} (h : Below w.heap.size w W) (hb : Below W.heap.size W w1) : Below w.heap.size w w1 := below_then h h.size hb
theorem ret_b {a b : Bool} (h : a = b) : Ending.returned (.bool a) = .returned (.bool b) := by rw [h]
/-- is n within lo and hi? Not to be opened by the walk. -/
def inB (lo hi n : Int) : Bool := decide (lo ≤ n ∧ n ≤ hi)
theorem inB_true {lo hi n : Int} (h : inB lo hi n = true) : lo ≤ n ∧ n ≤ hi := of_decide_eq_true h
theorem inB_false {lo hi n : Int} (h : inB lo hi n = false) : ¬ (lo ≤ n ∧ n ≤ hi) := of_decide_eq_false h
theorem within_any (lo hi : Int) (w : World) : Calls Try.prog 21 #[.int .i64 lo, .int .i64 hi] w fun e w' => ∃ pa pb : Addr, e = .returned (.func (.func 22) #[] #[.pointer (some pa), .pointer (some pb)]) ∧ w'.cell? pa = some (.int .i64 lo) ∧ w'.cell? pb = some (.int .i64 hi) ∧ Below w.heap.size w w' := by
  have hmf : ∀ (fn : Fn) (first cap : Array Value) (w : World), (Instr.makeFunc fn first cap).run Try.prog w = .ok (.func fn first cap) w := fun _ _ _ _ => rfl
  go_enter Try.func21, Try.ntmps21
  go_wp2
  go_ret
  exact ⟨_, _, rfl, (blk_cell (blk_alloc (blk_new _ _) _) 0).trans rfl, (blk_cell (g := w.heap.size + 1) (cs := #[.int .i64 hi]) (by have h := blk_new (w.alloc (.cells #[.int .i64 lo] 3)) (.cells #[.int .i64 hi] 3); simpa using h) 0).trans rfl, by go_grown⟩
theorem withinc_any (lo hi n : Int) (pa pb : Addr) (w : World) (ha : w.cell? pa = some (.int .i64 lo)) (hb : w.cell? pb = some (.int .i64 hi)) :
    Calls Try.prog 22 #[.int .i64 n, .pointer (some pa), .pointer (some pb)] w fun e w' => e = .returned (.bool (inB lo hi n)) ∧ w = w' := by
  by_cases c : lo ≤ n
  · have c1 : decide (lo ≤ n) = true := decide_eq_true c
    by_cases d : n ≤ hi
    · have d1 : decide (n ≤ hi) = true := decide_eq_true d
      have H := Aside0.mk (show inB lo hi n = true from decide_eq_true ⟨c, d⟩)
      go_enter Try.func22, Try.ntmps22
      go_wp2
      go_ret
      exact ⟨ret_b H.out.symm, rfl⟩
    · have d1 : decide (n ≤ hi) = false := decide_eq_false d
      have H := Aside0.mk (show inB lo hi n = false from decide_eq_false (fun h => d h.2))
      clear d
      go_enter Try.func22, Try.ntmps22
      go_wp2
      go_ret
      exact ⟨ret_b H.out.symm, rfl⟩
  · have c1 : decide (lo ≤ n) = false := decide_eq_false c
    have H := Aside0.mk (show inB lo hi n = false from decide_eq_false (fun h => c h.1))
    clear c
    go_enter Try.func22, Try.ntmps22
    go_wp2
    go_ret
    exact ⟨ret_b H.out.symm, rfl⟩
/-- how many slots a path has; 0: the depth is none -/
def slotsOf (d : Int) : Int := if 0 ≤ d ∧ d ≤ 64 then 12 + 8 * d else 0
theorem slotsOf_le (d : Int) : 0 ≤ slotsOf d ∧ slotsOf d ≤ 524 := by unfold slotsOf; split <;> omega
theorem slots_any (d : Int) (w : World) : Calls Try.prog 18 #[.int .i64 d] w fun e w' => e = .returned (.int .i64 (slotsOf d)) ∧ w = w' := by
  by_cases c : d < 0
  · have H := Aside0.mk (show slotsOf d = 0 from if_neg (by omega))
    go_enter Try.func18, Try.ntmps18
    go_wp2
    go_ret
    exact ⟨ret_i H.out.symm, rfl⟩
  · have c0 : 0 ≤ d := by omega
    clear c
    by_cases e : 64 < d
    · have H := Aside0.mk (show slotsOf d = 0 from if_neg (by omega))
      go_enter Try.func18, Try.ntmps18
      go_wp2
      go_ret
      exact ⟨ret_i H.out.symm, rfl⟩
    · have e0 : d ≤ 64 := by omega
      clear e
      have H := Aside0.mk (show slotsOf d = 4 + 8 * (d + 1) from by rw [slotsOf, if_pos ⟨c0, e0⟩]; omega)
      go_enter Try.func18, Try.ntmps18
      go_wp2
      go_ret
      exact ⟨ret_i H.out.symm, rfl⟩
set_option maxHeartbeats 1000000 in
theorem need_w (w h s d : Int) (W : World) (h1 : inB 1 8192 w = false) : Calls Try.prog 16 #[.int .i64 w, .int .i64 h, .int .i64 s, .int .i64 d] W fun e w' => e = .returned (.tuple #[.int .i64 0, .int .i64 12]) ∧ Below W.heap.size W w' := by
  go_enter Try.func16, Try.ntmps16
  go_wp2_with (first
    | (go_at_call 21; refine (within_any 1 8192 _).mono ?_; rintro e w1 ⟨pa, pb, rfl, ha, hb, hB⟩)
    | (go_at_call 22; refine (withinc_any 1 8192 _ pa pb w1 ha hb).mono ?_; rintro e w' ⟨rfl, rfl⟩)
    | (go_at_call 18; refine (slots_any _ _).mono ?_; rintro e w' ⟨rfl, rfl⟩))
  go_ret2
  exact ⟨rfl, hB⟩
set_option maxHeartbeats 1000000 in
theorem need_h (w h s d : Int) (W : World) (h1 : inB 1 8192 w = true) (h2 : inB 1 8192 h = false) : Calls Try.prog 16 #[.int .i64 w, .int .i64 h, .int .i64 s, .int .i64 d] W fun e w' => e = .returned (.tuple #[.int .i64 0, .int .i64 12]) ∧ Below W.heap.size W w' := by
  go_enter Try.func16, Try.ntmps16
  go_wp2_with (first
    | (go_at_call 21; refine (within_any 1 8192 _).mono ?_; rintro e w1 ⟨pa, pb, rfl, ha, hb, hB⟩)
    | (go_at_call 22; refine (withinc_any 1 8192 _ pa pb w1 ha hb).mono ?_; rintro e w' ⟨rfl, rfl⟩)
    | (go_at_call 18; refine (slots_any _ _).mono ?_; rintro e w' ⟨rfl, rfl⟩))
  go_ret2
  exact ⟨rfl, hB⟩
set_option maxHeartbeats 1000000 in
theorem need_s1 (w h s d : Int) (W : World) (h1 : inB 1 8192 w = true) (h2 : inB 1 8192 h = true) (h3 : s < 1) : Calls Try.prog 16 #[.int .i64 w, .int .i64 h, .int .i64 s, .int .i64 d] W fun e w' => e = .returned (.tuple #[.int .i64 0, .int .i64 12]) ∧ Below W.heap.size W w' := by
  go_enter Try.func16, Try.ntmps16
  go_wp2_with (first
    | (go_at_call 21; refine (within_any 1 8192 _).mono ?_; rintro e w1 ⟨pa, pb, rfl, ha, hb, hB⟩)
    | (go_at_call 22; refine (withinc_any 1 8192 _ pa pb w1 ha hb).mono ?_; rintro e w' ⟨rfl, rfl⟩)
    | (go_at_call 18; refine (slots_any _ _).mono ?_; rintro e w' ⟨rfl, rfl⟩))
  go_ret2
  exact ⟨rfl, hB⟩
set_option maxHeartbeats 1000000 in
theorem need_s2 (w h s d : Int) (W : World) (h1 : inB 1 8192 w = true) (h2 : inB 1 8192 h = true) (h3 : 1 ≤ s) (h4 : 65536 < s) : Calls Try.prog 16 #[.int .i64 w, .int .i64 h, .int .i64 s, .int .i64 d] W fun e w' => e = .returned (.tuple #[.int .i64 0, .int .i64 12]) ∧ Below W.heap.size W w' := by
  go_enter Try.func16, Try.ntmps16
  go_wp2_with (first
    | (go_at_call 21; refine (within_any 1 8192 _).mono ?_; rintro e w1 ⟨pa, pb, rfl, ha, hb, hB⟩)
    | (go_at_call 22; refine (withinc_any 1 8192 _ pa pb w1 ha hb).mono ?_; rintro e w' ⟨rfl, rfl⟩)
    | (go_at_call 18; refine (slots_any _ _).mono ?_; rintro e w' ⟨rfl, rfl⟩))
  go_ret2
  exact ⟨rfl, hB⟩
set_option maxHeartbeats 1000000 in
theorem need_d (w h s d : Int) (W : World) (h1 : inB 1 8192 w = true) (h2 : inB 1 8192 h = true) (h3 : 1 ≤ s) (h4 : s ≤ 65536) (h5 : (slotsOf d == 0) = true) : Calls Try.prog 16 #[.int .i64 w, .int .i64 h, .int .i64 s, .int .i64 d] W fun e w' => e = .returned (.tuple #[.int .i64 0, .int .i64 12]) ∧ Below W.heap.size W w' := by
  go_enter Try.func16, Try.ntmps16
  go_wp2_with (first
    | (go_at_call 21; refine (within_any 1 8192 _).mono ?_; rintro e w1 ⟨pa, pb, rfl, ha, hb, hB⟩)
    | (go_at_call 22; refine (withinc_any 1 8192 _ pa pb w1 ha hb).mono ?_; rintro e w' ⟨rfl, rfl⟩)
    | (go_at_call 18; refine (slots_any _ _).mono ?_; rintro e w' ⟨rfl, rfl⟩))
  go_ret2
  exact ⟨rfl, hB⟩
set_option maxHeartbeats 1000000 in
theorem need_b1 (w h s d : Int) (W : World) (h1 : inB 1 8192 w = true) (h2 : inB 1 8192 h = true) (h3 : 1 ≤ s) (h4 : s ≤ 65536) (h5 : (slotsOf d == 0) = false) (x1 : 0 ≤ w * h) (x2 : w * h ≤ 67108864) (h6 : 65536 < w * h) : Calls Try.prog 16 #[.int .i64 w, .int .i64 h, .int .i64 s, .int .i64 d] W fun e w' => e = .returned (.tuple #[.int .i64 0, .int .i64 4]) ∧ Below W.heap.size W w' := by
  go_enter Try.func16, Try.ntmps16
  go_wp2_with (first
    | (go_at_call 21; refine (within_any 1 8192 _).mono ?_; rintro e w1 ⟨pa, pb, rfl, ha, hb, hB⟩)
    | (go_at_call 22; refine (withinc_any 1 8192 _ pa pb w1 ha hb).mono ?_; rintro e w' ⟨rfl, rfl⟩)
    | (go_at_call 18; refine (slots_any _ _).mono ?_; rintro e w' ⟨rfl, rfl⟩))
  go_ret2
  exact ⟨rfl, hB⟩
set_option maxHeartbeats 1000000 in
theorem need_b2 (w h s d : Int) (W : World) (h1 : inB 1 8192 w = true) (h2 : inB 1 8192 h = true) (h3 : 1 ≤ s) (h4 : s ≤ 65536) (h5 : (slotsOf d == 0) = false) (x1 : 0 ≤ w * h) (x2 : w * h ≤ 67108864) (x3 : 0 ≤ w * h * s) (x4 : w * h * s ≤ 4398046511104) (h6 : w * h ≤ 65536) (h7 : 4194304 < w * h * s) : Calls Try.prog 16 #[.int .i64 w, .int .i64 h, .int .i64 s, .int .i64 d] W fun e w' => e = .returned (.tuple #[.int .i64 0, .int .i64 4]) ∧ Below W.heap.size W w' := by
  go_enter Try.func16, Try.ntmps16
  go_wp2_with (first
    | (go_at_call 21; refine (within_any 1 8192 _).mono ?_; rintro e w1 ⟨pa, pb, rfl, ha, hb, hB⟩)
    | (go_at_call 22; refine (withinc_any 1 8192 _ pa pb w1 ha hb).mono ?_; rintro e w' ⟨rfl, rfl⟩)
    | (go_at_call 18; refine (slots_any _ _).mono ?_; rintro e w' ⟨rfl, rfl⟩))
  go_ret2
  exact ⟨rfl, hB⟩
set_option maxHeartbeats 1000000 in
theorem need_b3 (w h s d : Int) (W : World) (h1 : inB 1 8192 w = true) (h2 : inB 1 8192 h = true) (h3 : 1 ≤ s) (h4 : s ≤ 65536) (h5 : (slotsOf d == 0) = false) (x1 : 0 ≤ w * h) (x2 : w * h ≤ 67108864) (x3 : 0 ≤ w * h * s) (x4 : w * h * s ≤ 4398046511104) (x5 : 0 ≤ w * h * s * slotsOf d) (x6 : w * h * s * slotsOf d ≤ 2304576371884032) (h6 : w * h ≤ 65536) (h7 : w * h * s ≤ 4194304) (h8 : 4194304 < w * h * s * slotsOf d) : Calls Try.prog 16 #[.int .i64 w, .int .i64 h, .int .i64 s, .int .i64 d] W fun e w' => e = .returned (.tuple #[.int .i64 0, .int .i64 4]) ∧ Below W.heap.size W w' := by
  go_enter Try.func16, Try.ntmps16
  go_wp2_with (first
    | (go_at_call 21; refine (within_any 1 8192 _).mono ?_; rintro e w1 ⟨pa, pb, rfl, ha, hb, hB⟩)
    | (go_at_call 22; refine (withinc_any 1 8192 _ pa pb w1 ha hb).mono ?_; rintro e w' ⟨rfl, rfl⟩)
    | (go_at_call 18; refine (slots_any _ _).mono ?_; rintro e w' ⟨rfl, rfl⟩))
  go_ret2
  exact ⟨rfl, hB⟩
set_option maxHeartbeats 1000000 in
theorem need_ok (w h s d : Int) (W : World) (h1 : inB 1 8192 w = true) (h2 : inB 1 8192 h = true) (h3 : 1 ≤ s) (h4 : s ≤ 65536) (h5 : (slotsOf d == 0) = false) (x1 : 0 ≤ w * h) (x2 : w * h ≤ 67108864) (x3 : 0 ≤ w * h * s) (x4 : w * h * s ≤ 4398046511104) (x5 : 0 ≤ w * h * s * slotsOf d) (x6 : w * h * s * slotsOf d ≤ 2304576371884032) (h6 : w * h ≤ 65536) (h7 : w * h * s ≤ 4194304) (h8 : w * h * s * slotsOf d ≤ 4194304) : Calls Try.prog 16 #[.int .i64 w, .int .i64 h, .int .i64 s, .int .i64 d] W fun e w' => e = .returned (.tuple #[.int .i64 (w * h * s * slotsOf d), .int .i64 0]) ∧ Below W.heap.size W w' := by
  go_enter Try.func16, Try.ntmps16
  go_wp2_with (first
    | (go_at_call 21; refine (within_any 1 8192 _).mono ?_; rintro e w1 ⟨pa, pb, rfl, ha, hb, hB⟩)
    | (go_at_call 22; refine (withinc_any 1 8192 _ pa pb w1 ha hb).mono ?_; rintro e w' ⟨rfl, rfl⟩)
    | (go_at_call 18; refine (slots_any _ _).mono ?_; rintro e w' ⟨rfl, rfl⟩))
  go_ret2
  exact ⟨rfl, hB⟩
def needVal (w h s d : Int) : Int × Int :=
  if inB 1 8192 w = true ∧ inB 1 8192 h = true ∧ 1 ≤ s ∧ s ≤ 65536 ∧ slotsOf d ≠ 0 then
    if w * h ≤ 65536 ∧ w * h * s ≤ 4194304 ∧ w * h * s * slotsOf d ≤ 4194304 then (w * h * s * slotsOf d, 0) else (0, 4)
  else (0, 12)
theorem prod_le {a b A B : Int} (a0 : 0 ≤ a) (a1 : a ≤ A) (b0 : 0 ≤ b) (b1 : b ≤ B) : 0 ≤ a * b ∧ a * b ≤ A * B :=
  ⟨Int.mul_nonneg a0 b0, Int.mul_le_mul a1 b1 b0 (Int.le_trans a0 a1)⟩
theorem need_any (w h s d r1 r2 : Int) (W : World) (hv : needVal w h s d = (r1, r2)) : Calls Try.prog 16 #[.int .i64 w, .int .i64 h, .int .i64 s, .int .i64 d] W fun e w' => e = .returned (.tuple #[.int .i64 r1, .int .i64 r2]) ∧ Below W.heap.size W w' := by
  unfold needVal at hv
  by_cases c : inB 1 8192 w = true ∧ inB 1 8192 h = true ∧ 1 ≤ s ∧ s ≤ 65536 ∧ slotsOf d ≠ 0
  · rw [if_pos c] at hv
    obtain ⟨h1, h2, h3, h4, h5⟩ := c
    have g1 := inB_true h1
    have g2 := inB_true h2
    have h5' : (slotsOf d == 0) = false := beq_eq_false_iff_ne.mpr h5
    have p1 := prod_le (by omega) g1.2 (by omega) g2.2
    have p2 := prod_le p1.1 p1.2 (by omega) h4
    have p3 := prod_le p2.1 p2.2 (slotsOf_le d).1 (slotsOf_le d).2
    by_cases e1 : w * h ≤ 65536
    · by_cases e2 : w * h * s ≤ 4194304
      · by_cases e3 : w * h * s * slotsOf d ≤ 4194304
        · rw [if_pos ⟨e1, e2, e3⟩] at hv
          obtain ⟨rfl, rfl⟩ := Prod.mk.inj hv
          exact need_ok w h s d W h1 h2 h3 h4 h5' p1.1 (by omega) p2.1 (by omega) p3.1 (by omega) e1 e2 e3
        · rw [if_neg (fun z => e3 z.2.2)] at hv
          obtain ⟨rfl, rfl⟩ := Prod.mk.inj hv
          exact need_b3 w h s d W h1 h2 h3 h4 h5' p1.1 (by omega) p2.1 (by omega) p3.1 (by omega) e1 e2 (by omega)
      · rw [if_neg (fun z => e2 z.2.1)] at hv
        obtain ⟨rfl, rfl⟩ := Prod.mk.inj hv
        exact need_b2 w h s d W h1 h2 h3 h4 h5' p1.1 (by omega) p2.1 (by omega) e1 (by omega)
    · rw [if_neg (fun z => e1 z.1)] at hv
      obtain ⟨rfl, rfl⟩ := Prod.mk.inj hv
      exact need_b1 w h s d W h1 h2 h3 h4 h5' p1.1 (by omega) (by omega)
  · rw [if_neg c] at hv
    obtain ⟨rfl, rfl⟩ := Prod.mk.inj hv
    cases c1 : inB 1 8192 w with
    | false => exact need_w w h s d W c1
    | true =>
      cases c2 : inB 1 8192 h with
      | false => exact need_h w h s d W c1 c2
      | true =>
        by_cases c3 : s < 1
        · exact need_s1 w h s d W c1 c2 c3
        · by_cases c4 : 65536 < s
          · exact need_s2 w h s d W c1 c2 (by omega) c4
          · exact need_d w h s d W c1 c2 (by omega) (by omega) (beq_iff_eq.mpr (Decidable.byContradiction fun z => c ⟨c1, c2, by omega, by omega, z⟩))
set_option maxHeartbeats 2000000 in
theorem slot_0 (w p d x y s k : Int) (W : World) (h0 : (slotsOf d == 0) = true) : Calls Try.prog 20 #[.int .i64 w, .int .i64 p, .int .i64 d, .int .i64 x, .int .i64 y, .int .i64 s, .int .i64 k] W fun e w' => e = .returned (.int .i64 (-1)) ∧ Below W.heap.size W w' := by
  go_enter Try.func20, Try.ntmps20
  go_wp2_with (first
    | (go_at_call 21; (with_reducible refine (within_any 0 8192 _).mono ?_); rintro e w1 ⟨pa, pb, rfl, ha, hb, hB1⟩; have HA := Aside0.mk ha; have HB := Aside0.mk hb; clear ha hb)
    | (go_at_call 21; (with_reducible refine (within_any 0 65536 _).mono ?_); rintro e w2 ⟨pc, pd, rfl, hc, hd, hB2⟩; have HC := Aside0.mk hc; have HD := Aside0.mk hd; have HA2 := Aside0.mk (pw_cell_below hB2 HA.out); have HB2 := Aside0.mk (pw_cell_below hB2 HB.out); clear hc hd)
    | (go_at_call 21; (with_reducible refine (within_any 0 516 _).mono ?_); rintro e w3 ⟨pe, pf, rfl, he, hf, hB3⟩; have HE := Aside0.mk he; have HF := Aside0.mk hf; have HA3 := Aside0.mk (pw_cell_below hB3 HA2.out); have HB3 := Aside0.mk (pw_cell_below hB3 HB2.out); have HC3 := Aside0.mk (pw_cell_below hB3 HC.out); have HD3 := Aside0.mk (pw_cell_below hB3 HD.out); clear he hf)
    | (go_at_call 22; (with_reducible refine (withinc_any 0 8192 _ pa pb w3 HA3.out HB3.out).mono ?_); rintro e w' ⟨rfl, rfl⟩)
    | (go_at_call 22; (with_reducible refine (withinc_any 0 65536 _ pc pd w3 HC3.out HD3.out).mono ?_); rintro e w' ⟨rfl, rfl⟩)
    | (go_at_call 22; (with_reducible refine (withinc_any 0 516 _ pe pf w3 HE.out HF.out).mono ?_); rintro e w' ⟨rfl, rfl⟩)
    | (go_at_call 18; refine (slots_any _ _).mono ?_; rintro e w' ⟨rfl, rfl⟩))
  go_ret
  exact ⟨rfl, below_thru (below_thru hB1 hB2) hB3⟩
set_option maxHeartbeats 2000000 in
theorem slot_1 (w p d x y s k : Int) (W : World) (h0 : (slotsOf d == 0) = false) (h1 : inB 0 8192 w = false) : Calls Try.prog 20 #[.int .i64 w, .int .i64 p, .int .i64 d, .int .i64 x, .int .i64 y, .int .i64 s, .int .i64 k] W fun e w' => e = .returned (.int .i64 (-1)) ∧ Below W.heap.size W w' := by
  go_enter Try.func20, Try.ntmps20
  go_wp2_with (first
    | (go_at_call 21; (with_reducible refine (within_any 0 8192 _).mono ?_); rintro e w1 ⟨pa, pb, rfl, ha, hb, hB1⟩; have HA := Aside0.mk ha; have HB := Aside0.mk hb; clear ha hb)
    | (go_at_call 21; (with_reducible refine (within_any 0 65536 _).mono ?_); rintro e w2 ⟨pc, pd, rfl, hc, hd, hB2⟩; have HC := Aside0.mk hc; have HD := Aside0.mk hd; have HA2 := Aside0.mk (pw_cell_below hB2 HA.out); have HB2 := Aside0.mk (pw_cell_below hB2 HB.out); clear hc hd)
    | (go_at_call 21; (with_reducible refine (within_any 0 516 _).mono ?_); rintro e w3 ⟨pe, pf, rfl, he, hf, hB3⟩; have HE := Aside0.mk he; have HF := Aside0.mk hf; have HA3 := Aside0.mk (pw_cell_below hB3 HA2.out); have HB3 := Aside0.mk (pw_cell_below hB3 HB2.out); have HC3 := Aside0.mk (pw_cell_below hB3 HC.out); have HD3 := Aside0.mk (pw_cell_below hB3 HD.out); clear he hf)
    | (go_at_call 22; (with_reducible refine (withinc_any 0 8192 _ pa pb w3 HA3.out HB3.out).mono ?_); rintro e w' ⟨rfl, rfl⟩)
    | (go_at_call 22; (with_reducible refine (withinc_any 0 65536 _ pc pd w3 HC3.out HD3.out).mono ?_); rintro e w' ⟨rfl, rfl⟩)
    | (go_at_call 22; (with_reducible refine (withinc_any 0 516 _ pe pf w3 HE.out HF.out).mono ?_); rintro e w' ⟨rfl, rfl⟩)
    | (go_at_call 18; refine (slots_any _ _).mono ?_; rintro e w' ⟨rfl, rfl⟩))
  go_ret
  exact ⟨rfl, below_thru (below_thru hB1 hB2) hB3⟩
set_option maxHeartbeats 2000000 in
theorem slot_2 (w p d x y s k : Int) (W : World) (h0 : (slotsOf d == 0) = false) (h1 : inB 0 8192 w = true) (h2 : inB 0 8192 x = false) : Calls Try.prog 20 #[.int .i64 w, .int .i64 p, .int .i64 d, .int .i64 x, .int .i64 y, .int .i64 s, .int .i64 k] W fun e w' => e = .returned (.int .i64 (-1)) ∧ Below W.heap.size W w' := by
  go_enter Try.func20, Try.ntmps20
  go_wp2_with (first
    | (go_at_call 21; (with_reducible refine (within_any 0 8192 _).mono ?_); rintro e w1 ⟨pa, pb, rfl, ha, hb, hB1⟩; have HA := Aside0.mk ha; have HB := Aside0.mk hb; clear ha hb)
    | (go_at_call 21; (with_reducible refine (within_any 0 65536 _).mono ?_); rintro e w2 ⟨pc, pd, rfl, hc, hd, hB2⟩; have HC := Aside0.mk hc; have HD := Aside0.mk hd; have HA2 := Aside0.mk (pw_cell_below hB2 HA.out); have HB2 := Aside0.mk (pw_cell_below hB2 HB.out); clear hc hd)
    | (go_at_call 21; (with_reducible refine (within_any 0 516 _).mono ?_); rintro e w3 ⟨pe, pf, rfl, he, hf, hB3⟩; have HE := Aside0.mk he; have HF := Aside0.mk hf; have HA3 := Aside0.mk (pw_cell_below hB3 HA2.out); have HB3 := Aside0.mk (pw_cell_below hB3 HB2.out); have HC3 := Aside0.mk (pw_cell_below hB3 HC.out); have HD3 := Aside0.mk (pw_cell_below hB3 HD.out); clear he hf)
    | (go_at_call 22; (with_reducible refine (withinc_any 0 8192 _ pa pb w3 HA3.out HB3.out).mono ?_); rintro e w' ⟨rfl, rfl⟩)
    | (go_at_call 22; (with_reducible refine (withinc_any 0 65536 _ pc pd w3 HC3.out HD3.out).mono ?_); rintro e w' ⟨rfl, rfl⟩)
    | (go_at_call 22; (with_reducible refine (withinc_any 0 516 _ pe pf w3 HE.out HF.out).mono ?_); rintro e w' ⟨rfl, rfl⟩)
    | (go_at_call 18; refine (slots_any _ _).mono ?_; rintro e w' ⟨rfl, rfl⟩))
  go_ret
  exact ⟨rfl, below_thru (below_thru hB1 hB2) hB3⟩
set_option maxHeartbeats 2000000 in
theorem slot_3 (w p d x y s k : Int) (W : World) (h0 : (slotsOf d == 0) = false) (h1 : inB 0 8192 w = true) (h2 : inB 0 8192 x = true) (h3 : inB 0 8192 y = false) : Calls Try.prog 20 #[.int .i64 w, .int .i64 p, .int .i64 d, .int .i64 x, .int .i64 y, .int .i64 s, .int .i64 k] W fun e w' => e = .returned (.int .i64 (-1)) ∧ Below W.heap.size W w' := by
  go_enter Try.func20, Try.ntmps20
  go_wp2_with (first
    | (go_at_call 21; (with_reducible refine (within_any 0 8192 _).mono ?_); rintro e w1 ⟨pa, pb, rfl, ha, hb, hB1⟩; have HA := Aside0.mk ha; have HB := Aside0.mk hb; clear ha hb)
    | (go_at_call 21; (with_reducible refine (within_any 0 65536 _).mono ?_); rintro e w2 ⟨pc, pd, rfl, hc, hd, hB2⟩; have HC := Aside0.mk hc; have HD := Aside0.mk hd; have HA2 := Aside0.mk (pw_cell_below hB2 HA.out); have HB2 := Aside0.mk (pw_cell_below hB2 HB.out); clear hc hd)
    | (go_at_call 21; (with_reducible refine (within_any 0 516 _).mono ?_); rintro e w3 ⟨pe, pf, rfl, he, hf, hB3⟩; have HE := Aside0.mk he; have HF := Aside0.mk hf; have HA3 := Aside0.mk (pw_cell_below hB3 HA2.out); have HB3 := Aside0.mk (pw_cell_below hB3 HB2.out); have HC3 := Aside0.mk (pw_cell_below hB3 HC.out); have HD3 := Aside0.mk (pw_cell_below hB3 HD.out); clear he hf)
    | (go_at_call 22; (with_reducible refine (withinc_any 0 8192 _ pa pb w3 HA3.out HB3.out).mono ?_); rintro e w' ⟨rfl, rfl⟩)
    | (go_at_call 22; (with_reducible refine (withinc_any 0 65536 _ pc pd w3 HC3.out HD3.out).mono ?_); rintro e w' ⟨rfl, rfl⟩)
    | (go_at_call 22; (with_reducible refine (withinc_any 0 516 _ pe pf w3 HE.out HF.out).mono ?_); rintro e w' ⟨rfl, rfl⟩)
    | (go_at_call 18; refine (slots_any _ _).mono ?_; rintro e w' ⟨rfl, rfl⟩))
  go_ret
  exact ⟨rfl, below_thru (below_thru hB1 hB2) hB3⟩
set_option maxHeartbeats 2000000 in
theorem slot_4 (w p d x y s k : Int) (W : World) (h0 : (slotsOf d == 0) = false) (h1 : inB 0 8192 w = true) (h2 : inB 0 8192 x = true) (h3 : inB 0 8192 y = true) (h4 : inB 0 65536 p = false) : Calls Try.prog 20 #[.int .i64 w, .int .i64 p, .int .i64 d, .int .i64 x, .int .i64 y, .int .i64 s, .int .i64 k] W fun e w' => e = .returned (.int .i64 (-1)) ∧ Below W.heap.size W w' := by
  go_enter Try.func20, Try.ntmps20
  go_wp2_with (first
    | (go_at_call 21; (with_reducible refine (within_any 0 8192 _).mono ?_); rintro e w1 ⟨pa, pb, rfl, ha, hb, hB1⟩; have HA := Aside0.mk ha; have HB := Aside0.mk hb; clear ha hb)
    | (go_at_call 21; (with_reducible refine (within_any 0 65536 _).mono ?_); rintro e w2 ⟨pc, pd, rfl, hc, hd, hB2⟩; have HC := Aside0.mk hc; have HD := Aside0.mk hd; have HA2 := Aside0.mk (pw_cell_below hB2 HA.out); have HB2 := Aside0.mk (pw_cell_below hB2 HB.out); clear hc hd)
    | (go_at_call 21; (with_reducible refine (within_any 0 516 _).mono ?_); rintro e w3 ⟨pe, pf, rfl, he, hf, hB3⟩; have HE := Aside0.mk he; have HF := Aside0.mk hf; have HA3 := Aside0.mk (pw_cell_below hB3 HA2.out); have HB3 := Aside0.mk (pw_cell_below hB3 HB2.out); have HC3 := Aside0.mk (pw_cell_below hB3 HC.out); have HD3 := Aside0.mk (pw_cell_below hB3 HD.out); clear he hf)
    | (go_at_call 22; (with_reducible refine (withinc_any 0 8192 _ pa pb w3 HA3.out HB3.out).mono ?_); rintro e w' ⟨rfl, rfl⟩)
    | (go_at_call 22; (with_reducible refine (withinc_any 0 65536 _ pc pd w3 HC3.out HD3.out).mono ?_); rintro e w' ⟨rfl, rfl⟩)
    | (go_at_call 22; (with_reducible refine (withinc_any 0 516 _ pe pf w3 HE.out HF.out).mono ?_); rintro e w' ⟨rfl, rfl⟩)
    | (go_at_call 18; refine (slots_any _ _).mono ?_; rintro e w' ⟨rfl, rfl⟩))
  go_ret
  exact ⟨rfl, below_thru (below_thru hB1 hB2) hB3⟩
set_option maxHeartbeats 2000000 in
theorem slot_5 (w p d x y s k : Int) (W : World) (h0 : (slotsOf d == 0) = false) (h1 : inB 0 8192 w = true) (h2 : inB 0 8192 x = true) (h3 : inB 0 8192 y = true) (h4 : inB 0 65536 p = true) (h5 : inB 0 65536 s = false) : Calls Try.prog 20 #[.int .i64 w, .int .i64 p, .int .i64 d, .int .i64 x, .int .i64 y, .int .i64 s, .int .i64 k] W fun e w' => e = .returned (.int .i64 (-1)) ∧ Below W.heap.size W w' := by
  go_enter Try.func20, Try.ntmps20
  go_wp2_with (first
    | (go_at_call 21; (with_reducible refine (within_any 0 8192 _).mono ?_); rintro e w1 ⟨pa, pb, rfl, ha, hb, hB1⟩; have HA := Aside0.mk ha; have HB := Aside0.mk hb; clear ha hb)
    | (go_at_call 21; (with_reducible refine (within_any 0 65536 _).mono ?_); rintro e w2 ⟨pc, pd, rfl, hc, hd, hB2⟩; have HC := Aside0.mk hc; have HD := Aside0.mk hd; have HA2 := Aside0.mk (pw_cell_below hB2 HA.out); have HB2 := Aside0.mk (pw_cell_below hB2 HB.out); clear hc hd)
    | (go_at_call 21; (with_reducible refine (within_any 0 516 _).mono ?_); rintro e w3 ⟨pe, pf, rfl, he, hf, hB3⟩; have HE := Aside0.mk he; have HF := Aside0.mk hf; have HA3 := Aside0.mk (pw_cell_below hB3 HA2.out); have HB3 := Aside0.mk (pw_cell_below hB3 HB2.out); have HC3 := Aside0.mk (pw_cell_below hB3 HC.out); have HD3 := Aside0.mk (pw_cell_below hB3 HD.out); clear he hf)
    | (go_at_call 22; (with_reducible refine (withinc_any 0 8192 _ pa pb w3 HA3.out HB3.out).mono ?_); rintro e w' ⟨rfl, rfl⟩)
    | (go_at_call 22; (with_reducible refine (withinc_any 0 65536 _ pc pd w3 HC3.out HD3.out).mono ?_); rintro e w' ⟨rfl, rfl⟩)
    | (go_at_call 22; (with_reducible refine (withinc_any 0 516 _ pe pf w3 HE.out HF.out).mono ?_); rintro e w' ⟨rfl, rfl⟩)
    | (go_at_call 18; refine (slots_any _ _).mono ?_; rintro e w' ⟨rfl, rfl⟩))
  go_ret
  exact ⟨rfl, below_thru (below_thru hB1 hB2) hB3⟩
set_option maxHeartbeats 2000000 in
theorem slot_6 (w p d x y s k : Int) (W : World) (h0 : (slotsOf d == 0) = false) (h1 : inB 0 8192 w = true) (h2 : inB 0 8192 x = true) (h3 : inB 0 8192 y = true) (h4 : inB 0 65536 p = true) (h5 : inB 0 65536 s = true) (h6 : inB 0 516 k = false) : Calls Try.prog 20 #[.int .i64 w, .int .i64 p, .int .i64 d, .int .i64 x, .int .i64 y, .int .i64 s, .int .i64 k] W fun e w' => e = .returned (.int .i64 (-1)) ∧ Below W.heap.size W w' := by
  go_enter Try.func20, Try.ntmps20
  go_wp2_with (first
    | (go_at_call 21; (with_reducible refine (within_any 0 8192 _).mono ?_); rintro e w1 ⟨pa, pb, rfl, ha, hb, hB1⟩; have HA := Aside0.mk ha; have HB := Aside0.mk hb; clear ha hb)
    | (go_at_call 21; (with_reducible refine (within_any 0 65536 _).mono ?_); rintro e w2 ⟨pc, pd, rfl, hc, hd, hB2⟩; have HC := Aside0.mk hc; have HD := Aside0.mk hd; have HA2 := Aside0.mk (pw_cell_below hB2 HA.out); have HB2 := Aside0.mk (pw_cell_below hB2 HB.out); clear hc hd)
    | (go_at_call 21; (with_reducible refine (within_any 0 516 _).mono ?_); rintro e w3 ⟨pe, pf, rfl, he, hf, hB3⟩; have HE := Aside0.mk he; have HF := Aside0.mk hf; have HA3 := Aside0.mk (pw_cell_below hB3 HA2.out); have HB3 := Aside0.mk (pw_cell_below hB3 HB2.out); have HC3 := Aside0.mk (pw_cell_below hB3 HC.out); have HD3 := Aside0.mk (pw_cell_below hB3 HD.out); clear he hf)
    | (go_at_call 22; (with_reducible refine (withinc_any 0 8192 _ pa pb w3 HA3.out HB3.out).mono ?_); rintro e w' ⟨rfl, rfl⟩)
    | (go_at_call 22; (with_reducible refine (withinc_any 0 65536 _ pc pd w3 HC3.out HD3.out).mono ?_); rintro e w' ⟨rfl, rfl⟩)
    | (go_at_call 22; (with_reducible refine (withinc_any 0 516 _ pe pf w3 HE.out HF.out).mono ?_); rintro e w' ⟨rfl, rfl⟩)
    | (go_at_call 18; refine (slots_any _ _).mono ?_; rintro e w' ⟨rfl, rfl⟩))
  go_ret
  exact ⟨rfl, below_thru (below_thru hB1 hB2) hB3⟩
set_option maxHeartbeats 2000000 in
theorem slot_ok (w p d x y s k : Int) (W : World) (h0 : (slotsOf d == 0) = false) (h1 : inB 0 8192 w = true) (h2 : inB 0 8192 x = true) (h3 : inB 0 8192 y = true) (h4 : inB 0 65536 p = true) (h5 : inB 0 65536 s = true) (h6 : inB 0 516 k = true) (x1 : 0 ≤ y * w) (x2 : y * w ≤ 67108864) (x0 : 0 ≤ x) (x00 : x ≤ 8192) (x3 : 0 ≤ (y * w + x) * p) (x4 : (y * w + x) * p ≤ 4398583382016) (s0 : 0 ≤ s) (s1 : s ≤ 65536) (x5 : 0 ≤ ((y * w + x) * p + s) * slotsOf d) (x6 : ((y * w + x) * p + s) * slotsOf d ≤ 2304892033037248) (k0 : 0 ≤ k) (k1 : k ≤ 516) : Calls Try.prog 20 #[.int .i64 w, .int .i64 p, .int .i64 d, .int .i64 x, .int .i64 y, .int .i64 s, .int .i64 k] W fun e w' => e = .returned (.int .i64 (((y * w + x) * p + s) * slotsOf d + k)) ∧ Below W.heap.size W w' := by
  go_enter Try.func20, Try.ntmps20
  go_wp2_with (first
    | (go_at_call 21; (with_reducible refine (within_any 0 8192 _).mono ?_); rintro e w1 ⟨pa, pb, rfl, ha, hb, hB1⟩; have HA := Aside0.mk ha; have HB := Aside0.mk hb; clear ha hb)
    | (go_at_call 21; (with_reducible refine (within_any 0 65536 _).mono ?_); rintro e w2 ⟨pc, pd, rfl, hc, hd, hB2⟩; have HC := Aside0.mk hc; have HD := Aside0.mk hd; have HA2 := Aside0.mk (pw_cell_below hB2 HA.out); have HB2 := Aside0.mk (pw_cell_below hB2 HB.out); clear hc hd)
    | (go_at_call 21; (with_reducible refine (within_any 0 516 _).mono ?_); rintro e w3 ⟨pe, pf, rfl, he, hf, hB3⟩; have HE := Aside0.mk he; have HF := Aside0.mk hf; have HA3 := Aside0.mk (pw_cell_below hB3 HA2.out); have HB3 := Aside0.mk (pw_cell_below hB3 HB2.out); have HC3 := Aside0.mk (pw_cell_below hB3 HC.out); have HD3 := Aside0.mk (pw_cell_below hB3 HD.out); clear he hf)
    | (go_at_call 22; (with_reducible refine (withinc_any 0 8192 _ pa pb w3 HA3.out HB3.out).mono ?_); rintro e w' ⟨rfl, rfl⟩)
    | (go_at_call 22; (with_reducible refine (withinc_any 0 65536 _ pc pd w3 HC3.out HD3.out).mono ?_); rintro e w' ⟨rfl, rfl⟩)
    | (go_at_call 22; (with_reducible refine (withinc_any 0 516 _ pe pf w3 HE.out HF.out).mono ?_); rintro e w' ⟨rfl, rfl⟩)
    | (go_at_call 18; refine (slots_any _ _).mono ?_; rintro e w' ⟨rfl, rfl⟩))
  go_ret
  exact ⟨rfl, below_thru (below_thru hB1 hB2) hB3⟩
def slotVal (w p d x y s k : Int) : Int :=
  if slotsOf d ≠ 0 ∧ inB 0 8192 w = true ∧ inB 0 8192 x = true ∧ inB 0 8192 y = true ∧ inB 0 65536 p = true ∧ inB 0 65536 s = true ∧ inB 0 516 k = true then ((y * w + x) * p + s) * slotsOf d + k else -1
theorem slot_any (w p d x y s k r : Int) (W : World) (hv : slotVal w p d x y s k = r) : Calls Try.prog 20 #[.int .i64 w, .int .i64 p, .int .i64 d, .int .i64 x, .int .i64 y, .int .i64 s, .int .i64 k] W fun e w' => e = .returned (.int .i64 r) ∧ Below W.heap.size W w' := by
  unfold slotVal at hv
  by_cases c : slotsOf d ≠ 0 ∧ inB 0 8192 w = true ∧ inB 0 8192 x = true ∧ inB 0 8192 y = true ∧ inB 0 65536 p = true ∧ inB 0 65536 s = true ∧ inB 0 516 k = true
  · rw [if_pos c] at hv
    subst hv
    obtain ⟨h0, h1, h2, h3, h4, h5, h6⟩ := c
    have g1 := inB_true h1
    have g2 := inB_true h2
    have g3 := inB_true h3
    have g4 := inB_true h4
    have g5 := inB_true h5
    have g6 := inB_true h6
    have p1 := prod_le g3.1 g3.2 g1.1 g1.2
    have p2 := prod_le (a := y * w + x) (A := 67117056) (by omega) (by omega) g4.1 g4.2
    have p3 := prod_le (a := (y * w + x) * p + s) (A := 4398583447552) (by omega) (by omega) (slotsOf_le d).1 (slotsOf_le d).2
    exact slot_ok w p d x y s k W (beq_eq_false_iff_ne.mpr h0) h1 h2 h3 h4 h5 h6 p1.1 (by omega) g2.1 g2.2 p2.1 (by omega) g5.1 g5.2 p3.1 (by omega) g6.1 g6.2
  · rw [if_neg c] at hv
    subst hv
    by_cases h0 : slotsOf d = 0
    · exact slot_0 w p d x y s k W (beq_iff_eq.mpr h0)
    · have h0' : (slotsOf d == 0) = false := beq_eq_false_iff_ne.mpr h0
      cases h1 : inB 0 8192 w with
      | false => exact slot_1 w p d x y s k W h0' h1
      | true =>
        cases h2 : inB 0 8192 x with
        | false => exact slot_2 w p d x y s k W h0' h1 h2
        | true =>
          cases h3 : inB 0 8192 y with
          | false => exact slot_3 w p d x y s k W h0' h1 h2 h3
          | true =>
            cases h4 : inB 0 65536 p with
            | false => exact slot_4 w p d x y s k W h0' h1 h2 h3 h4
            | true =>
              cases h5 : inB 0 65536 s with
              | false => exact slot_5 w p d x y s k W h0' h1 h2 h3 h4 h5
              | true =>
                cases h6 : inB 0 516 k with
                | false => exact slot_6 w p d x y s k W h0' h1 h2 h3 h4 h5 h6
                | true => exact absurd ⟨h0, h1, h2, h3, h4, h5, h6⟩ c
end Go.Proofs.Ytedifkidnpaejaa.Gv
