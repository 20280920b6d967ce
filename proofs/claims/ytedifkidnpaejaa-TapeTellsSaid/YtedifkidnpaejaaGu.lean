/- The statement TapeTells, walked. -/
import Derived.Test.YtedifkidnpaejaaGr
import Derived.Deep.RegionHeld3
import Derived.Deep.LoopGhost
import Derived.Deep.Draws
namespace Go.Proofs.Ytedifkidnpaejaa.Gv
open Go.RowKit Go.Proofs.YtedifkidnpaejaaW.PrintWords Go.Proofs.YtedifkidnpaejaaW.PrintLast

theorem rat_any (A : Option Addr) (c : Nat) (xs : List Nat) (i : Int) (w : World) (hr : FK.C w A xs.length xs) (hl : xs.length ≤ 1000000) :
    Calls Try.prog 9 #[.slice A xs.length c, .int .i64 i] w fun e w' => e = .returned (.float .f64 (atF xs i)) ∧ w = w' := by
  by_cases h0 : i < 0
  · have H := Aside0.mk (show atF xs i = 0 from if_neg (by omega))
    clear hr
    go_enter Try.func9, Try.ntmps9
    go_wp2
    go_ret
    exact ⟨ret_f H.out.symm, rfl⟩
  · have h0' : 0 ≤ i := by omega
    clear h0
    by_cases h1 : i < (xs.length : Int)
    · have H := Aside0.mk (show atF xs i = cleanR (xs.getD i.toNat 0) from by unfold atF; rw [if_pos ⟨h0', h1⟩, clean_same])
      obtain ⟨ad, rfl, hx⟩ : ∃ ad, A = some ad ∧ w.cell? (ad.add i.toNat) = some (.float .f64 (xs.getD i.toNat 0)) := by
        have h := Kd.reads_of_C (enc := Value.float .f64) (d := (0 : Nat)) (h1 := fun _ => rfl) hr
        obtain ⟨ad, e, hc⟩ := h.2.2 (by omega)
        exact ⟨ad, e, hc _ (by omega)⟩
      have HR := Aside0.mk (fun w => rclean_any (xs.getD i.toNat 0) w)
      generalize xs.getD i.toNat 0 = x at *
      clear hr
      go_enter Try.func9, Try.ntmps9
      go_wp2_with (go_at_call 15; refine (show Calls _ _ _ _ _ from HR.out _).mono ?_; rintro e w' ⟨rfl, hw⟩; subst hw)
      go_ret
      exact ⟨ret_f H.out.symm, rfl⟩
    · have H := Aside0.mk (show atF xs i = 0 from if_neg (by omega))
      have h2 : (xs.length : Int) ≤ i := by omega
      clear hr h1
      go_enter Try.func9, Try.ntmps9
      go_wp2
      go_ret
      exact ⟨ret_f H.out.symm, rfl⟩
def hiOf (a b : Int) : Int := if b < a then a else b
theorem high_any (a b : Int) (w : World) : Calls Try.prog 10 #[.int .i64 a, .int .i64 b] w fun e w' => e = .returned (.int .i64 (hiOf a b)) ∧ w = w' := by
  by_cases h : b < a
  · have H := Aside0.mk (show hiOf a b = a from if_pos h)
    go_enter Try.func10, Try.ntmps10
    go_wp2
    go_ret
    exact ⟨ret_i H.out.symm, rfl⟩
  · have H := Aside0.mk (show hiOf a b = b from if_neg h)
    have h2 : a ≤ b := by omega
    clear h
    go_enter Try.func10, Try.ntmps10
    go_wp2
    go_ret
    exact ⟨ret_i H.out.symm, rfl⟩
theorem atF_self (xs : List Nat) (i : Int) : feq (atF xs i) (atF xs i) = true := by
  unfold atF
  split
  · exact (clean_facts _).2.2.1
  · exact zero_one.1
theorem cell_later' {w w1 : World} (hb : Below w.heap.size w w1) {a : Addr} {v : Value} (hc : w.cell? a = some v) : w1.cell? a = some v := pw_cell_below hb hc
theorem int_at {w : World} {A : Option Addr} {n : Nat} {xs : List Int} (h : ReadsInt w .i64 A n xs) (k : Nat) (hk : k < n) : ∃ ad, A = some ad ∧ w.cell? (ad.add k) = some (.int .i64 (xs.getD k 0)) := by
  obtain ⟨ad, e, hc⟩ := h.2.2 (by omega)
  exact ⟨ad, e, hc k hk⟩
set_option maxHeartbeats 4000000 in
theorem tells_fit (A : Option Addr) (c : Nat) (ys : List Nat) (B : Option Addr) (cb : Nat) (at_ : List Int) (w : World) (hr : FK.C w A ys.length ys) (hl : ys.length ≤ 100) (hb : ReadsInt w .i64 B at_.length at_) :
    Calls Try.prog 3 #[.slice A ys.length c, .slice B at_.length cb] w fun e w' => e = .returned (.bool true) ∧ Below w.heap.size w w' := by
  have HR := Aside0.mk hr
  have HA := Aside0.mk hb
  have hal := hb.2.1
  have o0 : ((ys.length : Int) == (ys.length : Int)) = true := beq_self_eq_true _
  clear hr hb
  go_enter Try.func3, Try.ntmps3
  go_wp2_with (first
    | (go_at_call 7; refine (over_any A c ys _ HR.out (by omega)).mono ?_; rintro e w1 ⟨b, rfl, hT1, hb0, hb00, hB1⟩; have T1 := Aside0.mk hT1; have HB1 := Aside0.mk hB1; clear hT1 hB1))
  go_loopw [6, 7] (fun r i wr => ∃ (k : Nat) (q : Int), k ≤ at_.length ∧ i = .int .i64 k ∧ r = .int .i64 q ∧ -4611686018427387904 ≤ q ∧ q ≤ 4611686018427387904 ∧ Aside0 (Tape wr w.heap.size b ys q) ∧ Aside0 (Below w.heap.size w wr)) (fun _ i _ => at_.length - (intOf i).toNat)
  case atStart => exact ⟨0, 0, Nat.zero_le _, rfl, rfl, by omega, by omega, T1, HB1⟩
  case round =>
    obtain ⟨k, q, hk, rfl, rfl, hq0, hq1, T, HB⟩ := hrel
    by_cases hlt : k < at_.length ∧ k < 60
    · obtain ⟨hlt1, hlt2⟩ := hlt
      obtain ⟨ad, rfl, hx⟩ := int_at HA.out k hlt1
      have hx1 := cell_later' HB.out hx
      have hs := atF_self ys (at_.getD k 0)
      generalize hxx : at_.getD k 0 = x at *
      have z0 : (0 : Int) ≤ k := by omega
      have z1 : (k : Int) < at_.length := by omega
      obtain ⟨v, hv⟩ : ∃ v, atF ys x = v := ⟨_, rfl⟩
      obtain ⟨q2, hq2⟩ : ∃ q2, readTo q x = q2 := ⟨_, rfl⟩
      rw [hv] at hs
      have HV := Aside0.mk hv
      have HQ := Aside0.mk hq2
      have g0 : (FloatKind.f64.format.order v v != some .eq) = false := by unfold feq at hs; unfold bne; rw [hs]; rfl
      have hbw : w.heap.size ≤ b := hb0
      clear hv hs hxx hq2
      by_cases c0 : x < 0
      · have HQ2 := Aside0.mk (show q2 = q from by rw [← HQ.out]; unfold readTo; rw [if_neg (by omega)])
        have hqq : (q2 != q) = false := by rw [HQ2.out]; simp
        go_wp2
        go_region_held3 (fun w' => w'.cell? (ad.add k) = some (.int .i64 x)) (first | (go_keep; done) | exact cell_later' HB5.out hx)
          (first | (go_at_call 8; refine (tape_at' w.heap.size b ys q x v q2 _ ?ht HV.out HQ.out).mono ?_; (case ht => first | exact T.out.below (below_drew (Below.refl _ _)) | exact T.out); rintro e w5 ⟨rfl, hT5, hG5⟩; have HB5 := Aside0.mk (grown_below (below_drew HB.out) hG5 hbw); have T5 := Aside0.mk hT5; clear hT5 hG5) | (go_at_call 9; refine (rat_any A c ys x _ ?hc (by omega)).mono ?_; (case hc => first | exact Kd.C_below HR.out HB5.out | exact Kd.C_below HR.out (below_drew HB.out)); rintro e w' ⟨hz, rfl⟩; rw [HV.out] at hz; subst hz))
        all_goals
            obtain ⟨A6, c6, h6, _⟩ := T5.out.row
            have T6 := Aside0.mk h6
            clear h6
            go_wp2_with (first
              | (go_at_call 12; refine (tape_read b _ q2 w5 T6.out).mono ?_; rintro e w' ⟨rfl, rfl⟩))
            go_roundw
            case rel => exact ⟨k + 1, q, by omega, by go_num, rfl, by omega, by omega, ⟨by rw [← HQ2.out]; exact T5.out⟩, HB5⟩
            case measure => simp [intOf]; omega
      · have c0' : 0 ≤ x := by omega
        clear c0
        by_cases c1 : x < 4611686018427387904
        · have HQ2 := Aside0.mk (show q2 = hiOf q (x + 1) from by
            rw [← HQ.out]; unfold readTo hiOf; rw [if_pos c0']
            by_cases cc : q ≤ x
            · rw [if_pos cc, if_neg (by omega)]; unfold wrap64; omega
            · rw [if_neg cc]; split <;> omega)
          have hqq : (q2 != hiOf q (x + 1)) = false := by rw [HQ2.out]; simp
          have hh : -4611686018427387904 ≤ hiOf q (x + 1) ∧ hiOf q (x + 1) ≤ 4611686018427387904 := by unfold hiOf; split <;> omega
          have hh0 := hh.1
          have hh1 := hh.2
          clear hh
          go_wp2
          go_region_held3 (fun w' => w'.cell? (ad.add k) = some (.int .i64 x)) (first | (go_keep; done) | exact cell_later' HB5.out hx)
            (first | (go_at_call 8; refine (tape_at' w.heap.size b ys q x v q2 _ ?ht HV.out HQ.out).mono ?_; (case ht => first | exact T.out.below (below_drew (Below.refl _ _)) | exact T.out); rintro e w5 ⟨rfl, hT5, hG5⟩; have HB5 := Aside0.mk (grown_below (below_drew HB.out) hG5 hbw); have T5 := Aside0.mk hT5; clear hT5 hG5) | (go_at_call 9; refine (rat_any A c ys x _ ?hc (by omega)).mono ?_; (case hc => first | exact Kd.C_below HR.out HB5.out | exact Kd.C_below HR.out (below_drew HB.out)); rintro e w' ⟨hz, rfl⟩; rw [HV.out] at hz; subst hz))
          all_goals
            obtain ⟨A6, c6, h6, _⟩ := T5.out.row
            have T6 := Aside0.mk h6
            clear h6
            go_wp2_with (first
              | (go_at_call 10; refine (high_any q (x + 1) _).mono ?_; rintro e w' ⟨rfl, rfl⟩)
              | (go_at_call 12; refine (tape_read b _ q2 w5 T6.out).mono ?_; rintro e w' ⟨rfl, rfl⟩))
            go_roundw
            case rel => exact ⟨k + 1, hiOf q (x + 1), by omega, by go_num, rfl, by omega, by omega, ⟨by rw [← HQ2.out]; exact T5.out⟩, HB5⟩
            case measure => simp [intOf]; omega
        · have c2 : 4611686018427387904 ≤ x := by omega
          clear c1
          go_wp2
          go_region_held3 (fun w' => w'.cell? (ad.add k) = some (.int .i64 x)) (first | (go_keep; done) | exact cell_later' HB5.out hx)
            (first | (go_at_call 8; refine (tape_at' w.heap.size b ys q x v q2 _ ?ht HV.out HQ.out).mono ?_; (case ht => first | exact T.out.below (below_drew (Below.refl _ _)) | exact T.out); rintro e w5 ⟨rfl, hT5, hG5⟩; have HB5 := Aside0.mk (grown_below (below_drew HB.out) hG5 hbw); have T5 := Aside0.mk hT5; clear hT5 hG5) | (go_at_call 9; refine (rat_any A c ys x _ ?hc (by omega)).mono ?_; (case hc => first | exact Kd.C_below HR.out HB5.out | exact Kd.C_below HR.out (below_drew HB.out)); rintro e w' ⟨hz, rfl⟩; rw [HV.out] at hz; subst hz))
          all_goals
            go_wp2_with (go_at_call 11; refine (awake06 _).mono ?_; rintro z w9 ⟨rfl, hB9⟩)
            go_ret
            exact ⟨rfl, below_thru HB5.out hB9⟩
    · obtain ⟨A6, c6, h6, _⟩ := T.out.row
      have T6 := Aside0.mk h6
      clear h6
      by_cases h1 : k < at_.length
      · have h2 : 60 ≤ (k : Int) := by omega
        have h3 : (k : Int) < at_.length := by omega
        clear hlt
        go_wp2_with (first
          | (go_at_call 11; refine (awake06 _).mono ?_; rintro z w9 ⟨rfl, hB9⟩; have T7 := Aside0.mk (blk_below T6.out hB9))
          | (go_at_call 13; refine (tape_len b ys.length A6 c6 q w9 T7.out).mono ?_; rintro e w' ⟨rfl, rfl⟩))
        go_ret
        exact ⟨rfl, below_thru HB.out hB9⟩
      · have h3 : (at_.length : Int) ≤ k := by omega
        clear hlt h1
        go_wp2_with (first
          | (go_at_call 11; refine (awake06 _).mono ?_; rintro z w9 ⟨rfl, hB9⟩; have T7 := Aside0.mk (blk_below T6.out hB9))
          | (go_at_call 13; refine (tape_len b ys.length A6 c6 q w9 T7.out).mono ?_; rintro e w' ⟨rfl, rfl⟩))
        go_ret
        exact ⟨rfl, below_thru HB.out hB9⟩
set_option maxHeartbeats 4000000 in
theorem tells_long (A : Option Addr) (c L : Nat) (hL : 100 < L) (hLc : L ≤ c) (ys : List Nat) (hys : ys.length = 100) (B : Option Addr) (cb : Nat) (at_ : List Int) (w : World) (hr : FK.C w A ys.length ys) (hl : ys.length ≤ 100) (hb : ReadsInt w .i64 B at_.length at_) :
    Calls Try.prog 3 #[.slice A L c, .slice B at_.length cb] w fun e w' => e = .returned (.bool true) ∧ Below w.heap.size w w' := by
  have HR := Aside0.mk hr
  have HA := Aside0.mk hb
  have hal := hb.2.1
  have o0 : ((ys.length : Int) == (ys.length : Int)) = true := beq_self_eq_true _
  have HY := Aside0.mk hys
  clear hr hb hys
  go_enter Try.func3, Try.ntmps3
  go_wp2_with fail
  rw [← HY.out]
  refine (over_any A c ys _ HR.out (by omega)).mono ?_
  rintro e w1 ⟨b, rfl, hT1, hb0, hb00, hB1⟩
  have T1 := Aside0.mk hT1
  have HB1 := Aside0.mk hB1
  clear hT1 hB1
  go_wp2
  go_loopw [6, 7] (fun r i wr => ∃ (k : Nat) (q : Int), k ≤ at_.length ∧ i = .int .i64 k ∧ r = .int .i64 q ∧ -4611686018427387904 ≤ q ∧ q ≤ 4611686018427387904 ∧ Aside0 (Tape wr w.heap.size b ys q) ∧ Aside0 (Below w.heap.size w wr)) (fun _ i _ => at_.length - (intOf i).toNat)
  case atStart => exact ⟨0, 0, Nat.zero_le _, rfl, rfl, by omega, by omega, T1, HB1⟩
  case round =>
    obtain ⟨k, q, hk, rfl, rfl, hq0, hq1, T, HB⟩ := hrel
    by_cases hlt : k < at_.length ∧ k < 60
    · obtain ⟨hlt1, hlt2⟩ := hlt
      obtain ⟨ad, rfl, hx⟩ := int_at HA.out k hlt1
      have hx1 := cell_later' HB.out hx
      have hs := atF_self ys (at_.getD k 0)
      generalize hxx : at_.getD k 0 = x at *
      have z0 : (0 : Int) ≤ k := by omega
      have z1 : (k : Int) < at_.length := by omega
      obtain ⟨v, hv⟩ : ∃ v, atF ys x = v := ⟨_, rfl⟩
      obtain ⟨q2, hq2⟩ : ∃ q2, readTo q x = q2 := ⟨_, rfl⟩
      rw [hv] at hs
      have HV := Aside0.mk hv
      have HQ := Aside0.mk hq2
      have g0 : (FloatKind.f64.format.order v v != some .eq) = false := by unfold feq at hs; unfold bne; rw [hs]; rfl
      have hbw : w.heap.size ≤ b := hb0
      clear hv hs hxx hq2
      by_cases c0 : x < 0
      · have HQ2 := Aside0.mk (show q2 = q from by rw [← HQ.out]; unfold readTo; rw [if_neg (by omega)])
        have hqq : (q2 != q) = false := by rw [HQ2.out]; simp
        go_wp2
        go_region_held3 (fun w' => w'.cell? (ad.add k) = some (.int .i64 x)) (first | (go_keep; done) | exact cell_later' HB5.out hx)
          (first | (go_at_call 8; refine (tape_at' w.heap.size b ys q x v q2 _ ?ht HV.out HQ.out).mono ?_; (case ht => first | exact T.out.below (below_drew (Below.refl _ _)) | exact T.out); rintro e w5 ⟨rfl, hT5, hG5⟩; have HB5 := Aside0.mk (grown_below (below_drew HB.out) hG5 hbw); have T5 := Aside0.mk hT5; clear hT5 hG5) | (go_at_call 9; refine (rat_any A c ys x _ ?hc (by omega)).mono ?_; (case hc => first | exact Kd.C_below HR.out HB5.out | exact Kd.C_below HR.out (below_drew HB.out)); rintro e w' ⟨hz, rfl⟩; rw [HV.out] at hz; subst hz))
        all_goals
            obtain ⟨A6, c6, h6, _⟩ := T5.out.row
            have T6 := Aside0.mk h6
            clear h6
            go_wp2_with (first
              | (go_at_call 12; refine (tape_read b _ q2 w5 T6.out).mono ?_; rintro e w' ⟨rfl, rfl⟩))
            go_roundw
            case rel => exact ⟨k + 1, q, by omega, by go_num, rfl, by omega, by omega, ⟨by rw [← HQ2.out]; exact T5.out⟩, HB5⟩
            case measure => simp [intOf]; omega
      · have c0' : 0 ≤ x := by omega
        clear c0
        by_cases c1 : x < 4611686018427387904
        · have HQ2 := Aside0.mk (show q2 = hiOf q (x + 1) from by
            rw [← HQ.out]; unfold readTo hiOf; rw [if_pos c0']
            by_cases cc : q ≤ x
            · rw [if_pos cc, if_neg (by omega)]; unfold wrap64; omega
            · rw [if_neg cc]; split <;> omega)
          have hqq : (q2 != hiOf q (x + 1)) = false := by rw [HQ2.out]; simp
          have hh : -4611686018427387904 ≤ hiOf q (x + 1) ∧ hiOf q (x + 1) ≤ 4611686018427387904 := by unfold hiOf; split <;> omega
          have hh0 := hh.1
          have hh1 := hh.2
          clear hh
          go_wp2
          go_region_held3 (fun w' => w'.cell? (ad.add k) = some (.int .i64 x)) (first | (go_keep; done) | exact cell_later' HB5.out hx)
            (first | (go_at_call 8; refine (tape_at' w.heap.size b ys q x v q2 _ ?ht HV.out HQ.out).mono ?_; (case ht => first | exact T.out.below (below_drew (Below.refl _ _)) | exact T.out); rintro e w5 ⟨rfl, hT5, hG5⟩; have HB5 := Aside0.mk (grown_below (below_drew HB.out) hG5 hbw); have T5 := Aside0.mk hT5; clear hT5 hG5) | (go_at_call 9; refine (rat_any A c ys x _ ?hc (by omega)).mono ?_; (case hc => first | exact Kd.C_below HR.out HB5.out | exact Kd.C_below HR.out (below_drew HB.out)); rintro e w' ⟨hz, rfl⟩; rw [HV.out] at hz; subst hz))
          all_goals
            obtain ⟨A6, c6, h6, _⟩ := T5.out.row
            have T6 := Aside0.mk h6
            clear h6
            go_wp2_with (first
              | (go_at_call 10; refine (high_any q (x + 1) _).mono ?_; rintro e w' ⟨rfl, rfl⟩)
              | (go_at_call 12; refine (tape_read b _ q2 w5 T6.out).mono ?_; rintro e w' ⟨rfl, rfl⟩))
            go_roundw
            case rel => exact ⟨k + 1, hiOf q (x + 1), by omega, by go_num, rfl, by omega, by omega, ⟨by rw [← HQ2.out]; exact T5.out⟩, HB5⟩
            case measure => simp [intOf]; omega
        · have c2 : 4611686018427387904 ≤ x := by omega
          clear c1
          go_wp2
          go_region_held3 (fun w' => w'.cell? (ad.add k) = some (.int .i64 x)) (first | (go_keep; done) | exact cell_later' HB5.out hx)
            (first | (go_at_call 8; refine (tape_at' w.heap.size b ys q x v q2 _ ?ht HV.out HQ.out).mono ?_; (case ht => first | exact T.out.below (below_drew (Below.refl _ _)) | exact T.out); rintro e w5 ⟨rfl, hT5, hG5⟩; have HB5 := Aside0.mk (grown_below (below_drew HB.out) hG5 hbw); have T5 := Aside0.mk hT5; clear hT5 hG5) | (go_at_call 9; refine (rat_any A c ys x _ ?hc (by omega)).mono ?_; (case hc => first | exact Kd.C_below HR.out HB5.out | exact Kd.C_below HR.out (below_drew HB.out)); rintro e w' ⟨hz, rfl⟩; rw [HV.out] at hz; subst hz))
          all_goals
            go_wp2_with (go_at_call 11; refine (awake06 _).mono ?_; rintro z w9 ⟨rfl, hB9⟩)
            go_ret
            exact ⟨rfl, below_thru HB5.out hB9⟩
    · obtain ⟨A6, c6, h6, _⟩ := T.out.row
      have T6 := Aside0.mk h6
      clear h6
      by_cases h1 : k < at_.length
      · have h2 : 60 ≤ (k : Int) := by omega
        have h3 : (k : Int) < at_.length := by omega
        clear hlt
        go_wp2_with (first
          | (go_at_call 11; refine (awake06 _).mono ?_; rintro z w9 ⟨rfl, hB9⟩; have T7 := Aside0.mk (blk_below T6.out hB9))
          | (go_at_call 13; refine (tape_len b ys.length A6 c6 q w9 T7.out).mono ?_; rintro e w' ⟨rfl, rfl⟩))
        go_ret
        exact ⟨rfl, below_thru HB.out hB9⟩
      · have h3 : (at_.length : Int) ≤ k := by omega
        clear hlt h1
        go_wp2_with (first
          | (go_at_call 11; refine (awake06 _).mono ?_; rintro z w9 ⟨rfl, hB9⟩; have T7 := Aside0.mk (blk_below T6.out hB9))
          | (go_at_call 13; refine (tape_len b ys.length A6 c6 q w9 T7.out).mono ?_; rintro e w' ⟨rfl, rfl⟩))
        go_ret
        exact ⟨rfl, below_thru HB.out hB9⟩
theorem FK_take {w : World} {A : Option Addr} {xs : List Nat} (h : FK.C w A xs.length xs) (n : Nat) : FK.C w A (xs.take n).length (xs.take n) := by
  have h1 := Kd.reads_of_C (enc := Value.float .f64) (d := (0 : Nat)) (h1 := fun _ => rfl) h
  refine Kd.C_of_reads (enc := Value.float .f64) (d := (0 : Nat)) (h1 := fun _ => rfl) ⟨rfl, ?_, fun hp => ?_⟩
  · have := h1.2.1
    rw [List.length_take]; omega
  · rw [List.length_take] at hp
    obtain ⟨ad, e, hc⟩ := h1.2.2 (by omega)
    refine ⟨ad, e, fun j hj => ?_⟩
    rw [List.length_take] at hj
    rw [hc j (by omega)]
    congr 2
    rw [List.getD_eq_getElem?_getD, List.getD_eq_getElem?_getD, List.getElem?_take, if_pos (by omega)]
theorem tells_any (A : Option Addr) (c : Nat) (xs : List Nat) (B : Option Addr) (cb : Nat) (at_ : List Int) (w : World) (hr : FK.C w A xs.length xs) (hc : xs.length ≤ c) (hb : ReadsInt w .i64 B at_.length at_) :
    Calls Try.prog 3 #[.slice A xs.length c, .slice B at_.length cb] w fun e w' => e = .returned (.bool true) ∧ Below w.heap.size w w' := by
  by_cases h : xs.length ≤ 100
  · exact tells_fit A c xs B cb at_ w hr h hb
  · have h2 : (xs.take 100).length = 100 := by rw [List.length_take]; omega
    exact tells_long A c xs.length (by omega) hc (xs.take 100) h2 B cb at_ w (FK_take hr 100) (by omega) hb
end Go.Proofs.Ytedifkidnpaejaa.Gv
