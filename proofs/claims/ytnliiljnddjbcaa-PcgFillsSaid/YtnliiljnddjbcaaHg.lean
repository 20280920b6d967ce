/- PcgFills, by hand. -/
import Derived.Test.YtnliiljnddjbcaaHf
namespace Go.Proofs.Ytnliiljnddjbcaa.Gv
open Go.RowKit Go.Proofs.Ytnliiljnddjbcaa.X Go.Proofs.YtnliiljnddjbcaaW.PrintWords Go.Proofs.YtnliiljnddjbcaaW.PrintLast
theorem at_float {w : World} {A : Option Addr} {n : Nat} {xs : List Nat} (h : FK.C w A n xs) (i : Int) (h0 : 0 ≤ i) (h1 : i < n) : ∃ ad, A = some ad ∧ w.cell? (ad.add i.toNat) = some (.float .f64 (rdOf 0 xs i)) :=
  ReadsOf.at_ (Kd.reads_of_C (enc := Value.float .f64) (d := (0 : Nat)) (h1 := fun _ => rfl) h) i h0 h1
theorem fl_cell {w W : World} {ad : Addr} {xs : List Nat} {v : Nat} (h : FK.C w (some ad) xs.length xs) (hb : Below w.heap.size w W) (i : Int) (h0 : 0 ≤ i) (h1 : i < xs.length) (hv : rdOf 0 xs i = v) : W.cell? (ad.add i.toNat) = some (.float .f64 v) := by
  obtain ⟨ad2, e, hx⟩ := at_float (Kd.C_below h hb) i h0 h1
  injection e with e
  subst e
  rw [hv] at hx
  exact hx
theorem fills_far (a d n : Int) (w : World) (h1 : 2000 < n) (h2 : n ≤ 4194304) :
    Calls Try.prog 4 #[.int .u64 a, .int .u64 d, .int .i64 n] w fun e w' => e = .returned (.bool true) ∧ Below w.heap.size w w' := by
  go_enter Try.func4, Try.ntmps4
  go_wp2_with (go_at_call 9; refine (awake07 _).mono ?_; rintro x w9 ⟨rfl, hb9⟩)
  go_ret
  exact ⟨rfl, hb9⟩
set_option maxHeartbeats 2000000 in
theorem fills_out (a d n : Int) (w : World) (hn : n < 0 ∨ 4194304 < n) :
    Calls Try.prog 4 #[.int .u64 a, .int .u64 d, .int .i64 n] w fun e w' => e = .returned (.bool true) ∧ Below w.heap.size w w' := by
  have HF := Aside0.mk (fun W => fill_range a d n W hn)
  by_cases c : n < 0
  · clear hn
    go_enter Try.func4, Try.ntmps4
    go_wp2_with (first
      | (go_at_call 10; refine (HF.out _).mono ?_; rintro x w1 ⟨rfl, rfl⟩)
      | (go_at_call 9; refine (awake07 _).mono ?_; rintro x w9 ⟨rfl, hb9⟩))
    go_ret
    exact ⟨rfl, hb9⟩
  · have h : 4194304 < n := by omega
    clear hn
    go_enter Try.func4, Try.ntmps4
    go_wp2_with (first
      | (go_at_call 10; refine (HF.out _).mono ?_; rintro x w1 ⟨rfl, rfl⟩)
      | (go_at_call 9; refine (awake07 _).mono ?_; rintro x w9 ⟨rfl, hb9⟩))
    go_ret
    exact ⟨rfl, hb9⟩
set_option maxHeartbeats 8000000 in
set_option maxRecDepth 100000 in
theorem fills_ok (a d : Int) (n : Nat) (w : World) (hn : n ≤ 2000) :
    Calls Try.prog 4 #[.int .u64 a, .int .u64 d, .int .i64 n] w fun e w' => e = .returned (.bool true) ∧ Below w.heap.size w w' := by
  obtain ⟨s, hs⟩ : ∃ s, sst a d = s := ⟨_, rfl⟩
  obtain ⟨c, hc⟩ : ∃ c, cst d = c := ⟨_, rfl⟩
  have hsr : 0 ≤ s ∧ s < 18446744073709551616 := by rw [← hs]; exact sst_in _ _
  have HF := Aside0.mk (fun W => fill_ok a d n s c hs hc W (by omega))
  have Hs := Aside0.mk hs
  have Hc := Aside0.mk hc
  have z0 : (n : Int) ≤ 2000 := by omega
  have o0 : (FloatKind.f64.format.order 0 0 == some .eq) = true := by decide +kernel
  clear hs hc
  go_enter Try.func4, Try.ntmps4
  go_wp2_with (first
    | (go_at_call 10; refine (HF.out _).mono ?_; rintro x w1 ⟨v, rfl, ho1, hb1⟩; obtain ⟨A1, c1, rfl⟩ := Kd.R_slice ho1; rw [drs_length] at ho1; rw [drs_length]; have HO1 := Aside0.mk (Kd.R_reads' ho1).2.2; have HB1 := Aside0.mk hb1; clear ho1 hb1)
    | (go_at_call 6; refine (rnew_any a d _).mono ?_; rintro x w2 ⟨g, rfl, hg0, hG2, hb2⟩; rw [Hs.out, Hc.out] at hG2; have HG2 := Aside0.mk hG2; have H12 := Aside0.mk hb2; have HB2 := Aside0.mk (below_then HB1.out HB1.out.size hb2); have hgw : w.heap.size ≤ g := Nat.le_trans HB1.out.size hg0; clear hG2 hb2))
  go_loopw [10] (fun y wr => ∃ i : Nat, i ≤ n ∧ y = .int .i64 (i : Int) ∧ Aside0 (Gn wr 47 g (its s c i) c) ∧ Aside0 (Below w1.heap.size w1 wr) ∧ Aside0 (Below w.heap.size w wr)) (fun i _ => n - (intOf i).toNat)
  case atStart => exact ⟨0, Nat.zero_le _, rfl, HG2, H12, HB2⟩
  case round =>
    obtain ⟨i, hi, rfl, HG, H1, HB⟩ := hrel
    by_cases hin : i < n
    · have z1 : (0 : Int) ≤ i := by omega
      have z2 : (i : Int) < (n : Int) := by omega
      obtain ⟨ad, rfl, hx⟩ := at_float (Kd.C_below HO1.out H1.out) (i : Int) z1 (by rw [drs_length]; exact z2)
      rw [Int.toNat_natCast] at hx
      have X : rdOf 0 (drs s c n) (i : Int) = dr (nxt (its s c i)) := by
        rw [← drs_getD s c i n hin]
        simp [rdOf]
      have hxv := X
      clear X
      obtain ⟨m0, m1⟩ := its_in (c := c) hsr.1 hsr.2 i
      obtain ⟨n0, n1⟩ := nxt_in (its s c i)
      obtain ⟨d1, d2, d3⟩ := draw_facts (dr_lt n0 n1)
      have HN := Aside0.mk (fun W hW => rnext_any g (its s c i) c m0 m1 W hW)
      have HSt := Aside0.mk (show its s c (i + 1) = stp (its s c i) c from rfl)
      have hd : ∀ w, (binOp .quo 37 (.float .f64 (floatOfInt .f64 (nxt (its s c i)))) (.float .f64 4751297606875873280)).run Try.prog w = .ok (.float .f64 (dr (nxt (its s c i)))) w := dr_run n0 n1
      generalize dr (nxt (its s c i)) = y at *
      generalize nxt (its s c i) = z at *
      have d4 : (FloatKind.f64.format.order y y != some .eq) = false := by unfold bne; rw [d1]; rfl
      have HCl := Aside0.mk (fun W (h : Below w1.heap.size w1 W) => fl_cell HO1.out h (i : Int) z1 (by rw [drs_length]; exact z2) hxv)
      clear hxv hx
      go_wp2_with (go_at_call 8; refine (HN.out _ HG.out).mono ?_; rintro x w3 ⟨rfl, hG3, hg3⟩; have HG3 := Aside0.mk hG3; have H13 := Aside0.mk (grown_below H1.out hg3 H1.out.size hg0); have HB3 := Aside0.mk (grown_below HB.out hg3 HB.out.size hgw); have hx3 := HCl.out _ H13.out; rw [Int.toNat_natCast] at hx3; clear hG3 hg3)
      go_roundw
      case rel => exact ⟨i + 1, by omega, by go_num, ⟨by rw [HSt.out]; exact HG3.out⟩, H13, HB3⟩
      case measure => simp [intOf]; omega
    · have hie : i = n := by omega
      subst hie
      go_wp2_with (first
        | (go_at_call 11; refine (skip_nil 3 _).mono ?_; rintro x w3 ⟨rfl, rfl⟩)
        | (go_at_call 12; refine (state_nil _).mono ?_; rintro x w3 ⟨rfl, rfl⟩)
        | (go_at_call 9; refine (awake07 _).mono ?_; rintro x w4 ⟨rfl, hb4⟩)
        | (go_at_call 13; refine (next_nil _).mono ?_; rintro x w3 ⟨rfl, rfl⟩)
        | (go_at_call 14; refine (float_nil _).mono ?_; rintro x w3 ⟨rfl, rfl⟩)
        | (go_at_call 7; refine (below_nil 5 _).mono ?_; rintro x w3 ⟨rfl, rfl⟩))
      go_ret
      exact ⟨rfl, below_then HB.out HB.out.size hb4⟩
theorem pcgFills_any (a d n : Int) (w : World) :
    Calls Try.prog 4 #[.int .u64 a, .int .u64 d, .int .i64 n] w fun e w' => e = .returned (.bool true) ∧ Below w.heap.size w w' := by
  by_cases h1 : n < 0 ∨ 4194304 < n
  · exact fills_out a d n w h1
  · by_cases h2 : 2000 < n
    · exact fills_far a d n w h2 (by omega)
    · obtain ⟨m, rfl⟩ := Int.eq_ofNat_of_zero_le (show 0 ≤ n by omega)
      exact fills_ok a d m w (by omega)
end Go.Proofs.Ytnliiljnddjbcaa.Gv
