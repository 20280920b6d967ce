/- PcgBelow, by hand. -/
import Derived.Test.YtnliiljnddjbcaaHc
namespace Go.Proofs.Ytnliiljnddjbcaa.Gv
open Go.RowKit Go.Proofs.Ytnliiljnddjbcaa.X Go.Proofs.YtnliiljnddjbcaaW.PrintWords Go.Proofs.YtnliiljnddjbcaaW.PrintLast
theorem its_add (s c : Int) (m : Nat) : ∀ i, its (its s c m) c i = its s c (m + i)
  | 0 => rfl
  | i + 1 => by rw [its, its_add s c m i]; rfl
theorem sst_in (s d : Int) : 0 ≤ sst s d ∧ sst s d < 18446744073709551616 := stp_in _ _
set_option maxHeartbeats 2000000 in
theorem awake07 (w : World) : Calls Try.prog 9 #[] w fun e w' => e = .returned (.bool true) ∧ Below w.heap.size w w' := by
  have e1 : nxt (sst 42 54) = 2707161783 := by decide +kernel
  have e2 : nxt (stp (sst 42 54) (cst 54)) = 2068313097 := by decide +kernel
  have e3 : nxt (stp (stp (sst 42 54) (cst 54)) (cst 54)) = 3122475824 := by decide +kernel
  generalize hs : sst 42 54 = s at *
  generalize hc : cst 54 = c at *
  have hs1 : 0 ≤ s ∧ s < 18446744073709551616 := by rw [← hs]; exact sst_in _ _
  have hs2 := stp_in s c
  have hs3 := stp_in (stp s c) c
  have Hs := Aside0.mk hs
  have Hc := Aside0.mk hc
  have E1 := Aside0.mk e1
  have E2 := Aside0.mk e2
  have E3 := Aside0.mk e3
  clear hs hc e1 e2 e3
  go_enter Try.func9, Try.ntmps9
  go_wp2_with (first
    | (go_at_call 5; refine (new_any 42 54 _).mono ?_; rintro x w1 ⟨g, rfl, hg0, hG1, hb1⟩; rw [Hs.out, Hc.out] at hG1; have HG1 := Aside0.mk hG1; have HB1 := Aside0.mk hb1; clear hG1 hb1)
    | (go_at_call 13; refine (next_any g s c hs1.1 hs1.2 _ HG1.out).mono ?_; rintro x w2 ⟨rfl, hG2, hg2⟩; rw [E1.out]; have HG2 := Aside0.mk hG2; have HB2 := Aside0.mk (grown_below HB1.out hg2 HB1.out.size hg0); clear hG2 hg2)
    | (go_at_call 13; refine (next_any g _ c hs2.1 hs2.2 _ HG2.out).mono ?_; rintro x w3 ⟨rfl, hG3, hg3⟩; rw [E2.out]; have HG3 := Aside0.mk hG3; have HB3 := Aside0.mk (grown_below HB2.out hg3 HB2.out.size hg0); clear hG3 hg3)
    | (go_at_call 13; refine (next_any g _ c hs3.1 hs3.2 _ HG3.out).mono ?_; rintro x w4 ⟨rfl, hG4, hg4⟩; rw [E3.out]; have HB4 := Aside0.mk (grown_below HB3.out hg4 HB3.out.size hg0); clear hG4 hg4))
  go_ret
  exact ⟨rfl, HB4.out⟩
theorem least_is (n : Int) (h1 : 1 ≤ n) (h2 : n < 4294967296) : -n % 4294967296 % n = 4294967296 % n := by
  have e : -n % 4294967296 = 4294967296 - n := by omega
  rw [e, Int.sub_emod_right]
set_option maxHeartbeats 8000000 in
set_option maxRecDepth 100000 in
theorem pcgBelow_any (a d : Int) (l : List Int) (A0 : Option Addr) (c0 : Nat) (w : World) (hl : ∀ i, i < l.length → 0 ≤ l.getD i 0 ∧ l.getD i 0 < 4294967296) (hr0 : Kd.C (Kd.int .u32) w A0 l.length l) :
    Calls Try.prog 3 #[.int .u64 a, .int .u64 d, .slice A0 l.length c0] w fun e w' => e = .returned (.bool true) ∧ Below w.heap.size w w' := by
  have HR0 := Aside0.mk hr0
  have Hl := Aside0.mk hl
  obtain ⟨s, hs⟩ : ∃ s, sst a d = s := ⟨_, rfl⟩
  obtain ⟨c, hc⟩ : ∃ c, cst d = c := ⟨_, rfl⟩
  have hsr : 0 ≤ s ∧ s < 18446744073709551616 := by rw [← hs]; exact sst_in _ _
  have Hs := Aside0.mk hs
  have Hc := Aside0.mk hc
  clear hr0 hl hs hc
  go_enter Try.func3, Try.ntmps3
  go_wp2_with (first
    | (go_at_call 5; refine (new_any a d _).mono ?_; rintro x w1 ⟨g, rfl, hg0, hG1, hb1⟩; rw [Hs.out, Hc.out] at hG1; have HG1 := Aside0.mk hG1; have HB1 := Aside0.mk hb1; clear hG1 hb1)
    | (go_at_call 6; refine (rnew_any a d _).mono ?_; rintro x w2 ⟨g2, rfl, hg2, hG2, hb2⟩; rw [Hs.out, Hc.out] at hG2; have HG2 := Aside0.mk (HG1.out.below hb2); have HX2 := Aside0.mk hG2; have HB2 := Aside0.mk (below_then HB1.out HB1.out.size hb2); have hgg : g < g2 := Nat.lt_of_lt_of_le HG1.out.lt hg2; have hgw : w.heap.size ≤ g2 := Nat.le_trans HB1.out.size hg2; clear hG2 hb2))
  have hne1 : g ≠ g2 := by omega
  have hne2 : g2 ≠ g := by omega
  go_loopw [9] (fun x wr => ∃ (i m : Nat), i ≤ l.length ∧ x = .int .i64 (i : Int) ∧ Aside0 (Gn wr 45 g (its s c m) c) ∧ Aside0 (Gn wr 47 g2 (its s c m) c) ∧ Aside0 (Below w.heap.size w wr)) (fun x _ => l.length - (intOf x).toNat)
  case atStart => exact ⟨0, 0, Nat.zero_le _, rfl, HG2, HX2, HB2⟩
  case round =>
    obtain ⟨i, m, hi, rfl, HG, HX, HB⟩ := hrel
    by_cases hin : i < l.length ∧ i < 30
    · obtain ⟨hi1, hi2⟩ := hin
      have z0 : (0 : Int) ≤ i := by omega
      have z1 : (i : Int) < l.length := by omega
      have z2 : (i : Int) < 30 := by omega
      obtain ⟨ad, rfl, hx⟩ := Kd.at_int (Kd.C_below HR0.out HB.out) (i : Int) z0 z1
      rw [Int.toNat_natCast] at hx
      have X : rd l (i : Int) = l.getD i 0 := by simp [rd]
      rw [X] at hx
      obtain ⟨n0, n1⟩ := Hl.out i hi1
      clear X
      generalize hn : l.getD i 0 = n at *
      clear hn
      by_cases hz : n = 0
      · subst hz
        go_wp2_with (go_at_call 7; refine (below_zero g _).mono ?_; rintro x w3 ⟨rfl, rfl⟩)
        go_roundw
        case rel => exact ⟨i + 1, m, by omega, by go_num, HG, HX, HB⟩
        case measure => simp [intOf]; omega
      · have hn1 : 1 ≤ n := by omega
        have hn0 : (n == 0) = false := by rw [beq_eq_false_iff_ne]; omega
        obtain ⟨L, hL⟩ : ∃ L, 4294967296 % n = L := ⟨_, rfl⟩
        have hL0 : 0 ≤ L ∧ L < n := by rw [← hL]; exact ⟨Int.emod_nonneg _ (by omega), Int.emod_lt_of_pos _ (by omega)⟩
        have HLe := Aside0.mk (show -n % 4294967296 % n = L by rw [least_is n hn1 n1]; exact hL)
        obtain ⟨m0, m1⟩ := its_in (c := c) hsr.1 hsr.2 m
        go_wp2_with (go_at_call 8; refine (rnext_any g2 _ c m0 m1 _ HX.out).mono ?_; rintro x w3 ⟨rfl, hG3, hg3⟩; have HX3 := Aside0.mk hG3; have HG3 := Aside0.mk (HG.out.far hg3 hne1); have HB3 := Aside0.mk (grown_below HB.out hg3 HB.out.size hgw); clear hG3 hg3)
        go_loopw [12, 13] (fun x i2 wq => ∃ q : Nat, q ≤ 200 ∧ i2 = .int .i64 (q : Int) ∧ x = .int .u32 (nxt (its s c (m + q))) ∧ Aside0 (Gn wq 45 g (its s c m) c) ∧ Aside0 (Gn wq 47 g2 (its s c (m + q + 1)) c) ∧ Aside0 (Below w.heap.size w wq) ∧ Aside0 (∀ j, j < q → nxt (its s c (m + j)) < L)) (fun _ i2 _ => 200 - (intOf i2).toNat)
        case atStart => exact ⟨0, by omega, rfl, rfl, HG3, HX3, HB3, ⟨fun j hj => by omega⟩⟩
        case round =>
          obtain ⟨q, hq, rfl, rfl, HGq, HXq, HBq, HLq⟩ := hrel
          obtain ⟨v0, v1⟩ := nxt_in (its s c (m + q))
          by_cases hq2 : q = 200
          · subst hq2
            generalize nxt (its s c (m + 200)) = z at *
            by_cases hz2 : z < L
            · go_wp2_with (go_at_call 9; refine (awake07 _).mono ?_; rintro x w9 ⟨rfl, hb9⟩)
              go_ret
              exact ⟨rfl, below_then HBq.out HBq.out.size hb9⟩
            · go_wp2_with (go_at_call 9; refine (awake07 _).mono ?_; rintro x w9 ⟨rfl, hb9⟩)
              go_ret
              exact ⟨rfl, below_then HBq.out HBq.out.size hb9⟩
          · have hq3 : (q : Int) < 200 := by omega
            have hq4 : ((q : Int) == 200) = false := by rw [beq_eq_false_iff_ne]; omega
            by_cases hz2 : nxt (its s c (m + q)) < L
            · have HZ := Aside0.mk hz2
              obtain ⟨p0, p1⟩ := its_in (c := c) hsr.1 hsr.2 (m + q + 1)
              go_wp2_with (go_at_call 8; refine (rnext_any g2 _ c p0 p1 _ HXq.out).mono ?_; rintro x w4 ⟨rfl, hG4, hg4⟩; have HX4 := Aside0.mk hG4; have HG4 := Aside0.mk (HGq.out.far hg4 hne1); have HB4 := Aside0.mk (grown_below HBq.out hg4 HBq.out.size hgw); clear hG4 hg4)
              go_roundw
              case rel => exact ⟨q + 1, by omega, by go_num, rfl, HG4, HX4, HB4, ⟨fun j hj => by
                by_cases e : j = q
                · subst e; exact HZ.out
                · exact HLq.out j (by omega)⟩⟩
              case measure => simp [intOf]; omega
            · obtain ⟨r, hr⟩ : ∃ r, nxt (its s c (m + q)) % n = r := ⟨_, rfl⟩
              have hr2 : r < n := by rw [← hr]; exact Int.emod_lt_of_pos _ (by omega)
              have HBel := Aside0.mk (fun W hW => below_any g (its s c m) c n L r q m0 m1 hn1 n1 HLe.out (fun j hj => by rw [its_add]; exact HLq.out j hj) (by rw [its_add]; omega) (by rw [its_add]; exact hr) W hW)
              generalize hz : nxt (its s c (m + q)) = z at *
              clear hz
              go_wp2_with (go_at_call 7; refine (HBel.out _ HGq.out).mono ?_; rintro x w5 ⟨rfl, hG5, hg5⟩; rw [its_add] at hG5; have HX5 := Aside0.mk (HXq.out.far hg5 hne2); have HG5 := Aside0.mk hG5; have HB5 := Aside0.mk (grown_below HBq.out hg5 HBq.out.size hg0); clear hG5 hg5)
              go_roundw
              case rel => exact ⟨i + 1, m + q + 1, by omega, by go_num, HG5, HX5, HB5⟩
              case measure => simp [intOf]; omega
    · by_cases hi1 : i < l.length
      · have z1 : (i : Int) < l.length := by omega
        have z2 : ¬ (i : Int) < 30 := by omega
        go_wp2_with (go_at_call 9; refine (awake07 _).mono ?_; rintro x w9 ⟨rfl, hb9⟩)
        go_ret
        exact ⟨rfl, below_then HB.out HB.out.size hb9⟩
      · have z1 : ¬ (i : Int) < l.length := by omega
        go_wp2_with (go_at_call 9; refine (awake07 _).mono ?_; rintro x w9 ⟨rfl, hb9⟩)
        go_ret
        exact ⟨rfl, below_then HB.out HB.out.size hb9⟩
end Go.Proofs.Ytnliiljnddjbcaa.Gv
