/- Any draws laid in a grid: the statement StrataGrid, walked. -/
import Derived.Test.YtkmdbidjdppdnaaQi
import Derived.Deep.QuietTactic
import Derived.BigQuiet
namespace Go.Proofs.Ytkmdbidjdppdnaa.Gv
open Go.RowKit Go.Proofs.Ytkmdbidjdppdnaa.X Go.Proofs.YtkmdbidjdppdnaaW.PrintWords Go.Proofs.YtkmdbidjdppdnaaW.PrintLast Go.Proofs.YtkmdbidjdppdnaaW.PrintMore
set_option linter.unusedVariables false
set_option linter.unusedSimpArgs false
theorem gridL_at (n : Nat) (xs : List Nat) (m k : Nat) (h : k < m) : (gridL n xs m).getD k (0, 0) = gAt n xs k := by
  unfold gridL
  rw [List.getD_eq_getElem?_getD, List.getElem?_map, List.getElem?_range h]
  rfl
theorem cell_gAt {k : Nat} (hk : k < 7) (xs : List Nat) (q : Nat) (hq : q < 2 ^ k * 2 ^ k) : cellI (2 ^ k) (gAt (2 ^ k) xs q) = q := by
  have hp := (pow_le k hk).1
  obtain ⟨r1, h1⟩ := atF_cln xs ((2 * q : Nat) : Int)
  obtain ⟨r2, h2⟩ := atF_cln xs ((2 * q + 1 : Nat) : Int)
  have d1 : q % 2 ^ k < 2 ^ k := Nat.mod_lt _ hp
  have d2 : q / 2 ^ k < 2 ^ k := by rw [Nat.div_lt_iff_lt_mul hp]; exact hq
  unfold cellI gAt
  rw [cellN_lay hk d1 h1, cellN_lay hk d2 h2]
  exact Nat.div_add_mod' q (2 ^ k)
theorem cells_grid {k : Nat} (hk : k < 7) (xs : List Nat) : ∀ m, m ≤ 2 ^ k * 2 ^ k → ∀ q, q < 2 ^ k * 2 ^ k → (cellsL (2 ^ k) (gridL (2 ^ k) xs (2 ^ k * 2 ^ k)) m).getD q 0 = if q < m then 1 else 0 := by
  intro m
  induction m with
  | zero =>
    intro _ q hq
    rw [cellsL, List.getD_eq_getElem?_getD, List.getElem?_replicate, if_pos hq]
    rfl
  | succ m ih =>
    intro hm q hq
    have e1 := gridL_at (2 ^ k) xs (2 ^ k * 2 ^ k) m (by omega)
    have e2 := cell_gAt hk xs m (by omega)
    rw [cellsL, e1, e2, List.getD_eq_getElem?_getD, List.getElem?_set]
    have hl := cellsL_length (2 ^ k) (gridL (2 ^ k) xs (2 ^ k * 2 ^ k)) m
    by_cases c : m = q
    · subst c
      rw [if_pos rfl, if_pos (by rw [hl]; exact hq), Option.getD_some, ih (by omega) m hq, if_neg (by omega), if_pos (by omega)]
      rfl
    · rw [if_neg c, ← List.getD_eq_getElem?_getD, ih (by omega) q hq]
      by_cases g : q < m
      · rw [if_pos g, if_pos (by omega)]
      · rw [if_neg g, if_neg (by omega)]
theorem all_one {l : List Int} {n : Nat} (hl : l.length = n) (h : ∀ q, q < n → l.getD q 0 = 1) : allOne l = true := by
  unfold allOne
  rw [List.all_eq_true]
  intro x hx
  obtain ⟨i, hi, rfl⟩ := List.mem_iff_getElem.1 hx
  have h1 := h i (by omega)
  rw [List.getD_eq_getElem?_getD, List.getElem?_eq_getElem hi, Option.getD_some] at h1
  rw [h1]
  rfl
theorem grid_even {k : Nat} (hk : k < 7) (xs : List Nat) : allOne (cellsL (2 ^ k) (gridL (2 ^ k) xs (2 ^ k * 2 ^ k)) (2 ^ k * 2 ^ k)) = true :=
  all_one (cellsL_length _ _ _) (fun q hq => by rw [cells_grid hk xs _ (Nat.le_refl _) q hq, if_pos hq])
theorem pow_two : ∀ m : Nat, m < 65 → 1 ≤ m → (bits .and .i64 (m : Int) ((m : Int) - 1) = 0 ∧ ∃ k, k < 7 ∧ m = 2 ^ k) ∨ bits .and .i64 (m : Int) ((m : Int) - 1) ≠ 0 := by
  intro m hm h1
  by_cases h : bits .and .i64 (m : Int) ((m : Int) - 1) = 0
  · refine Or.inl ⟨h, ?_⟩
    have key : ∀ m : Nat, m < 65 → 1 ≤ m → bits .and .i64 (m : Int) ((m : Int) - 1) = 0 → m = 1 ∨ m = 2 ∨ m = 4 ∨ m = 8 ∨ m = 16 ∨ m = 32 ∨ m = 64 := by decide +kernel
    rcases key m hm h1 h with rfl | rfl | rfl | rfl | rfl | rfl | rfl
    · exact ⟨0, by decide, rfl⟩
    · exact ⟨1, by decide, rfl⟩
    · exact ⟨2, by decide, rfl⟩
    · exact ⟨3, by decide, rfl⟩
    · exact ⟨4, by decide, rfl⟩
    · exact ⟨5, by decide, rfl⟩
    · exact ⟨6, by decide, rfl⟩
  · exact Or.inr h
theorem ne_self {x : Nat} (h : notNan x) : (FloatKind.f64.format.order x x != some .eq) = false := by rw [order_refl h]; rfl
theorem flip_w {P : Program} {f : FuncId} {args : Array Value} {W : World} {v : Ending} (h : Calls P f args W fun e w' => e = v ∧ W = w') : Calls P f args W fun e w' => e = v ∧ w' = W := h.mono fun _ _ ⟨he, hw⟩ => ⟨he, hw.symm⟩
theorem grid_long (n : Int) (A : Option Addr) (L c : Nat) (hL : 300 < L) (w : World) :
    Calls Try.prog 3 #[.int .i64 n, .slice A L c] w fun e w' => e = .returned (.bool true) ∧ Below w.heap.size w w' := by
  have h1 : (300 : Int) < (L : Int) := by omega
  have HW := Aside0.mk (awake42 w)
  go_enter Try.func3, Try.ntmps3
  go_wp2_with (go_at_call 6; refine HW.out.mono ?_; rintro e w2 ⟨rfl, hb⟩; have HB := Aside0.mk hb; clear hb)
  go_ret
  exact ⟨rfl, HB.out⟩
theorem grid_out (n : Int) (hn : n < 1 ∨ 64 < n) (A : Option Addr) (L c : Nat) (hL : L ≤ 300) (w : World) :
    Calls Try.prog 3 #[.int .i64 n, .slice A L c] w fun e w' => e = .returned (.bool true) ∧ Below w.heap.size w w' := by
  have h1 : ¬ (300 : Int) < (L : Int) := by omega
  have HW := Aside0.mk (awake42 w)
  have HG := Aside0.mk (grid_no n hn A L c w)
  by_cases h2 : n < 1
  · clear hn
    go_enter Try.func3, Try.ntmps3
    go_wp2_with (first
      | (go_at_call 6; refine HW.out.mono ?_; rintro e w2 ⟨rfl, hb⟩; have HB := Aside0.mk hb; clear hb)
      | (go_at_call 7; refine HG.out.mono ?_; rintro e w2 ⟨rfl, rfl⟩))
    go_ret
    exact ⟨rfl, HB.out⟩
  · have h3 : 64 < n := by omega
    clear hn
    go_enter Try.func3, Try.ntmps3
    go_wp2_with (first
      | (go_at_call 6; refine HW.out.mono ?_; rintro e w2 ⟨rfl, hb⟩; have HB := Aside0.mk hb; clear hb)
      | (go_at_call 7; refine HG.out.mono ?_; rintro e w2 ⟨rfl, rfl⟩))
    go_ret
    exact ⟨rfl, HB.out⟩
set_option maxHeartbeats 8000000 in
theorem grid_in (n : Nat) (h1 : 1 ≤ n) (h2 : n ≤ 64) (A : Option Addr) (c : Nat) (xs : List Nat) (w : World) (hr : FK.C w A xs.length xs) (hl : xs.length ≤ 300) :
    Calls Try.prog 3 #[.int .i64 (n : Int), .slice A xs.length c] w fun e w' => e = .returned (.bool true) ∧ Below w.heap.size w w' := by
  have hnn : n * n ≤ 4096 := Nat.mul_le_mul h2 h2
  have hpos : 1 ≤ n * n := Nat.mul_pos h1 h1
  have hl1 : ¬ (300 : Int) < (xs.length : Int) := by omega
  have HR := Aside0.mk hr
  have HG := Aside0.mk (grid_any n h1 h2 A c xs w hr (by omega))
  have m0 : IntKind.i64.wrap ((n : Int) * (n : Int)) = ((n * n : Nat) : Int) := by rw [← Int.natCast_mul]; exact IntWalk.i64_in _ (by omega)
  have hgl := gridL_length n xs (n * n)
  have hga := gridL_at n xs (n * n)
  have hev : ∀ k, k < 7 → n = 2 ^ k → allOne (cellsL n (gridL n xs (n * n)) (n * n)) = true := fun k hk e => by subst e; exact grid_even hk xs
  obtain ⟨q, hq⟩ : ∃ q, n * n = q := ⟨_, rfl⟩
  have HQ := Aside0.mk hq
  rw [hq] at m0 hnn HG hgl hga hev hpos
  generalize gridL n xs q = l at *
  have HGL := Aside0.mk hgl
  have HGA := Aside0.mk hga
  have HEV := Aside0.mk hev
  have e1 : ((q : Int) != (q : Int)) = false := by rw [bne_eq_false_iff_eq]
  have HRL := Aside0.mk (fun (i u r : Nat) (hi : i < 65) (hu : Cln u r) (W : World) => flip_w (rlay_any n i u r h1 (by omega) hi hu W))
  clear hr hq hgl hga hev
  go_enter Try.func3, Try.ntmps3
  go_wp2_with (go_at_call 7; refine HG.out.mono ?_; rintro e w2 ⟨v, rfl, hR, hb⟩; obtain ⟨Av, cv, rfl⟩ : ∃ (Av : Option Addr) (cv : Nat), v = Value.slice Av q cv := by { obtain ⟨A1, c1, e1⟩ := Kd.R_slice hR; rw [HGL.out] at e1; exact ⟨_, _, e1⟩ }; obtain ⟨b, rfl, hbb, hbl⟩ := own_first hR hpos; have HO := Aside0.mk hR; have HB := Aside0.mk hb; clear hR hb hbb hbl)
  go_loopw [7] (fun k' wr => ∃ k : Nat, k ≤ q ∧ .int .i64 (k : Int) = k' ∧ Aside0 (Below w2.heap.size w2 wr)) (fun k' _ => q - (intOf k').toNat)
  case atStart => exact ⟨0, Nat.zero_le _, rfl, ⟨Below.refl _ _⟩⟩
  case round =>
    obtain ⟨k, hk, rfl, hb⟩ := hrel
    have HOr := Aside0.mk (Kd.R_below HO.out hb.out)
    by_cases hlt : k < q
    · obtain ⟨p0, p1⟩ := pr_at HOr.out HGL.out k hlt
      have HGk := HGA.out k hlt
      rw [HGk] at p0 p1
      unfold gAt at p0 p1
      have m1 : IntKind.i64.wrap (2 * (k : Int)) = 2 * (k : Int) := IntWalk.i64_in _ (by omega)
      have m2 : IntKind.i64.wrap (2 * (k : Int) + 1) = 2 * (k : Int) + 1 := IntWalk.i64_in _ (by omega)
      have t1 : Int.tmod (k : Int) (n : Int) = ((k % n : Nat) : Int) := by rw [Int.tmod_eq_emod_of_nonneg (by omega)]; rfl
      have t2 : Int.tdiv (k : Int) (n : Int) = ((k / n : Nat) : Int) := by rw [Int.tdiv_eq_ediv_of_nonneg (by omega)]; rfl
      have r1 : k % n < 65 := Nat.lt_trans (Nat.mod_lt k h1) (by omega)
      have r2 : k / n < 65 := by
        have : k / n < n := by rw [Nat.div_lt_iff_lt_mul h1, HQ.out]; exact hlt
        omega
      obtain ⟨dq, hdq⟩ : ∃ dq, k / n = dq := ⟨_, rfl⟩
      obtain ⟨dm, hdm⟩ : ∃ dm, k % n = dm := ⟨_, rfl⟩
      rw [hdm] at t1 r1 p0
      rw [hdq] at t2 r2 p1
      clear hdq hdm HGk
      have t3 : IntKind.i64.wrap (dq : Int) = (dq : Int) := IntWalk.i64_in _ (by omega)
      obtain ⟨ra, hra⟩ := atF_cln xs ((2 * k : Nat) : Int)
      obtain ⟨rb, hrb⟩ := atF_cln xs ((2 * k + 1 : Nat) : Int)
      have z0 : ¬ n = 0 := by omega
      have n0 := ne_self (layW_not h1 (by omega) r1 hra)
      have n1 := ne_self (layW_not h1 (by omega) r2 hrb)
      have HF := Aside0.mk (Kd.C_below HR.out (below_then HB.out HB.out.size hb.out))
      have hA1 : Aside0 (∀ W, Below wr.heap.size wr W → Calls Try.prog 9 #[.slice A xs.length c, .int .i64 (2 * (k : Int))] W fun e w' => e = .returned (.float .f64 (atF xs ((2 * k : Nat) : Int))) ∧ w' = W) := ⟨fun W hW => flip_w (rat_any A c xs ((2 * k : Nat) : Int) W (Kd.C_below HF.out hW) (by omega))⟩
      have hA2 : Aside0 (∀ W, Below wr.heap.size wr W → Calls Try.prog 9 #[.slice A xs.length c, .int .i64 (2 * (k : Int) + 1)] W fun e w' => e = .returned (.float .f64 (atF xs ((2 * k + 1 : Nat) : Int))) ∧ w' = W) := ⟨fun W hW => flip_w (rat_any A c xs ((2 * k + 1 : Nat) : Int) W (Kd.C_below HF.out hW) (by omega))⟩
      have hL1 := Aside0.mk (HRL.out dm _ _ r1 hra)
      have hL2 := Aside0.mk (HRL.out dq _ _ r2 hrb)
      generalize layW n dm (atF xs ((2 * k : Nat) : Int)) = X0 at *
      generalize layW n dq (atF xs ((2 * k + 1 : Nat) : Int)) = X1 at *
      generalize atF xs ((2 * k : Nat) : Int) = u0 at *
      generalize atF xs ((2 * k + 1 : Nat) : Int) = u1 at *
      have y0 : (0 : Int) ≤ (k : Int) := by omega
      have y1 : (k : Int) < (q : Int) := by omega
      go_wp2
      go_quiet ((first
        | (go_at_call 9; first | (with_reducible exact Calls.quiet_of_same (hA1.out _ (pw_below_drewN (Below.refl _ _) _))) | (with_reducible exact Calls.quiet_of_same (hA2.out _ (pw_below_drewN (Below.refl _ _) _))))
        | (go_at_call 8; first | (with_reducible exact Calls.quiet_of_same (hL1.out _)) | (with_reducible exact Calls.quiet_of_same (hL2.out _)))))
      go_wp2
      go_roundw
      case rel => exact ⟨k + 1, by omega, by go_num, ⟨pw_below_drewN hb.out _⟩⟩
      case measure => simp [intOf]; omega
    · have hkq : k = q := by omega
      subst hkq
      have hn1 : IntKind.i64.wrap ((n : Int) - 1) = (n : Int) - 1 := IntWalk.i64_in _ (by omega)
      have HW := Aside0.mk (awake42 wr)
      have HBw := Aside0.mk (below_then HB.out HB.out.size hb.out)
      rcases pow_two n (by omega) h1 with ⟨hz, j, hj, hpow⟩ | hz
      · have hz1 : (bits .and .i64 (n : Int) ((n : Int) - 1) != 0) = false := bne_eq_false_iff_eq.mpr hz
        have hE := HEV.out j hj hpow
        have HE := Aside0.mk (fun (W : World) (hW : Below wr.heap.size wr W) => even_any n h1 h2 (some ⟨b, 0, none⟩) cv l W (by rw [HGL.out]; have h := (Kd.R_reads' (Kd.R_below HOr.out hW)).2.2; rw [HGL.out] at h; exact h) (by rw [HGL.out]; omega))
        rw [HGL.out, hE] at HE
        clear hz hpow hE
        go_wp2_with (first
          | (go_at_call 6; refine HW.out.mono ?_; rintro e w5 ⟨rfl, hb5⟩; have HB5 := Aside0.mk hb5; clear hb5)
          | (go_at_call 10; refine (HE.out _ HB5.out).mono ?_; rintro e w6 ⟨rfl, hb6⟩; have HB6 := Aside0.mk hb6; clear hb6))
        go_ret
        exact ⟨rfl, below_then HBw.out HBw.out.size (below_then HB5.out HB5.out.size HB6.out)⟩
      · have hz1 : (bits .and .i64 (n : Int) ((n : Int) - 1) != 0) = true := bne_iff_ne.mpr hz
        clear hz
        go_wp2_with (go_at_call 6; refine HW.out.mono ?_; rintro e w5 ⟨rfl, hb5⟩; have HB5 := Aside0.mk hb5; clear hb5)
        go_ret
        exact ⟨rfl, below_then HBw.out HBw.out.size HB5.out⟩
/-- THE STATEMENT -/
theorem strataGrid_any (n : Int) (A : Option Addr) (c : Nat) (xs : List Nat) (w : World) (hr : FK.C w A xs.length xs) :
    Calls Try.prog 3 #[.int .i64 n, .slice A xs.length c] w fun e w' => e = .returned (.bool true) ∧ Below w.heap.size w w' := by
  by_cases hL : 300 < xs.length
  · exact grid_long n A xs.length c hL w
  · by_cases hn : n < 1 ∨ 64 < n
    · exact grid_out n hn A xs.length c (by omega) w
    · obtain ⟨m, rfl⟩ := Int.eq_ofNat_of_zero_le (show 0 ≤ n by omega)
      exact grid_in m (by omega) (by omega) A c xs w hr (by omega)
end Go.Proofs.Ytkmdbidjdppdnaa.Gv
