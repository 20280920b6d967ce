/- How many of any draws lie in each cell: the statement StrataCounts, walked. -/
import Derived.Test.YtkmdbidjdppdnaaQk
import Derived.WalkMore
import Derived.ScopeJumps
namespace Go.Proofs.Ytkmdbidjdppdnaa.Gv
open Go.RowKit Go.Proofs.Ytkmdbidjdppdnaa.X Go.Proofs.YtkmdbidjdppdnaaW.PrintWords Go.Proofs.YtkmdbidjdppdnaaW.PrintLast Go.Proofs.YtkmdbidjdppdnaaW.PrintMore
set_option linter.unusedVariables false
set_option linter.unusedSimpArgs false
set_option maxRecDepth 100000 in
theorem counts_long (n : Int) (A : Option Addr) (L c : Nat) (hL : 100 < L) (w : World) :
    Calls Try.prog 5 #[.int .i64 n, .slice A L c] w fun e w' => e = .returned (.bool true) ∧ Below w.heap.size w w' := by
  have h1 : (100 : Int) < (L : Int) := by omega
  have HW := Aside0.mk (awake42 w)
  go_enter Try.func5, Try.ntmps5
  go_wp2_with (go_at_call 6; refine HW.out.mono ?_; rintro e w2 ⟨rfl, hb⟩; have HB := Aside0.mk hb; clear hb)
  go_ret
  exact ⟨rfl, HB.out⟩
set_option maxRecDepth 100000 in
set_option maxHeartbeats 2000000 in
theorem counts_out (n : Int) (hn : n < 1 ∨ 64 < n) (A : Option Addr) (L c : Nat) (hL : L ≤ 100) (w : World) :
    Calls Try.prog 5 #[.int .i64 n, .slice A L c] w fun e w' => e = .returned (.bool true) ∧ Below w.heap.size w w' := by
  have h1 : ¬ (100 : Int) < (L : Int) := by omega
  have HW := Aside0.mk (awake42 w)
  have HC := Aside0.mk (cells_no n hn A L c w)
  have HE := Aside0.mk (fun W => even_no n hn A L c W)
  by_cases h2 : n < 1
  · have HS := Aside0.mk (fun W => spread_less n h2 A L c W)
    clear hn
    go_enter Try.func5, Try.ntmps5
    go_wp2_with (first
      | (go_at_call 6; refine HW.out.mono ?_; rintro e w2 ⟨rfl, hb⟩; have HB := Aside0.mk hb; clear hb)
      | (go_at_call 19; refine HC.out.mono ?_; rintro e w2 ⟨rfl, rfl⟩)
      | (go_at_call 10; refine (HE.out _).mono ?_; rintro e w3 ⟨rfl, hb3⟩; have HB3 := Aside0.mk hb3; clear hb3)
      | (go_at_call 18; refine (HS.out _).mono ?_; rintro e w4 ⟨rfl, rfl⟩))
    go_ret
    exact ⟨rfl, below_then HB.out HB.out.size HB3.out⟩
  · have h3 : 64 < n := by omega
    clear hn
    go_enter Try.func5, Try.ntmps5
    go_wp2_with (first
      | (go_at_call 6; refine HW.out.mono ?_; rintro e w2 ⟨rfl, hb⟩; have HB := Aside0.mk hb; clear hb)
      | (go_at_call 19; refine HC.out.mono ?_; rintro e w2 ⟨rfl, rfl⟩)
      | (go_at_call 10; refine (HE.out _).mono ?_; rintro e w3 ⟨rfl, hb3⟩; have HB3 := Aside0.mk hb3; clear hb3))
    go_ret
    exact ⟨rfl, below_then HB.out HB.out.size HB3.out⟩
theorem allOne_take (l : List Int) (k : Nat) (h : k < l.length) : allOne (l.take (k + 1)) = (allOne (l.take k) && l.getD k 0 == 1) := by
  unfold allOne
  rw [List.take_succ_eq_append_getElem h, List.all_append, List.getD_eq_getElem?_getD, List.getElem?_eq_getElem h]
  simp
def cntR.T10 : Bool × List (List Nat × List Nat) := (true, [([], []), ([], []), ([], []), ([], []), ([2, 3], [2, 3]), ([4], [4]), ([5], [5]), ([1, 6], [1, 6]), ([], []), ([7, 8], [7, 8]), ([], []), ([], []), ([], []), ([11, 12], [11, 12]), ([13], [13]), ([14], [14]), ([10, 15, 7], [10, 15]), ([9, 16], [9, 16]), ([0, 17], [0, 17]), ([18], [18]), ([19], [19]), ([0, 17, 0, 1, 2, 3, 4, 5, 6, 7, 8, 9, 10, 11, 12, 13, 14, 15, 16, 17, 18, 19, 20], [0, 17]), ([21, 20, 16, 0, 1, 2, 3, 4, 5, 6, 7, 8, 9, 10, 11, 12, 13, 14, 15, 16, 17, 18, 19, 20], [20, 21])])
def cntR.B10 : List Nat := [0, 0, 0, 0, 12, 28, 60, 126, 0, 510, 0, 0, 0, 6144, 14336, 30720, 64766, 131070, 262143, 524287, 1048575, 2097151, 4194303]
theorem cntR.tab10 : rtab .any (opsOf Try.f5 10) = cntR.T10 := by kernel_rfl
theorem cntR.bits10 : waitsOk cntR.T10.2 cntR.B10 = true := by kernel_rfl
set_option maxRecDepth 100000 in
set_option maxHeartbeats 8000000 in
theorem counts_in (n : Nat) (h1 : 1 ≤ n) (h2 : n ≤ 64) (A : Option Addr) (c : Nat) (l : List (Nat × Nat)) (w : World) (hr : PK.C w A l.length l) (hl : l.length ≤ 100) :
    Calls Try.prog 5 #[.int .i64 (n : Int), .slice A l.length c] w fun e w' => e = .returned (.bool true) ∧ Below w.heap.size w w' := by
  have hnn : n * n ≤ 4096 := Nat.mul_le_mul h2 h2
  have hl1 : ¬ (100 : Int) < (l.length : Int) := by omega
  have HR := Aside0.mk hr
  have HC := Aside0.mk (cells_any n h1 h2 A c l w hr (by omega))
  have m0 : IntKind.i64.wrap ((n : Int) * (n : Int)) = ((n * n : Nat) : Int) := by rw [← Int.natCast_mul]; exact IntWalk.i64_in _ (by omega)
  have HCL := Aside0.mk (fun (p : Nat × Nat) => cellI_lt h1 p)
  have HCN := Aside0.mk (fun (x : Nat) => cellN_lt (n := n) (x := x) h1)
  have HCC := Aside0.mk (fun (x : Nat) (W : World) => rcell_any n x h1 (by omega) W)
  have hmk := made_ints (n * n) (by omega)
  have HMO := Aside0.mk (fun (W : World) => made_owns (n * n) (by omega) W W.heap.size (Nat.le_refl _))
  have HL0 : cellsL n l 0 = List.replicate (n * n) 0 := rfl
  rw [← HL0] at HMO
  have HLn := Aside0.mk (fun m => cellsL_length n l m)
  obtain ⟨q, hq⟩ : ∃ q, n * n = q := ⟨_, rfl⟩
  have HQ := Aside0.mk hq
  rw [hq] at m0 hnn HCL HC HMO HLn hmk
  have HSP := Aside0.mk (fun (W : World) (hW : Below w.heap.size w W) => (show Calls Try.prog 18 #[.int .i64 (n : Int), .slice A l.length c] W fun e w' => e = .returned (.bool (sprT n l l.length n)) ∧ Below W.heap.size W w' from by
    by_cases e : l.length = n
    · have h := spread_any n h1 h2 A c l W (Kd.C_below hr hW) e
      have e2 : spreadB n l = sprT n l l.length n := by
        rw [e]
        exact spread_spr n h1 l e
      rw [e2] at h
      exact h
    · rw [spr_false n l l.length n e]
      exact (spread_len n l.length h1 h2 e A c W).mono fun _ _ ⟨he, hw⟩ => ⟨he, hw ▸ Below.refl _ _⟩))
  have HEV := Aside0.mk (fun (W : World) (hW : Below w.heap.size w W) => even_any n h1 h2 A c l W (Kd.C_below hr hW) (by omega))
  have hs0 : ((l.length : Int) == (n : Int)) = sprT n l l.length 0 := by
    rw [sprT, Bool.eq_iff_iff, beq_iff_eq, decide_eq_true_iff]
    omega
  have hn1 : ¬ (n : Int) < 1 := by omega
  have hn64 : ¬ (64 : Int) < (n : Int) := by omega
  clear hr hq HL0
  go_enter Try.func5, Try.ntmps5
  go_wp2_with (go_at_call 19; refine HC.out.mono ?_; rintro e w2 ⟨g, rfl, hg, hR, hb⟩; have HRc := Aside0.mk hR; have HB := Aside0.mk hb; have HA2 := Aside0.mk (show Below w2.heap.size w2 (w2.alloc (.cells (madeCells #[.int .i64 0] q) 3)) from Below.alloc (Below.refl _ _) (Nat.le_refl _) _); have HM2 := Aside0.mk (HMO.out w2); clear hR hb hg)
  go_loopw [7] (fun k' wr => ∃ k : Nat, k ≤ l.length ∧ .int .i64 (k : Int) = k' ∧ Aside0 (Kd.R (Kd.int .i64) 3 wr w2.heap.size (fun _ => True) (.slice (some ⟨w2.heap.size, 0, none⟩) q q) (cellsL n l k)) ∧ Aside0 (Below w2.heap.size w2 wr)) (fun k' _ => l.length - (intOf k').toNat)
  case atStart => exact ⟨0, Nat.zero_le _, rfl, HM2, HA2⟩
  case round =>
    obtain ⟨k, hk, rfl, ho, hb⟩ := hrel
    by_cases hlt : k < l.length
    · obtain ⟨ad, rfl, hx0, hx1⟩ := pk_at (Kd.C_below HR.out (below_then HB.out HB.out.size hb.out)) k hlt
      obtain ⟨x0, e0⟩ : ∃ x0, (l.getD k (0, 0)).1 = x0 := ⟨_, rfl⟩
      obtain ⟨x1, e1⟩ : ∃ x1, (l.getD k (0, 0)).2 = x1 := ⟨_, rfl⟩
      rw [e0] at hx0
      rw [e1] at hx1
      have HI := Aside0.mk (show cellI n (l.getD k (0, 0)) = cellN n x1 * n + cellN n x0 by unfold cellI; rw [e0, e1])
      have hcl := HCL.out (l.getD k (0, 0))
      rw [HI.out] at hcl
      clear e0 e1
      have hc0 := HCC.out x0
      have hc1 := HCC.out x1
      have hq0 := HCN.out x0
      have hq1 := HCN.out x1
      generalize cellN n x0 = i0 at *
      generalize cellN n x1 = i1 at *
      have HC0 := Aside0.mk hc0
      have HC1 := Aside0.mk hc1
      obtain ⟨pm, hpm⟩ : ∃ pm, i1 * n = pm := ⟨_, rfl⟩
      obtain ⟨p, hpp⟩ : ∃ p, pm + i0 = p := ⟨_, rfl⟩
      rw [hpm, hpp] at hcl HI
      have s1 : IntKind.i64.wrap ((i1 : Int) * (n : Int)) = (pm : Int) := by rw [← Int.natCast_mul, hpm]; exact IntWalk.i64_in _ (by omega)
      have s2 : IntKind.i64.wrap ((pm : Int) + (i0 : Int)) = (p : Int) := by rw [← Int.natCast_add, hpp]; exact IntWalk.i64_in _ (by omega)
      clear hpm hpp hc0 hc1 hq0 hq1
      have z0 : (0 : Int) ≤ (p : Int) := by omega
      have z1 : (p : Int) < (q : Int) := by omega
      have y0 : (0 : Int) ≤ (k : Int) := by omega
      have y1 : (k : Int) < (l.length : Int) := by omega
      have hle := cellsL_le n l k p
      have HS := Aside0.mk (show cellsL n l (k + 1) = (cellsL n l k).set p ((cellsL n l k).getD p 0 + 1) by rw [cellsL, HI.out])
      have HOd := Aside0.mk (Kd.R_drew ho.out)
      obtain ⟨hy, hf⟩ := Kd.R_celln 0 HOd.out (p : Int) z0 z1
      rw [Int.toNat_natCast] at hy hf
      have Y : rdOf 0 (cellsL n l k) (p : Int) = (cellsL n l k).getD p 0 := by unfold rdOf; rw [Int.toNat_natCast]
      rw [Y] at hy
      have HPut0 := Kd.R_putg HOd.out (p : Int) ((cellsL n l k).getD p 0 + 1)
      rw [Int.toNat_natCast, ← HS.out] at HPut0
      have HPut := Aside0.mk HPut0
      clear HPut0 Y
      generalize (cellsL n l k).getD p 0 = y at *
      have hn2 : IntKind.i64.wrap (y + 1) = y + 1 := IntWalk.i64_in _ (by omega)
      have HBn := Aside0.mk (Below.setCell hb.out.drew (p := ⟨w2.heap.size, p, none⟩) (Nat.le_refl _) (.int .i64 (y + 1)))
      go_wp2
      refine start_ (n := 23) (S := fun w' => w'.cell? (ad.add (k * 2)) = some (.float .f64 x0) ∧ w'.cell? ⟨(ad.add (k * 2)).block, (ad.add (k * 2)).off + 1, none⟩ = some (.float .f64 x1) ∧ w'.cell? ⟨w2.heap.size, p, none⟩ = some (.int .i64 y)) (ds := [22]) (bs 23 0) (by kernel_rfl) rfl (by kernel_rfl) ⟨hx0, hx1, hy⟩ (fun hHeld => ?_)
      refine with_tabW cntR.tab10 cntR.bits10 (fun HT_ HW_ => ?_)
      have H0 := Aside0.mk hHeld
      refine pure_ (i := 0) (N := some 64) (v := ?_) (a' := ?_) (bs 23 1) rfl rfl (any_of HT_.out (by kernel_rfl)) (fun _ _ _ h => h) (Or.inl ⟨by rfl, ?_⟩) ?_ ?_
      rotate_left
      · intro w'
        go_simp
        with_reducible rfl
      rotate_left
      · simp only [Act.put, List.setIfInBounds_toArray, List.set_cons_zero, List.set_cons_succ, i64_w, i32_w]
        rfl
      refine pure_ (i := 1) (N := some 65) (v := ?_) (a' := ?_) (bs 23 3) rfl rfl (any_of HT_.out (by kernel_rfl)) (fun _ _ _ h => h) (Or.inl ⟨by rfl, ?_⟩) ?_ ?_
      rotate_left
      · intro w'
        go_simp
        with_reducible rfl
      rotate_left
      · simp only [Act.put, List.setIfInBounds_toArray, List.set_cons_zero, List.set_cons_succ, i64_w, i32_w]
        rfl
      refine pure_ (i := 2) (N := some 66) (v := ?_) (a' := ?_) (bs 23 7) rfl rfl (any_of HT_.out (by kernel_rfl)) (fun _ _ _ h => h) (Or.inl ⟨by rfl, ?_⟩) ?_ ?_
      rotate_left
      · intro w'
        go_simp
        with_reducible rfl
      rotate_left
      · simp only [Act.put, List.setIfInBounds_toArray, List.set_cons_zero, List.set_cons_succ, i64_w, i32_w]
        rfl
      refine pure_ (i := 3) (N := some 67) (v := ?_) (a' := ?_) (bs 23 15) rfl rfl (any_of HT_.out (by kernel_rfl)) (fun _ _ _ h => h) (Or.inl ⟨by rfl, ?_⟩) ?_ ?_
      rotate_left
      · intro w'
        go_simp
        with_reducible rfl
      rotate_left
      · simp only [Act.put, List.setIfInBounds_toArray, List.set_cons_zero, List.set_cons_succ, i64_w, i32_w]
        rfl
      refine pure_ (i := 4) (N := some 68) (v := ?_) (a' := ?_) (bs 23 31) rfl rfl (any_of HT_.out (by kernel_rfl)) (fun _ _ _ h => h) (Or.inl ⟨by rfl, ?_⟩) ?_ ?_
      rotate_left
      · intro w'
        go_simp
        with_reducible rfl
      rotate_left
      · simp only [Act.put, List.setIfInBounds_toArray, List.set_cons_zero, List.set_cons_succ, i64_w, i32_w]
        rfl
      refine pure_ (i := 5) (N := some 69) (v := ?_) (a' := ?_) (bs 23 63) rfl rfl (any_of HT_.out (by kernel_rfl)) (fun _ _ _ h => h) (Or.inl ⟨by rfl, ?_⟩) ?_ ?_
      rotate_left
      · intro w'
        go_simp
        with_reducible rfl
      rotate_left
      · simp only [Act.put, List.setIfInBounds_toArray, List.set_cons_zero, List.set_cons_succ, i64_w, i32_w]
        rfl
      refine pure_ (i := 8) (N := some 72) (v := ?_) (a' := ?_) (bs 23 319) rfl rfl (any_of HT_.out (by kernel_rfl)) (fun _ _ _ h => h) (Or.inl ⟨by rfl, ?_⟩) ?_ ?_
      rotate_left
      · intro w'
        go_simp
        with_reducible rfl
      rotate_left
      · simp only [Act.put, List.setIfInBounds_toArray, List.set_cons_zero, List.set_cons_succ, i64_w, i32_w]
        rfl
      refine pure_ (i := 10) (N := some 74) (v := ?_) (a' := ?_) (bs 23 1343) rfl rfl (any_of HT_.out (by kernel_rfl)) (fun _ _ _ h => h) (Or.inl ⟨by rfl, ?_⟩) ?_ ?_
      rotate_left
      · intro w'
        go_simp
        with_reducible rfl
      rotate_left
      · simp only [Act.put, List.setIfInBounds_toArray, List.set_cons_zero, List.set_cons_succ, i64_w, i32_w]
        rfl
      refine pure_ (i := 11) (N := some 75) (v := ?_) (a' := ?_) (bs 23 3391) rfl rfl (any_of HT_.out (by kernel_rfl)) (fun _ _ _ h => h) (Or.inl ⟨by rfl, ?_⟩) ?_ ?_
      rotate_left
      · intro w'
        go_simp
        with_reducible rfl
      rotate_left
      · simp only [Act.put, List.setIfInBounds_toArray, List.set_cons_zero, List.set_cons_succ, i64_w, i32_w]
        rfl
      refine pure_ (i := 12) (N := some 76) (v := ?_) (a' := ?_) (bs 23 7487) rfl rfl (any_of HT_.out (by kernel_rfl)) (fun _ _ _ h => h) (Or.inl ⟨by rfl, ?_⟩) ?_ ?_
      rotate_left
      · intro w'
        go_simp
        with_reducible rfl
      rotate_left
      · simp only [Act.put, List.setIfInBounds_toArray, List.set_cons_zero, List.set_cons_succ, i64_w, i32_w]
        rfl
      refine pure_ (i := 13) (N := some 77) (v := ?_) (a' := ?_) (bs 23 15679) rfl rfl (any_of HT_.out (by kernel_rfl)) (fun _ _ _ h => h) (Or.inl ⟨by rfl, ?_⟩) ?_ ?_
      rotate_left
      · intro w'
        go_simp
        with_reducible rfl
      rotate_left
      · simp only [Act.put, List.setIfInBounds_toArray, List.set_cons_zero, List.set_cons_succ, i64_w, i32_w]
        rfl
      refine pure_ (i := 14) (N := some 78) (v := ?_) (a' := ?_) (bs 23 32063) rfl rfl (any_of HT_.out (by kernel_rfl)) (fun _ _ _ h => h) (Or.inl ⟨by rfl, ?_⟩) ?_ ?_
      rotate_left
      · intro w'
        go_simp
        with_reducible rfl
      rotate_left
      · simp only [Act.put, List.setIfInBounds_toArray, List.set_cons_zero, List.set_cons_succ, i64_w, i32_w]
        rfl
      refine take_ (i := 6) (N := some 70) (v := ?_) (a' := ?_) (bs 23 32127) rfl rfl (take_ofW HT_.out HW_.out (by kernel_rfl)) (fun _ _ _ h => h) (Or.inl ⟨by rfl, ?_⟩) hHeld ?_ ?_
      rotate_left
      · rintro w' ⟨s0, s1, s2⟩
        go_simp
        with_reducible rfl
      rotate_left
      · simp only [Act.put, List.setIfInBounds_toArray, List.set_cons_zero, List.set_cons_succ, i64_w, i32_w]
        rfl
      refine take_ (i := 15) (N := some 79) (v := ?_) (a' := ?_) (bs 23 64895) rfl rfl (take_ofW HT_.out HW_.out (by kernel_rfl)) (fun _ _ _ h => h) (Or.inl ⟨by rfl, ?_⟩) hHeld ?_ ?_
      rotate_left
      · rintro w' ⟨s0, s1, s2⟩
        go_simp
        with_reducible rfl
      rotate_left
      · simp only [Act.put, List.setIfInBounds_toArray, List.set_cons_zero, List.set_cons_succ, i64_w, i32_w]
        rfl
      refine one_ (i := 7) (N := some 71) (bs 23 65023) rfl rfl (one_of HT_.out (by kernel_rfl)) (by decide) (fun K hK => ?_)
      refine goes_ Try.func20 (by kernel_rfl) rfl #[.int .i64 (n : Int), .float .f64 x1] (by rfl) rfl rfl (by (try simp only [List.map_toArray, List.map_cons, List.map_nil]); first | done | rfl) ?_
      with_reducible refine (HC1.out _).mono ?_
      rintro e w' ⟨rfl, rfl⟩
      refine ⟨_, rfl, ?_⟩
      refine hK.out _ _ ⟨hx0, hx1, hy⟩ (fun hHeld => ?_)
      clear hK K
      refine norm_ (a' := ?_) ?_ ?_
      rotate_left
      · show Act.put _ (some 71) _ = _
        simp only [Act.put, List.setIfInBounds_toArray, List.set_cons_zero, List.set_cons_succ, i64_w, i32_w]
        rfl
      refine pure_ (i := 9) (N := some 73) (v := ?_) (a' := ?_) (bs 23 65535) rfl rfl (any_of HT_.out (by kernel_rfl)) (fun _ _ _ h => h) (Or.inl ⟨by rfl, ?_⟩) ?_ ?_
      rotate_left
      · intro w'
        go_simp
        with_reducible rfl
      rotate_left
      · simp only [Act.put, List.setIfInBounds_toArray, List.set_cons_zero, List.set_cons_succ, i64_w, i32_w]
        rfl
      refine one_ (i := 16) (N := some 80) (bs 23 131071) rfl rfl (one_of HT_.out (by kernel_rfl)) (by decide) (fun K hK => ?_)
      refine goes_ Try.func20 (by kernel_rfl) rfl #[.int .i64 (n : Int), .float .f64 x0] (by rfl) rfl rfl (by (try simp only [List.map_toArray, List.map_cons, List.map_nil]); first | done | rfl) ?_
      with_reducible refine (HC0.out _).mono ?_
      rintro e w' ⟨rfl, rfl⟩
      refine ⟨_, rfl, ?_⟩
      refine hK.out _ _ ⟨hx0, hx1, hy⟩ (fun hHeld => ?_)
      clear hK K
      refine norm_ (a' := ?_) ?_ ?_
      rotate_left
      · show Act.put _ (some 80) _ = _
        simp only [Act.put, List.setIfInBounds_toArray, List.set_cons_zero, List.set_cons_succ, i64_w, i32_w]
        rfl
      refine pure_ (i := 17) (N := some 81) (v := ?_) (a' := ?_) (bs 23 262143) rfl rfl (any_of HT_.out (by kernel_rfl)) (fun _ _ _ h => h) (Or.inl ⟨by rfl, ?_⟩) ?_ ?_
      rotate_left
      · intro w'
        go_simp
        with_reducible rfl
      rotate_left
      · simp only [Act.put, List.setIfInBounds_toArray, List.set_cons_zero, List.set_cons_succ, i64_w, i32_w]
        rfl
      refine pure_ (i := 18) (N := some 82) (v := ?_) (a' := ?_) (bs 23 524287) rfl rfl (any_of HT_.out (by kernel_rfl)) (fun _ _ _ h => h) (Or.inl ⟨by rfl, ?_⟩) ?_ ?_
      rotate_left
      · intro w'
        go_simp
        with_reducible rfl
      rotate_left
      · simp only [Act.put, List.setIfInBounds_toArray, List.set_cons_zero, List.set_cons_succ, i64_w, i32_w]
        rfl
      refine take_ (i := 19) (N := some 83) (v := ?_) (a' := ?_) (bs 23 1048575) rfl rfl (take_ofW HT_.out HW_.out (by kernel_rfl)) (fun _ _ _ h => h) (Or.inl ⟨by rfl, ?_⟩) hHeld ?_ ?_
      rotate_left
      · rintro w' ⟨s0, s1, s2⟩
        go_simp
        with_reducible rfl
      rotate_left
      · simp only [Act.put, List.setIfInBounds_toArray, List.set_cons_zero, List.set_cons_succ, i64_w, i32_w]
        rfl
      refine pure_ (i := 20) (N := some 84) (v := ?_) (a' := ?_) (bs 23 2097151) rfl rfl (any_of HT_.out (by kernel_rfl)) (fun _ _ _ h => h) (Or.inl ⟨by rfl, ?_⟩) ?_ ?_
      rotate_left
      · intro w'
        go_simp
        with_reducible rfl
      rotate_left
      · simp only [Act.put, List.setIfInBounds_toArray, List.set_cons_zero, List.set_cons_succ, i64_w, i32_w]
        rfl
      refine pure_ (i := 21) (N := some 85) (v := ?_) (a' := ?_) (bs 23 4194303) rfl rfl (any_of HT_.out (by kernel_rfl)) (fun _ _ _ h => h) (Or.inl ⟨by rfl, ?_⟩) ?_ ?_
      rotate_left
      · intro w'
        go_simp
        with_reducible rfl
      rotate_left
      · simp only [Act.put, List.setIfInBounds_toArray, List.set_cons_zero, List.set_cons_succ, i64_w, i32_w]
        rfl
      refine last_ (i := 22) (N := none) (bs 23 8388607) rfl rfl (one_of HT_.out (by kernel_rfl)) (by decide) (fun K hK => ?_)
      refine skip_ (w1 := ?_) (by rfl) rfl ?_ ?_
      rotate_left
      · go_simp
        rfl
      refine hK.out _ _ ?_
      clear hK K
      refine done_ (done_of HT_.out (by kernel_rfl)) ?_
      go_wp2
      go_roundw
      case rel => exact ⟨k + 1, by omega, by go_num, ⟨HPut.out.1⟩, HBn⟩
      case measure => simp [intOf]; omega
    · have hkl : k = l.length := by omega
      subst hkl
      obtain ⟨w3, hw3⟩ : ∃ w3, w3 = wr := ⟨wr, rfl⟩
      subst hw3
      obtain ⟨cs, hcs⟩ : ∃ cs, cellsL n l l.length = cs := ⟨_, rfl⟩
      have HCs := Aside0.mk hcs
      have hlen := HLn.out l.length
      rw [hcs] at ho hlen HRc HEV
      clear hcs
      go_wp2
      go_loopw [8, 9] (fun e' k' wu => ∃ k : Nat, k ≤ q ∧ .bool (allOne (cs.take k)) = e' ∧ .int .i64 (k : Int) = k' ∧ wu = w3) (fun _ k' _ => q - (intOf k').toNat)
      case atStart => exact ⟨0, Nat.zero_le _, rfl, rfl, rfl⟩
      case round =>
        obtain ⟨k, hk2, rfl, rfl, rfl⟩ := hrel
        by_cases hlt : k < q
        · have z0 : (0 : Int) ≤ (k : Int) := by omega
          have z1 : (k : Int) < (q : Int) := by omega
          obtain ⟨hy, -⟩ := Kd.R_celln 0 ho.out (k : Int) z0 z1
          rw [Int.toNat_natCast] at hy
          have Y : rdOf 0 cs (k : Int) = cs.getD k 0 := by unfold rdOf; rw [Int.toNat_natCast]
          rw [Y] at hy
          have HT := Aside0.mk (allOne_take cs k (by omega))
          clear Y
          generalize cs.getD k 0 = y at *
          cases he : allOne (cs.take k) with
          | true =>
            by_cases hy1 : y = 1
            · have e2 : (y == 1) = true := beq_iff_eq.mpr hy1
              have HT2 := Aside0.mk (show allOne (cs.take (k + 1)) = true by rw [HT.out, he, e2]; rfl)
              clear hy1
              go_wp2
              go_roundw
              case rel => exact ⟨k + 1, by omega, by rw [HT2.out], by go_num, (by first | rfl | trivial)⟩
              case measure => simp [intOf]; omega
            · have e2 : (y == 1) = false := beq_eq_false_iff_ne.mpr hy1
              have HT2 := Aside0.mk (show allOne (cs.take (k + 1)) = false by rw [HT.out, he, e2]; rfl)
              clear hy1
              go_wp2
              go_roundw
              case rel => exact ⟨k + 1, by omega, by rw [HT2.out], by go_num, (by first | rfl | trivial)⟩
              case measure => simp [intOf]; omega
          | false =>
            have HT2 := Aside0.mk (show allOne (cs.take (k + 1)) = false by rw [HT.out, he]; rfl)
            go_wp2
            go_roundw
            case rel => exact ⟨k + 1, by omega, by rw [HT2.out], by go_num, (by first | rfl | trivial)⟩
            case measure => simp [intOf]; omega
        · have hkq : k = q := by omega
          have htk : cs.take k = cs := by rw [hkq, ← hlen]; exact List.take_length
          rw [htk]
          clear htk
          go_wp2
          clear hlt hk2 hkq
          obtain ⟨w3, hw3⟩ : ∃ w3, w3 = wr := ⟨wr, rfl⟩
          subst hw3
          go_loopw [10, 11] (fun s' j' wu => ∃ j : Nat, j ≤ n ∧ .bool (sprT n l l.length j) = s' ∧ .int .i64 (j : Int) = j' ∧ wu = w3) (fun _ j' _ => n - (intOf j').toNat)
          case atStart => exact ⟨0, Nat.zero_le _, rfl, rfl, rfl⟩
          case round =>
            obtain ⟨j, hj, rfl, rfl, rfl⟩ := hrel
            by_cases hjt : j < n
            · obtain ⟨w4, hw4⟩ : ∃ w4, w4 = wr := ⟨wr, rfl⟩
              subst hw4
              go_wp2
              go_loopw [12, 13, 14] (fun a' b' m' wu => ∃ m : Nat, m ≤ l.length ∧ .int .i64 ((cntL n l 0 j m : Nat) : Int) = a' ∧ .int .i64 ((cntL n l 1 j m : Nat) : Int) = b' ∧ .int .i64 (m : Int) = m' ∧ wu = w4) (fun _ _ m' _ => l.length - (intOf m').toNat)
              case atStart => exact ⟨0, Nat.zero_le _, rfl, rfl, rfl, rfl⟩
              case round =>
                obtain ⟨m, hm, rfl, rfl, rfl, rfl⟩ := hrel
                have ha := cntL_le n l 0 j m
                have hb2 := cntL_le n l 1 j m
                by_cases hmt : m < l.length
                · obtain ⟨ad, rfl, hx0, hx1⟩ := pk_at (Kd.C_below HR.out (below_then HB.out HB.out.size hb.out)) m hmt
                  have HA : Aside0 (cntL n l 0 j (m + 1) = cntL n l 0 j m + (if cellN n (l.getD m (0, 0)).1 = j then 1 else 0)) := ⟨rfl⟩
                  have HBb : Aside0 (cntL n l 1 j (m + 1) = cntL n l 1 j m + (if cellN n (l.getD m (0, 0)).2 = j then 1 else 0)) := ⟨rfl⟩
                  generalize (l.getD m (0, 0)).1 = x0 at *
                  generalize (l.getD m (0, 0)).2 = x1 at *
                  have hc0 := HCC.out x0
                  have hc1 := HCC.out x1
                  generalize cellN n x0 = i0 at *
                  generalize cellN n x1 = i1 at *
                  have HC0 := Aside0.mk hc0
                  have HC1 := Aside0.mk hc1
                  have y0 : (0 : Int) ≤ (m : Int) := by omega
                  have y1 : (m : Int) < (l.length : Int) := by omega
                  clear hc0 hc1
                  generalize cntL n l 0 j m = a at *
                  generalize cntL n l 1 j m = b at *
                  have w0 : IntKind.i64.wrap ((a : Int) + 1) = (a : Int) + 1 := IntWalk.i64_in _ (by omega)
                  have w1 : IntKind.i64.wrap ((b : Int) + 1) = (b : Int) + 1 := IntWalk.i64_in _ (by omega)
                  by_cases g0 : i0 = j
                  · by_cases g1 : i1 = j
                    · have HA1 := Aside0.mk (show cntL n l 0 j (m + 1) = a + 1 by rw [HA.out, if_pos g0])
                      have HB1 := Aside0.mk (show cntL n l 1 j (m + 1) = b + 1 by rw [HBb.out, if_pos g1])
                      have f0 : ((i0 : Int) == (j : Int)) = true := by rw [beq_iff_eq]; omega
                      have f1 : ((i1 : Int) == (j : Int)) = true := by rw [beq_iff_eq]; omega
                      clear g0 g1
                      go_wp2_with (go_at_call 20; first | (with_reducible refine (HC0.out _).mono ?_; rintro e w' ⟨rfl, rfl⟩) | (with_reducible refine (HC1.out _).mono ?_; rintro e w' ⟨rfl, rfl⟩))
                      go_roundw
                      case rel => exact ⟨m + 1, by omega, by rw [HA1.out] <;> go_num, by rw [HB1.out] <;> go_num, by go_num, (by first | rfl | trivial)⟩
                      case measure => simp [intOf]; omega
                    · have HA1 := Aside0.mk (show cntL n l 0 j (m + 1) = a + 1 by rw [HA.out, if_pos g0])
                      have HB1 := Aside0.mk (show cntL n l 1 j (m + 1) = b by rw [HBb.out, if_neg g1, Nat.add_zero])
                      have f0 : ((i0 : Int) == (j : Int)) = true := by rw [beq_iff_eq]; omega
                      have f1 : ((i1 : Int) == (j : Int)) = false := by rw [beq_eq_false_iff_ne]; omega
                      clear g0 g1
                      go_wp2_with (go_at_call 20; first | (with_reducible refine (HC0.out _).mono ?_; rintro e w' ⟨rfl, rfl⟩) | (with_reducible refine (HC1.out _).mono ?_; rintro e w' ⟨rfl, rfl⟩))
                      go_roundw
                      case rel => exact ⟨m + 1, by omega, by rw [HA1.out] <;> go_num, by rw [HB1.out] <;> go_num, by go_num, (by first | rfl | trivial)⟩
                      case measure => simp [intOf]; omega
                  · by_cases g1 : i1 = j
                    · have HA1 := Aside0.mk (show cntL n l 0 j (m + 1) = a by rw [HA.out, if_neg g0, Nat.add_zero])
                      have HB1 := Aside0.mk (show cntL n l 1 j (m + 1) = b + 1 by rw [HBb.out, if_pos g1])
                      have f0 : ((i0 : Int) == (j : Int)) = false := by rw [beq_eq_false_iff_ne]; omega
                      have f1 : ((i1 : Int) == (j : Int)) = true := by rw [beq_iff_eq]; omega
                      clear g0 g1
                      go_wp2_with (go_at_call 20; first | (with_reducible refine (HC0.out _).mono ?_; rintro e w' ⟨rfl, rfl⟩) | (with_reducible refine (HC1.out _).mono ?_; rintro e w' ⟨rfl, rfl⟩))
                      go_roundw
                      case rel => exact ⟨m + 1, by omega, by rw [HA1.out] <;> go_num, by rw [HB1.out] <;> go_num, by go_num, (by first | rfl | trivial)⟩
                      case measure => simp [intOf]; omega
                    · have HA1 := Aside0.mk (show cntL n l 0 j (m + 1) = a by rw [HA.out, if_neg g0, Nat.add_zero])
                      have HB1 := Aside0.mk (show cntL n l 1 j (m + 1) = b by rw [HBb.out, if_neg g1, Nat.add_zero])
                      have f0 : ((i0 : Int) == (j : Int)) = false := by rw [beq_eq_false_iff_ne]; omega
                      have f1 : ((i1 : Int) == (j : Int)) = false := by rw [beq_eq_false_iff_ne]; omega
                      clear g0 g1
                      go_wp2_with (go_at_call 20; first | (with_reducible refine (HC0.out _).mono ?_; rintro e w' ⟨rfl, rfl⟩) | (with_reducible refine (HC1.out _).mono ?_; rintro e w' ⟨rfl, rfl⟩))
                      go_roundw
                      case rel => exact ⟨m + 1, by omega, by rw [HA1.out] <;> go_num, by rw [HB1.out] <;> go_num, by go_num, (by first | rfl | trivial)⟩
                      case measure => simp [intOf]; omega
                · have hml : m = l.length := by omega
                  subst hml
                  have HT := Aside0.mk (show sprT n l l.length (j + 1) = ((sprT n l l.length j && (cntL n l 0 j l.length == 1)) && (cntL n l 1 j l.length == 1)) from rfl)
                  generalize cntL n l 0 j l.length = a at *
                  generalize cntL n l 1 j l.length = b at *
                  have f0 : ((a : Int) == 1) = (a == 1) := by rw [Bool.eq_iff_iff, beq_iff_eq, beq_iff_eq]; omega
                  have f1 : ((b : Int) == 1) = (b == 1) := by rw [Bool.eq_iff_iff, beq_iff_eq, beq_iff_eq]; omega
                  generalize (a == 1) = ea at *
                  generalize (b == 1) = eb at *
                  generalize sprT n l l.length j = es at *
                  cases es <;> cases ea <;> cases eb
                  all_goals
                    go_wp2
                    go_roundw
                    case rel => exact ⟨j + 1, by omega, by rw [HT.out]; rfl, by go_num, (by first | rfl | trivial)⟩
                    case measure => simp [intOf]; omega
            · have hjn : j = n := by omega
              rw [hjn]
              clear hjt hj hjn
              have HBw := Aside0.mk (below_then HB.out HB.out.size hb.out)
              have hqc : cs.length ≤ q := by omega
              have hq6 : cs.length ≤ 1000000 := by omega
              have HLen := Aside0.mk hlen
              generalize sprT n l l.length n = T at HSP ⊢
              generalize allOne cs = ev at HEV ⊢
              have hev : (ev == ev) = true := by simp
              have hT : (T == T) = true := by simp
              clear hlen hs0
              go_wp2_with (first
                | (go_at_call 6; refine (awake42 _).mono ?_; rintro e w5 ⟨rfl, hb5⟩; have HB5 := Aside0.mk (below_then HBw.out HBw.out.size hb5); have HI := Aside0.mk (ints_any (some ⟨g, 0, none⟩) q (some ⟨w2.heap.size, 0, none⟩) q cs hq6 w5 (Kd.R_reads' (Kd.R_below HRc.out (below_then hb.out hb.out.size hb5))).2.2 hqc (Kd.R_reads' (Kd.R_below ho.out hb5)).2.2 hqc); rw [HLen.out] at HI; clear hb5)
                | (go_at_call 16; refine HI.out.mono ?_; rintro e w6 ⟨rfl, hb6⟩; have HB6 := Aside0.mk (below_then HB5.out HB5.out.size hb6); clear hb6)
                | (go_at_call 10; refine (HEV.out _ HB6.out).mono ?_; rintro e w7 ⟨rfl, hb7⟩; have HB7 := Aside0.mk (below_then HB6.out HB6.out.size hb7); clear hb7)
                | (go_at_call 18; refine (HSP.out _ HB7.out).mono ?_; rintro e w8 ⟨rfl, hb8⟩; have HB8 := Aside0.mk (below_then HB7.out HB7.out.size hb8); clear hb8))
              go_ret
              exact ⟨rfl, HB8.out⟩
/-- THE STATEMENT -/
theorem strataCounts_any (n : Int) (A : Option Addr) (c : Nat) (l : List (Nat × Nat)) (w : World) (hr : PK.C w A l.length l) :
    Calls Try.prog 5 #[.int .i64 n, .slice A l.length c] w fun e w' => e = .returned (.bool true) ∧ Below w.heap.size w w' := by
  by_cases hL : 100 < l.length
  · exact counts_long n A l.length c hL w
  · by_cases hn : n < 1 ∨ 64 < n
    · exact counts_out n hn A l.length c (by omega) w
    · obtain ⟨m, rfl⟩ := Int.eq_ofNat_of_zero_le (show 0 ≤ n by omega)
      exact counts_in m (by omega) (by omega) A c l w hr (by omega)
end Go.Proofs.Ytkmdbidjdppdnaa.Gv
