/- How many draws lie in each part: the walk of Cells. -/
import Derived.Test.YtkmdbidjdppdnaaQc
namespace Go.Proofs.Ytkmdbidjdppdnaa.Gv
open Go.RowKit Go.Proofs.Ytkmdbidjdppdnaa.X Go.Proofs.YtkmdbidjdppdnaaW.PrintWords Go.Proofs.YtkmdbidjdppdnaaW.PrintLast Go.Proofs.YtkmdbidjdppdnaaW.PrintMore
set_option linter.unusedVariables false
set_option linter.unusedSimpArgs false
attribute [local go_sem] max2_int min2_int max_two min_two
theorem run_store_float (P : Program) (w : World) (a : Addr) (m : Mode) (k : FloatKind) (b : Nat) : (store a (.float k b) m).run P w = stored P w a (.float k b) m := run_store P w a _ m rfl
attribute [local go_sem] run_store_float
theorem info3 : (Try.prog.info? 3).map (fun i => (i.zero, i.size, i.bytes)) = some (some (.int .i64 0), 1, 8) := by kernel_rfl
theorem made_ints (n : Nat) (hn : n ≤ 1000000) (W : World) :
    (Instr.makeSlice 40 (.int .i64 (n : Int)) (.int .i64 (n : Int))).run Try.prog W = .ok (.slice (some ⟨W.heap.size, 0, none⟩) n n) (W.alloc (.cells (madeCells #[.int .i64 0] n) 3)) :=
  run_make_row' (P := Try.prog) 40 3 (.int .i64 0) 8 Try.underlying40 info3 rfl .i64 .i64 n (by omega) (by omega) W
theorem made_owns (n : Nat) (hn : n ≤ 1000000) (W : World) (base : Nat) (hb : base ≤ W.heap.size) :
    Kd.R (Kd.int .i64) 3 (W.alloc (.cells (madeCells #[.int .i64 0] n) 3)) base (fun _ => True) (.slice (some ⟨W.heap.size, 0, none⟩) n n) (List.replicate n 0) := by
  obtain ⟨i0, hi, hzz⟩ := Option.map_eq_some_iff.1 info3
  simp only [Prod.mk.injEq] at hzz
  obtain ⟨hz0, hz1, hz2⟩ := hzz
  obtain ⟨w', hr, ho, _⟩ := run_make_full (P := Try.prog) W base 40 3 i0 (.int .i64 0) 1 Try.underlying40 hi hz0 hz1 .i64 .i64 n (by rw [hz2]; omega) (by unfold maxLen; omega) hb
  rw [made_ints n hn W] at hr
  injection hr with _ hw
  subst hw
  refine Kd.R_of_own ?_ (fun _ _ => trivial)
  rw [List.length_replicate]
  have e : (madeCells (Value.int .i64 0).cells (n * 1)).toList = encs (Value.int .i64) (List.replicate n 0) := by
    apply List.ext_getElem
    · simp [madeCells, encs]
    · intro i h1 h2
      simp [madeCells, encs, Value.cells, Nat.mod_one]
  rw [← e]
  exact ho
theorem adr_add (a : Addr) (m n : Nat) : (a.add m).add n = a.add (m + n) := by
  unfold Addr.add
  repeat' split
  all_goals first | rfl | omega | simp_all [Nat.add_assoc]
/-- a pair of a row that is read -/
theorem pk_at {w : World} {A : Option Addr} {l : List (Nat × Nat)} {m : Nat} (h : PK.C w A m l) (j : Nat) (hj : j < m) : ∃ ad, A = some ad ∧ w.cell? (ad.add (j * 2)) = some (.float .f64 (l.getD j (0, 0)).1) ∧ w.cell? ⟨(ad.add (j * 2)).block, (ad.add (j * 2)).off + 1, none⟩ = some (.float .f64 (l.getD j (0, 0)).2) := by
  obtain ⟨ad, c, e, hc, hk, hu⟩ := Kd.C_get h (0, 0) (j : Int) (by omega) (by omega)
  rw [Int.toNat_natCast] at hk hu
  obtain ⟨c0, c1, rfl, k0, k1⟩ := hk
  have e0 : c0 = [.float .f64 (l.getD j (0, 0)).1] := k0
  have e1 : c1 = [.float .f64 (l.getD j (0, 0)).2] := k1
  subst e0 e1
  exact ⟨ad, e, hu 0 _ rfl, by rw [show (⟨(ad.add (j * 2)).block, (ad.add (j * 2)).off + 1, none⟩ : Addr) = (ad.add (j * 2)).add 1 from rfl, adr_add]; exact hu 1 _ rfl⟩
/-- the part a pair lies in -/
def cellI (n : Nat) (p : Nat × Nat) : Nat := cellN n p.2 * n + cellN n p.1
theorem cellI_lt {n : Nat} (h : 1 ≤ n) (p : Nat × Nat) : cellI n p < n * n := by
  unfold cellI
  have h1 := cellN_lt (x := p.1) h
  have h2 := Nat.mul_le_mul_right n (show cellN n p.2 + 1 ≤ n from cellN_lt (x := p.2) h)
  rw [Nat.add_mul, Nat.one_mul] at h2
  omega
/-- how many of the first m lie in each part -/
def cellsL (n : Nat) (l : List (Nat × Nat)) : Nat → List Int
  | 0 => List.replicate (n * n) 0
  | m + 1 => (cellsL n l m).set (cellI n (l.getD m (0, 0))) ((cellsL n l m).getD (cellI n (l.getD m (0, 0))) 0 + 1)
theorem cellsL_length (n : Nat) (l : List (Nat × Nat)) : ∀ m, (cellsL n l m).length = n * n
  | 0 => List.length_replicate
  | m + 1 => by rw [cellsL, List.length_set]; exact cellsL_length n l m
/-- what is counted is small -/
theorem cellsL_le (n : Nat) (l : List (Nat × Nat)) : ∀ m q, 0 ≤ (cellsL n l m).getD q 0 ∧ (cellsL n l m).getD q 0 ≤ m
  | 0, q => by
    rw [cellsL, List.getD_eq_getElem?_getD, List.getElem?_replicate]
    split <;> exact ⟨Int.le_refl _, Int.le_refl _⟩
  | m + 1, q => by
    have h1 := cellsL_le n l m q
    have h2 := cellsL_le n l m (cellI n (l.getD m (0, 0)))
    rw [cellsL, List.getD_eq_getElem?_getD, List.getElem?_set]
    generalize cellI n (l.getD m (0, 0)) = p at *
    split
    · split
      · exact ⟨by simp only [Option.getD_some]; omega, by simp only [Option.getD_some]; omega⟩
      · exact ⟨by simp, by simp only [Option.getD_none]; omega⟩
    · rw [← List.getD_eq_getElem?_getD]
      omega
theorem cells_no (n : Int) (h : n < 1 ∨ 64 < n) (A : Option Addr) (L c : Nat) (w : World) :
    Calls Try.prog 19 #[.int .i64 n, .slice A L c] w fun e w' => e = .returned (.slice none 0 0) ∧ w = w' := by
  by_cases h1 : n < 1
  · clear h
    go_enter Try.func19, Try.ntmps19
    go_wp2
    go_ret
    exact ⟨rfl, rfl⟩
  · have h2 : 64 < n := by omega
    have h3 : 1 ≤ n := by omega
    clear h h1
    go_enter Try.func19, Try.ntmps19
    go_wp2
    go_ret
    exact ⟨rfl, rfl⟩
def cellR.T7 : Bool × List (List Nat × List Nat) := (true, [([], []), ([], []), ([1], [1]), ([0, 2], [0, 2]), ([], []), ([4], [4]), ([3, 5], [3, 5]), ([], []), ([], []), ([8], [8]), ([7, 9, 3], [7, 9]), ([], []), ([11], [11]), ([10, 12], [10, 12]), ([6, 10, 0, 1, 2, 3, 4, 5, 6], [6]), ([13, 14, 0, 1, 2, 3, 4, 5, 6, 7, 8, 9, 10, 11, 12, 13, 14], [13])])
def cellR.B7 : List Nat := [0, 0, 2, 7, 0, 16, 63, 0, 0, 256, 911, 0, 2048, 8079, 2047, 32767]
theorem cellR.tab7 : rtab .any (opsOf Try.f19 7) = cellR.T7 := by kernel_rfl
theorem cellR.bits7 : waitsOk cellR.T7.2 cellR.B7 = true := by kernel_rfl
set_option maxHeartbeats 8000000 in
theorem cells_any (n : Nat) (h1 : 1 ≤ n) (h2 : n ≤ 64) (A : Option Addr) (c : Nat) (l : List (Nat × Nat)) (w : World) (hr : PK.C w A l.length l) (hl : l.length ≤ 1000000) :
    Calls Try.prog 19 #[.int .i64 (n : Int), .slice A l.length c] w fun e w' => ∃ g, e = .returned (.slice (some ⟨g, 0, none⟩) (n * n) (n * n)) ∧ w.heap.size ≤ g ∧ Kd.R (Kd.int .i64) 3 w' w.heap.size (fun _ => True) (.slice (some ⟨g, 0, none⟩) (n * n) (n * n)) (cellsL n l l.length) ∧ Below w.heap.size w w' := by
  have hnn : n * n ≤ 4096 := Nat.mul_le_mul h2 h2
  have HR := Aside0.mk hr
  have m0 : IntKind.i64.wrap ((n : Int) * (n : Int)) = ((n * n : Nat) : Int) := by rw [← Int.natCast_mul]; exact IntWalk.i64_in _ (by omega)
  have HCL := Aside0.mk (fun (p : Nat × Nat) => cellI_lt h1 p)
  have HM := Aside0.mk (fun (x : Nat) => cellN_min (x := x) h1 (show n < 66 by omega))
  have HCC := Aside0.mk (fun (x : Nat) (W : World) => cell_any n x (by omega) W)
  have HO0 := Aside0.mk (made_owns (n * n) (by omega) w w.heap.size (Nat.le_refl _))
  have HL0 : cellsL n l 0 = List.replicate (n * n) 0 := rfl
  rw [← HL0] at HO0
  have HA := Aside0.mk (show Below w.heap.size w (w.alloc (.cells (madeCells #[.int .i64 0] (n * n)) 3)) from Below.alloc (Below.refl _ _) (Nat.le_refl _) _)
  have hmk := made_ints (n * n) (by omega)
  obtain ⟨q, hq⟩ : ∃ q, n * n = q := ⟨_, rfl⟩
  have HQ := Aside0.mk hq
  rw [hq] at m0 hnn HCL HO0 HA hmk ⊢
  clear hr hq HL0
  go_enter Try.func19, Try.ntmps19
  go_wp2
  go_loopw [22] (fun k' wr => ∃ k : Nat, k ≤ l.length ∧ .int .i64 (k : Int) = k' ∧ Aside0 (Kd.R (Kd.int .i64) 3 wr w.heap.size (fun _ => True) (.slice (some ⟨w.heap.size, 0, none⟩) q q) (cellsL n l k)) ∧ Aside0 (Below w.heap.size w wr)) (fun k' _ => l.length - (intOf k').toNat)
  case atStart => exact ⟨0, Nat.zero_le _, rfl, HO0, HA⟩
  case round =>
    obtain ⟨k, hk, rfl, ho, hb⟩ := hrel
    by_cases hlt : k < l.length
    · obtain ⟨ad, rfl, hx0, hx1⟩ := pk_at (Kd.C_below HR.out hb.out) k hlt
      obtain ⟨x0, e0⟩ : ∃ x0, (l.getD k (0, 0)).1 = x0 := ⟨_, rfl⟩
      obtain ⟨x1, e1⟩ : ∃ x1, (l.getD k (0, 0)).2 = x1 := ⟨_, rfl⟩
      rw [e0] at hx0
      rw [e1] at hx1
      have HI := Aside0.mk (show cellI n (l.getD k (0, 0)) = cellN n x1 * n + cellN n x0 by unfold cellI; rw [e0, e1])
      clear e0 e1
      have hcl := cellI_lt h1 (l.getD k (0, 0))
      rw [HQ.out, HI.out] at hcl
      obtain ⟨i0, hi0⟩ : ∃ i0, cellN n x0 = i0 := ⟨_, rfl⟩
      obtain ⟨i1, hi1⟩ : ∃ i1, cellN n x1 = i1 := ⟨_, rfl⟩
      have hm0 : (if (n : Int) - 1 < cellV n x0 then (n : Int) - 1 else cellV n x0) = (i0 : Int) := by rw [← hi0, ← HM.out x0]; omega
      have hm1 : (if (n : Int) - 1 < cellV n x1 then (n : Int) - 1 else cellV n x1) = (i1 : Int) := by rw [← hi1, ← HM.out x1]; omega
      rw [hi0, hi1] at hcl HI
      clear hi0 hi1
      obtain ⟨pm, hpm⟩ : ∃ pm, i1 * n = pm := ⟨_, rfl⟩
      obtain ⟨p, hpp⟩ : ∃ p, pm + i0 = p := ⟨_, rfl⟩
      have s1 : IntKind.i64.wrap ((i1 : Int) * (n : Int)) = (pm : Int) := by rw [← Int.natCast_mul, hpm]; exact IntWalk.i64_in _ (by omega)
      rw [hpm, hpp] at hcl HI
      have s2 : IntKind.i64.wrap ((pm : Int) + (i0 : Int)) = (p : Int) := by rw [← Int.natCast_add, hpp]; exact IntWalk.i64_in _ (by omega)
      clear hpm hpp
      have z0 : (0 : Int) ≤ (p : Int) := by omega
      have z1 : (p : Int) < (q : Int) := by omega
      have hle := cellsL_le n l k p
      have HS := Aside0.mk (show cellsL n l (k + 1) = (cellsL n l k).set p ((cellsL n l k).getD p 0 + 1) by rw [cellsL, HI.out])
      have hn1 : IntKind.i64.wrap ((n : Int) - 1) = (n : Int) - 1 := IntWalk.i64_in _ (by omega)
      have HBk := Aside0.mk (blk_new wr (.cells #[.float .f64 x0, .float .f64 x1] 29))
      have hp0 : (wr.alloc (.cells #[.float .f64 x0, .float .f64 x1] 29)).drew.cell? ⟨wr.heap.size, 0, none⟩ = some (.float .f64 x0) := (blk_cell (blk_drew HBk.out) 0).trans rfl
      have hp1 : (wr.alloc (.cells #[.float .f64 x0, .float .f64 x1] 29)).drew.cell? ⟨wr.heap.size, 1, none⟩ = some (.float .f64 x1) := (blk_cell (blk_drew HBk.out) 1).trans rfl
      go_wp2
      refine start_ (n := 16) (S := fun w' => w'.cell? ⟨wr.heap.size, 0, none⟩ = some (.float .f64 x0) ∧ w'.cell? ⟨wr.heap.size, 1, none⟩ = some (.float .f64 x1)) (ds := []) (bs 16 0) (by kernel_rfl) rfl (by kernel_rfl) ⟨hp0, hp1⟩ (fun hHeld => ?_)
      refine with_tabW cellR.tab7 cellR.bits7 (fun HT_ HW_ => ?_)
      have H0 := Aside0.mk hHeld
      refine pure_ (i := 0) (N := some 26) (v := ?_) (a' := ?_) (bs 16 1) rfl rfl (any_of HT_.out (by kernel_rfl)) (fun _ _ _ h => h) (Or.inl ⟨by rfl, ?_⟩) ?_ ?_
      rotate_left
      · intro w'
        go_simp
        with_reducible rfl
      rotate_left
      · simp only [Act.put, List.setIfInBounds_toArray, List.set_cons_zero, List.set_cons_succ, i64_w, i32_w]
        rfl
      refine pure_ (i := 1) (N := some 27) (v := ?_) (a' := ?_) (bs 16 3) rfl rfl (any_of HT_.out (by kernel_rfl)) (fun _ _ _ h => h) (Or.inl ⟨by rfl, ?_⟩) ?_ ?_
      rotate_left
      · intro w'
        go_simp
        with_reducible rfl
      rotate_left
      · simp only [Act.put, List.setIfInBounds_toArray, List.set_cons_zero, List.set_cons_succ, i64_w, i32_w]
        rfl
      refine pure_ (i := 4) (N := some 30) (v := ?_) (a' := ?_) (bs 16 19) rfl rfl (any_of HT_.out (by kernel_rfl)) (fun _ _ _ h => h) (Or.inl ⟨by rfl, ?_⟩) ?_ ?_
      rotate_left
      · intro w'
        go_simp
        with_reducible rfl
      rotate_left
      · simp only [Act.put, List.setIfInBounds_toArray, List.set_cons_zero, List.set_cons_succ, i64_w, i32_w]
        rfl
      refine pure_ (i := 5) (N := some 31) (v := ?_) (a' := ?_) (bs 16 51) rfl rfl (any_of HT_.out (by kernel_rfl)) (fun _ _ _ h => h) (Or.inl ⟨by rfl, ?_⟩) ?_ ?_
      rotate_left
      · intro w'
        go_simp
        with_reducible rfl
      rotate_left
      · simp only [Act.put, List.setIfInBounds_toArray, List.set_cons_zero, List.set_cons_succ, i64_w, i32_w]
        rfl
      refine pure_ (i := 7) (N := some 33) (v := ?_) (a' := ?_) (bs 16 179) rfl rfl (any_of HT_.out (by kernel_rfl)) (fun _ _ _ h => h) (Or.inl ⟨by rfl, ?_⟩) ?_ ?_
      rotate_left
      · intro w'
        go_simp
        with_reducible rfl
      rotate_left
      · simp only [Act.put, List.setIfInBounds_toArray, List.set_cons_zero, List.set_cons_succ, i64_w, i32_w]
        rfl
      refine pure_ (i := 8) (N := some 34) (v := ?_) (a' := ?_) (bs 16 435) rfl rfl (any_of HT_.out (by kernel_rfl)) (fun _ _ _ h => h) (Or.inl ⟨by rfl, ?_⟩) ?_ ?_
      rotate_left
      · intro w'
        go_simp
        with_reducible rfl
      rotate_left
      · simp only [Act.put, List.setIfInBounds_toArray, List.set_cons_zero, List.set_cons_succ, i64_w, i32_w]
        rfl
      refine pure_ (i := 11) (N := some 37) (v := ?_) (a' := ?_) (bs 16 2483) rfl rfl (any_of HT_.out (by kernel_rfl)) (fun _ _ _ h => h) (Or.inl ⟨by rfl, ?_⟩) ?_ ?_
      rotate_left
      · intro w'
        go_simp
        with_reducible rfl
      rotate_left
      · simp only [Act.put, List.setIfInBounds_toArray, List.set_cons_zero, List.set_cons_succ, i64_w, i32_w]
        rfl
      refine pure_ (i := 12) (N := some 38) (v := ?_) (a' := ?_) (bs 16 6579) rfl rfl (any_of HT_.out (by kernel_rfl)) (fun _ _ _ h => h) (Or.inl ⟨by rfl, ?_⟩) ?_ ?_
      rotate_left
      · intro w'
        go_simp
        with_reducible rfl
      rotate_left
      · simp only [Act.put, List.setIfInBounds_toArray, List.set_cons_zero, List.set_cons_succ, i64_w, i32_w]
        rfl
      refine take_ (i := 2) (N := some 28) (v := ?_) (a' := ?_) (bs 16 6583) rfl rfl (take_ofW HT_.out HW_.out (by kernel_rfl)) (fun _ _ _ h => h) (Or.inl ⟨by rfl, ?_⟩) hHeld ?_ ?_
      rotate_left
      · rintro w' ⟨s0, s1⟩
        go_simp
        with_reducible rfl
      rotate_left
      · simp only [Act.put, List.setIfInBounds_toArray, List.set_cons_zero, List.set_cons_succ, i64_w, i32_w]
        rfl
      refine take_ (i := 9) (N := some 35) (v := ?_) (a' := ?_) (bs 16 7095) rfl rfl (take_ofW HT_.out HW_.out (by kernel_rfl)) (fun _ _ _ h => h) (Or.inl ⟨by rfl, ?_⟩) hHeld ?_ ?_
      rotate_left
      · rintro w' ⟨s0, s1⟩
        go_simp
        with_reducible rfl
      rotate_left
      · simp only [Act.put, List.setIfInBounds_toArray, List.set_cons_zero, List.set_cons_succ, i64_w, i32_w]
        rfl
      refine one_ (i := 3) (N := some 29) (bs 16 7103) rfl rfl (one_of HT_.out (by kernel_rfl)) (by decide) (fun K hK => ?_)
      refine goes_ Try.func28 (by kernel_rfl) rfl #[.int .i64 (n : Int), .float .f64 x0] (by rfl) rfl rfl (by (try simp only [List.map_toArray, List.map_cons, List.map_nil]); first | done | rfl) ?_
      with_reducible refine (HCC.out x0 _).mono ?_
      rintro e w' ⟨rfl, rfl⟩
      refine ⟨_, rfl, ?_⟩
      refine hK.out _ _ ⟨hp0, hp1⟩ (fun hHeld => ?_)
      clear hK K
      refine norm_ (a' := ?_) ?_ ?_
      rotate_left
      · show Act.put _ (some 29) _ = _
        simp only [Act.put, List.setIfInBounds_toArray, List.set_cons_zero, List.set_cons_succ, i64_w, i32_w]
        rfl
      refine pure_ (i := 6) (N := some 32) (v := ?_) (a' := ?_) (bs 16 7167) rfl rfl (any_of HT_.out (by kernel_rfl)) (fun _ _ _ h => h) (Or.inl ⟨by rfl, ?_⟩) ?_ ?_
      rotate_left
      · intro w'
        go_simp
        with_reducible rfl
      rotate_left
      · simp only [Act.put, List.setIfInBounds_toArray, List.set_cons_zero, List.set_cons_succ, i64_w, i32_w]
        rfl
      refine one_ (i := 10) (N := some 36) (bs 16 8191) rfl rfl (one_of HT_.out (by kernel_rfl)) (by decide) (fun K hK => ?_)
      refine goes_ Try.func28 (by kernel_rfl) rfl #[.int .i64 (n : Int), .float .f64 x1] (by rfl) rfl rfl (by (try simp only [List.map_toArray, List.map_cons, List.map_nil]); first | done | rfl) ?_
      with_reducible refine (HCC.out x1 _).mono ?_
      rintro e w' ⟨rfl, rfl⟩
      refine ⟨_, rfl, ?_⟩
      refine hK.out _ _ ⟨hp0, hp1⟩ (fun hHeld => ?_)
      clear hK K
      refine norm_ (a' := ?_) ?_ ?_
      rotate_left
      · show Act.put _ (some 36) _ = _
        simp only [Act.put, List.setIfInBounds_toArray, List.set_cons_zero, List.set_cons_succ, i64_w, i32_w]
        rfl
      refine pure_ (i := 13) (N := some 39) (v := ?_) (a' := ?_) (bs 16 16383) rfl rfl (any_of HT_.out (by kernel_rfl)) (fun _ _ _ h => h) (Or.inl ⟨by rfl, ?_⟩) ?_ ?_
      rotate_left
      · intro w'
        go_simp
        with_reducible rfl
      rotate_left
      · simp only [Act.put, List.setIfInBounds_toArray, List.set_cons_zero, List.set_cons_succ, i64_w, i32_w]
        rfl
      refine pure_ (i := 14) (N := some 8) (v := ?_) (a' := ?_) (bs 16 32767) rfl rfl (any_of HT_.out (by kernel_rfl)) (fun _ _ _ h => h) (Or.inl ⟨by rfl, ?_⟩) ?_ ?_
      rotate_left
      · intro w'
        go_simp
        with_reducible rfl
      rotate_left
      · simp only [Act.put, List.setIfInBounds_toArray, List.set_cons_zero, List.set_cons_succ, i64_w, i32_w]
        rfl
      refine pure_ (i := 15) (N := some 9) (v := ?_) (a' := ?_) (bs 16 65535) rfl rfl (any_of HT_.out (by kernel_rfl)) (fun _ _ _ h => h) (Or.inl ⟨by rfl, ?_⟩) ?_ ?_
      rotate_left
      · intro w'
        go_simp
        with_reducible rfl
      rotate_left
      · simp only [Act.put, List.setIfInBounds_toArray, List.set_cons_zero, List.set_cons_succ, i64_w, i32_w]
        rfl
      refine done_ (done_of HT_.out (by kernel_rfl)) ?_
      have HO8 := Aside0.mk (Kd.R_drew (Kd.R_alloc ho.out (.cells #[.float .f64 x0, .float .f64 x1] 29)))
      have HB8 := Aside0.mk ((hb.out.alloc hb.out.size (.cells #[.float .f64 x0, .float .f64 x1] 29)).drew)
      generalize (wr.alloc (.cells #[.float .f64 x0, .float .f64 x1] 29)).drew = W8 at HO8 HB8 hHeld ⊢
      obtain ⟨hy, hf⟩ := Kd.R_celln 0 HO8.out (p : Int) z0 z1
      rw [Int.toNat_natCast] at hy hf
      have Y : rdOf 0 (cellsL n l k) (p : Int) = (cellsL n l k).getD p 0 := by unfold rdOf; rw [Int.toNat_natCast]
      rw [Y] at hy
      have HPut0 := Kd.R_putg HO8.out (p : Int) ((cellsL n l k).getD p 0 + 1)
      rw [Int.toNat_natCast, ← HS.out] at HPut0
      have HPut := Aside0.mk HPut0
      clear HPut0 Y hp0 hp1
      generalize (cellsL n l k).getD p 0 = y at *
      have hn2 : IntKind.i64.wrap (y + 1) = y + 1 := IntWalk.i64_in _ (by omega)
      go_wp2
      go_roundw
      case rel => exact ⟨k + 1, by omega, by go_num, ⟨HPut.out.1⟩, ⟨HB8.out.setCell (p := ⟨w.heap.size, p, none⟩) (Nat.le_refl _) _⟩⟩
      case measure => simp [intOf]; omega
    · have hkq : k = l.length := by omega
      have HE := Aside0.mk hkq
      clear hkq
      go_wp2
      go_ret
      refine ⟨_, rfl, Nat.le_refl _, ?_, hb.out⟩
      have h9 := ho.out
      rw [HE.out] at h9
      exact h9
end Go.Proofs.Ytkmdbidjdppdnaa.Gv
