/- Draws laid in a grid: the walk of Grid. -/
import Derived.Test.YtkmdbidjdppdnaaQb
namespace Go.Proofs.Ytkmdbidjdppdnaa.Gv
open Go.RowKit Go.Proofs.Ytkmdbidjdppdnaa.X Go.Proofs.YtkmdbidjdppdnaaW.PrintWords Go.Proofs.YtkmdbidjdppdnaaW.PrintLast
set_option linter.unusedVariables false
set_option linter.unusedSimpArgs false
/-- pairs of floats in a row -/
def PK : Kd (Nat × Nat) := Kd.pair FK FK
theorem atF_cln (xs : List Nat) (i : Int) : ∃ r, Cln (atF xs i) r := by
  unfold atF
  split
  · exact cln_of _
  · exact ⟨0, cln_zero⟩
def gAt (n : Nat) (xs : List Nat) (k : Nat) : Nat × Nat := (layW n (k % n) (atF xs ((2 * k : Nat) : Int)), layW n (k / n) (atF xs ((2 * k + 1 : Nat) : Int)))
def gridL (n : Nat) (xs : List Nat) (m : Nat) : List (Nat × Nat) := (List.range m).map (gAt n xs)
theorem gridL_length (n : Nat) (xs : List Nat) (m : Nat) : (gridL n xs m).length = m := by simp [gridL]
theorem gridL_succ (n : Nat) (xs : List Nat) (m : Nat) : gridL n xs (m + 1) = gridL n xs m ++ [gAt n xs m] := by simp [gridL, List.range_succ]
theorem infoP : (Try.prog.info? 29).map (fun i => (i.zero, i.size, i.bytes)) = some (some (.agg #[.float .f64 0, .float .f64 0]), 2, 16) := by kernel_rfl
theorem grid_no (n : Int) (h : n < 1 ∨ 64 < n) (A : Option Addr) (L c : Nat) (w : World) :
    Calls Try.prog 7 #[.int .i64 n, .slice A L c] w fun e w' => e = .returned (.tuple #[.slice none 0 0, .int .i64 3]) ∧ w = w' := by
  by_cases h1 : n < 1
  · clear h
    go_enter Try.func7, Try.ntmps7
    go_wp2
    go_ret2
    exact ⟨rfl, rfl⟩
  · have h2 : 64 < n := by omega
    have h3 : 1 ≤ n := by omega
    clear h h1
    go_enter Try.func7, Try.ntmps7
    go_wp2
    go_ret2
    exact ⟨rfl, rfl⟩
def bs (n m : Nat) : Array Bool := ((List.range n).map fun i => m.testBit i).toArray
def gridR.T8 : Bool × List (List Nat × List Nat) := (true, [([], []), ([], []), ([], []), ([], []), ([2, 3], [2, 3]), ([], []), ([], []), ([6], [6]), ([5, 7], [5, 7]), ([1, 4, 8, 8], [1, 4, 8]), ([], []), ([], []), ([], []), ([11, 12], [11, 12]), ([], []), ([], []), ([15], [15]), ([16], [16]), ([14, 17, 9], [14, 17]), ([10, 13, 18, 18], [10, 13, 18]), ([9, 19], [9, 19]), ([20], [20]), ([0, 21, 19], [0, 21]), ([22, 22, 0, 1, 2, 3, 4, 5, 6, 7, 8, 9, 10, 11, 12, 13, 14, 15, 16, 17, 18, 19, 20, 21, 22], [0, 22])])
def gridR.B8 : List Nat := [0, 0, 0, 0, 12, 0, 0, 64, 224, 510, 0, 0, 0, 6144, 0, 0, 32768, 98304, 246782, 524286, 1048574, 2097150, 4194303, 8388607]
theorem gridR.tab8 : rtab .any (opsOf Try.f7 8) = gridR.T8 := by kernel_rfl
theorem gridR.bits8 : waitsOk gridR.T8.2 gridR.B8 = true := by kernel_rfl
theorem goesC_ {P : Program} {ops : Array Oper} {Q : Exit → Act → World → Prop} {oi : Oper} {N : Option Tmp} {a : Act} {w : World} {K : Act → World → Prop} {f : FuncId} {fn : Func} {cv : Operand} {ar : Array Operand} {ts : Array TypeId} (hf : P.funcs[f]? = some fn) (hname : (fn.name == "runtime.NumGoroutine") = false) (hb : fn.body.isSome = true) (args caps all : Array Value)
    (hw : Region.wanted oi (yielded ops a.tmps) = true) (hN : oi.dst = N) (hop : oi.op = .call { callee := .value cv, args := ar, argTypes := ts }) (hcv : a.eval cv = .func (.func f) #[] caps) (hargs : ar.map a.eval = args) (hall : args ++ caps = all)
    (h : Calls P f all w fun e w' => ∃ v, e = .returned v ∧ K (a.put N v) w') : if Region.wanted oi (yielded ops a.tmps) = true then Oper.wp P oi a w K Q else K (a.put N undef) w := by
  subst hall
  refine call_ f (args ++ caps) hw hN ?_ h
  have he := enters_ hf hname hb (args ++ caps) w
  unfold execOp
  simp [hop, resolve, Deferred.ofValue, invoke, hcv, hargs, he]
set_option maxHeartbeats 8000000 in
theorem grid_any (n : Nat) (h1 : 1 ≤ n) (h2 : n ≤ 64) (A : Option Addr) (c : Nat) (xs : List Nat) (w : World) (hr : FK.C w A xs.length xs) (hl : xs.length ≤ 1000000) :
    Calls Try.prog 7 #[.int .i64 (n : Int), .slice A xs.length c] w fun e w' => ∃ v, e = .returned (.tuple #[v, .int .i64 0]) ∧ PK.R 29 w' w.heap.size (fun _ => True) v (gridL n xs (n * n)) ∧ Below w.heap.size w w' := by
  have hnn : n * n ≤ 4096 := Nat.mul_le_mul h2 h2
  have HAT := Aside0.mk (fun (W : World) (hW : Below w.heap.size w W) (j : Nat) => at_any A c xs j W (Kd.C_below hr hW) hl)
  have m0 : IntKind.i64.wrap ((n : Int) * (n : Int)) = ((n * n : Nat) : Int) := by rw [← Int.natCast_mul]; exact IntWalk.i64_in _ (by omega)
  have d0 : ((n : Int) == 0) = false := by rw [beq_eq_false_iff_ne]; omega
  obtain ⟨q, hq⟩ : ∃ q, n * n = q := ⟨_, rfl⟩
  have HQ := Aside0.mk hq
  rw [hq] at m0 hnn
  clear hr hq
  go_enter Try.func7, Try.ntmps7
  go_wp2_with (go_at_call 21; refine (laid_any n _).mono ?_; rintro e w2 ⟨pp, pn, rfl, hp, hn, hb2⟩; have HP := Aside0.mk hp; have HN := Aside0.mk hn; have HB2 := Aside0.mk hb2; clear hp hn hb2)
  have HLY := Aside0.mk (fun (W : World) (hW : Below w2.heap.size w2 W) (i u r : Nat) (hi : i < 65) (hu : Cln u r) => lay_any n i u r h1 (by omega) hi hu pp pn W (pw_cell_below hW HP.out) (pw_cell_below hW HN.out))
  go_loopw [6, 20] (fun v k' wr => ∃ k : Nat, k ≤ q ∧ .int .i64 (k : Int) = k' ∧ Aside0 (PK.R 29 wr w2.heap.size (fun _ => True) v (gridL n xs k)) ∧ Aside0 (Below w2.heap.size w2 wr)) (fun _ k' _ => q - (intOf k').toNat)
  case atStart => exact ⟨0, Nat.zero_le _, rfl, ⟨Kd.R_nil _ _ _ _ _⟩, ⟨Below.refl _ _⟩⟩
  case round =>
    obtain ⟨k, hk, rfl, ho, hb⟩ := hrel
    by_cases hlt : k < q
    · have m1 : IntKind.i64.wrap (2 * (k : Int)) = ((2 * k : Nat) : Int) := by rw [show (2 : Int) * (k : Int) = ((2 * k : Nat) : Int) from by simp]; exact IntWalk.i64_in _ (by omega)
      have t1 : Int.tmod (k : Int) (n : Int) = ((k % n : Nat) : Int) := by rw [Int.tmod_eq_emod_of_nonneg (by omega)]; rfl
      have t2 : Int.tdiv (k : Int) (n : Int) = ((k / n : Nat) : Int) := by rw [Int.tdiv_eq_ediv_of_nonneg (by omega)]; rfl
      have r1 : k % n < 65 := Nat.lt_trans (Nat.mod_lt k h1) (by omega)
      have r2 : k / n < 65 := by
        have : k / n < n := by rw [Nat.div_lt_iff_lt_mul h1, HQ.out]; exact hlt
        omega
      obtain ⟨dq, hdq⟩ : ∃ dq, k / n = dq := ⟨_, rfl⟩
      obtain ⟨dm, hdm⟩ : ∃ dm, k % n = dm := ⟨_, rfl⟩
      have HGA : Aside0 (gAt n xs k = (layW n dm (atF xs ((2 * k : Nat) : Int)), layW n dq (atF xs ((2 * k + 1 : Nat) : Int)))) := ⟨by unfold gAt; rw [hdq, hdm]⟩
      rw [hdm] at t1 r1
      rw [hdq] at t2 r2
      clear hdq hdm
      have z0 : ¬ n = 0 := by omega
      have t3 : IntKind.i64.wrap (dq : Int) = (dq : Int) := IntWalk.i64_in _ (by omega)
      obtain ⟨ra, hra⟩ := atF_cln xs ((2 * k : Nat) : Int)
      obtain ⟨rb, hrb⟩ := atF_cln xs ((2 * k + 1 : Nat) : Int)
      have HW := Aside0.mk (below_then HB2.out HB2.out.size hb.out)
      obtain ⟨Av, cv, rfl⟩ := Kd.R_slice ho.out
      have hro := ho
      rw [gridL_length] at ho ⊢
      clear hro
      have hl4 : (k + 1) * 16 ≤ 140737488355328 := by omega
      have m2 : IntKind.i64.wrap (2 * (k : Int) + 1) = 2 * (k : Int) + 1 := IntWalk.i64_in _ (by omega)
      go_wp2
      refine start_ (n := 24) (S := fun w' => True) (ds := []) (bs 24 0) (by kernel_rfl) rfl (by kernel_rfl) trivial (fun hHeld => ?_)
      refine with_tabW gridR.tab8 gridR.bits8 (fun HT_ HW_ => ?_)
      have H0 := Aside0.mk hHeld
      refine pure_ (i := 0) (N := some 23) (v := ?_) (a' := ?_) (bs 24 1) rfl rfl (any_of HT_.out (by kernel_rfl)) (fun _ _ _ h => h) (Or.inl ⟨by rfl, ?_⟩) ?_ ?_
      rotate_left
      · intro w'
        go_simp
        with_reducible rfl
      rotate_left
      · simp only [Act.put, List.setIfInBounds_toArray, List.set_cons_zero, List.set_cons_succ, i64_w, i32_w]
        rfl
      refine pure_ (i := 1) (N := some 24) (v := ?_) (a' := ?_) (bs 24 3) rfl rfl (any_of HT_.out (by kernel_rfl)) (fun _ _ _ h => h) (Or.inl ⟨by rfl, ?_⟩) ?_ ?_
      rotate_left
      · intro w'
        go_simp
        with_reducible rfl
      rotate_left
      · simp only [Act.put, List.setIfInBounds_toArray, List.set_cons_zero, List.set_cons_succ, i64_w, i32_w]
        rfl
      refine pure_ (i := 2) (N := some 25) (v := ?_) (a' := ?_) (bs 24 7) rfl rfl (any_of HT_.out (by kernel_rfl)) (fun _ _ _ h => h) (Or.inl ⟨by rfl, ?_⟩) ?_ ?_
      rotate_left
      · intro w'
        go_simp
        with_reducible rfl
      rotate_left
      · simp only [Act.put, List.setIfInBounds_toArray, List.set_cons_zero, List.set_cons_succ, i64_w, i32_w]
        rfl
      refine pure_ (i := 3) (N := some 26) (v := ?_) (a' := ?_) (bs 24 15) rfl rfl (any_of HT_.out (by kernel_rfl)) (fun _ _ _ h => h) (Or.inl ⟨by rfl, ?_⟩) ?_ ?_
      rotate_left
      · intro w'
        go_simp
        with_reducible rfl
      rotate_left
      · simp only [Act.put, List.setIfInBounds_toArray, List.set_cons_zero, List.set_cons_succ, i64_w, i32_w]
        rfl
      refine pure_ (i := 4) (N := some 27) (v := ?_) (a' := ?_) (bs 24 31) rfl rfl (any_of HT_.out (by kernel_rfl)) (fun _ _ _ h => h) (Or.inl ⟨by rfl, ?_⟩) ?_ ?_
      rotate_left
      · intro w'
        go_simp
        with_reducible rfl
      rotate_left
      · simp only [Act.put, List.setIfInBounds_toArray, List.set_cons_zero, List.set_cons_succ, i64_w, i32_w]
        rfl
      refine pure_ (i := 5) (N := some 28) (v := ?_) (a' := ?_) (bs 24 63) rfl rfl (any_of HT_.out (by kernel_rfl)) (fun _ _ _ h => h) (Or.inl ⟨by rfl, ?_⟩) ?_ ?_
      rotate_left
      · intro w'
        go_simp
        with_reducible rfl
      rotate_left
      · simp only [Act.put, List.setIfInBounds_toArray, List.set_cons_zero, List.set_cons_succ, i64_w, i32_w]
        rfl
      refine pure_ (i := 6) (N := some 29) (v := ?_) (a' := ?_) (bs 24 127) rfl rfl (any_of HT_.out (by kernel_rfl)) (fun _ _ _ h => h) (Or.inl ⟨by rfl, ?_⟩) ?_ ?_
      rotate_left
      · intro w'
        go_simp
        with_reducible rfl
      rotate_left
      · simp only [Act.put, List.setIfInBounds_toArray, List.set_cons_zero, List.set_cons_succ, i64_w, i32_w]
        rfl
      refine pure_ (i := 7) (N := some 30) (v := ?_) (a' := ?_) (bs 24 255) rfl rfl (any_of HT_.out (by kernel_rfl)) (fun _ _ _ h => h) (Or.inl ⟨by rfl, ?_⟩) ?_ ?_
      rotate_left
      · intro w'
        go_simp
        with_reducible rfl
      rotate_left
      · simp only [Act.put, List.setIfInBounds_toArray, List.set_cons_zero, List.set_cons_succ, i64_w, i32_w]
        rfl
      refine pure_ (i := 10) (N := some 33) (v := ?_) (a' := ?_) (bs 24 1279) rfl rfl (any_of HT_.out (by kernel_rfl)) (fun _ _ _ h => h) (Or.inl ⟨by rfl, ?_⟩) ?_ ?_
      rotate_left
      · intro w'
        go_simp
        with_reducible rfl
      rotate_left
      · simp only [Act.put, List.setIfInBounds_toArray, List.set_cons_zero, List.set_cons_succ, i64_w, i32_w]
        rfl
      refine pure_ (i := 11) (N := some 34) (v := ?_) (a' := ?_) (bs 24 3327) rfl rfl (any_of HT_.out (by kernel_rfl)) (fun _ _ _ h => h) (Or.inl ⟨by rfl, ?_⟩) ?_ ?_
      rotate_left
      · intro w'
        go_simp
        with_reducible rfl
      rotate_left
      · simp only [Act.put, List.setIfInBounds_toArray, List.set_cons_zero, List.set_cons_succ, i64_w, i32_w]
        rfl
      refine pure_ (i := 12) (N := some 35) (v := ?_) (a' := ?_) (bs 24 7423) rfl rfl (any_of HT_.out (by kernel_rfl)) (fun _ _ _ h => h) (Or.inl ⟨by rfl, ?_⟩) ?_ ?_
      rotate_left
      · intro w'
        go_simp
        with_reducible rfl
      rotate_left
      · simp only [Act.put, List.setIfInBounds_toArray, List.set_cons_zero, List.set_cons_succ, i64_w, i32_w]
        rfl
      refine pure_ (i := 13) (N := some 36) (v := ?_) (a' := ?_) (bs 24 15615) rfl rfl (any_of HT_.out (by kernel_rfl)) (fun _ _ _ h => h) (Or.inl ⟨by rfl, ?_⟩) ?_ ?_
      rotate_left
      · intro w'
        go_simp
        with_reducible rfl
      rotate_left
      · simp only [Act.put, List.setIfInBounds_toArray, List.set_cons_zero, List.set_cons_succ, i64_w, i32_w]
        rfl
      refine pure_ (i := 14) (N := some 37) (v := ?_) (a' := ?_) (bs 24 31999) rfl rfl (any_of HT_.out (by kernel_rfl)) (fun _ _ _ h => h) (Or.inl ⟨by rfl, ?_⟩) ?_ ?_
      rotate_left
      · intro w'
        go_simp
        with_reducible rfl
      rotate_left
      · simp only [Act.put, List.setIfInBounds_toArray, List.set_cons_zero, List.set_cons_succ, i64_w, i32_w]
        rfl
      refine pure_ (i := 15) (N := some 38) (v := ?_) (a' := ?_) (bs 24 64767) rfl rfl (any_of HT_.out (by kernel_rfl)) (fun _ _ _ h => h) (Or.inl ⟨by rfl, ?_⟩) ?_ ?_
      rotate_left
      · intro w'
        go_simp
        with_reducible rfl
      rotate_left
      · simp only [Act.put, List.setIfInBounds_toArray, List.set_cons_zero, List.set_cons_succ, i64_w, i32_w]
        rfl
      refine pure_ (i := 16) (N := some 39) (v := ?_) (a' := ?_) (bs 24 130303) rfl rfl (any_of HT_.out (by kernel_rfl)) (fun _ _ _ h => h) (Or.inl ⟨by rfl, ?_⟩) ?_ ?_
      rotate_left
      · intro w'
        go_simp
        with_reducible rfl
      rotate_left
      · simp only [Act.put, List.setIfInBounds_toArray, List.set_cons_zero, List.set_cons_succ, i64_w, i32_w]
        rfl
      refine pure_ (i := 17) (N := some 40) (v := ?_) (a' := ?_) (bs 24 261375) rfl rfl (any_of HT_.out (by kernel_rfl)) (fun _ _ _ h => h) (Or.inl ⟨by rfl, ?_⟩) ?_ ?_
      rotate_left
      · intro w'
        go_simp
        with_reducible rfl
      rotate_left
      · simp only [Act.put, List.setIfInBounds_toArray, List.set_cons_zero, List.set_cons_succ, i64_w, i32_w]
        rfl
      refine one_ (i := 8) (N := some 31) (bs 24 261631) rfl rfl (one_of HT_.out (by kernel_rfl)) (by decide) (fun K hK => ?_)
      refine goes_ Try.func22 (by kernel_rfl) rfl #[.slice A xs.length c, .int .i64 ((2 * k : Nat) : Int)] (by rfl) rfl rfl (by (try simp only [List.map_toArray, List.map_cons, List.map_nil]); first | done | rfl) ?_
      with_reducible refine (HAT.out _ (HW.out.drew) (2 * k)).mono ?_
      rintro e w' ⟨rfl, rfl⟩
      refine ⟨_, rfl, ?_⟩
      refine hK.out _ _ trivial (fun hHeld => ?_)
      clear hK K
      refine norm_ (a' := ?_) ?_ ?_
      rotate_left
      · show Act.put _ (some 31) _ = _
        simp only [Act.put, List.setIfInBounds_toArray, List.set_cons_zero, List.set_cons_succ, i64_w, i32_w]
        rfl
      refine one_ (i := 9) (N := some 32) (bs 24 262143) rfl rfl (one_of HT_.out (by kernel_rfl)) (by decide) (fun K hK => ?_)
      refine goesC_ Try.func31 (by kernel_rfl) rfl #[.int .i64 (dm : Int), .float .f64 (atF xs ((2 * k : Nat) : Int))] #[.pointer (some pp)] #[.int .i64 (dm : Int), .float .f64 (atF xs ((2 * k : Nat) : Int)), .pointer (some pp)] (by rfl) rfl rfl (by rfl) (by (try simp only [List.map_toArray, List.map_cons, List.map_nil]); first | done | rfl) (by rfl) ?_
      with_reducible refine (HLY.out _ (hb.out.drew) (dm) _ _ (r1) (hra)).mono ?_
      rintro e w' ⟨rfl, rfl⟩
      refine ⟨_, rfl, ?_⟩
      refine hK.out _ _ trivial (fun hHeld => ?_)
      clear hK K
      refine norm_ (a' := ?_) ?_ ?_
      rotate_left
      · show Act.put _ (some 32) _ = _
        simp only [Act.put, List.setIfInBounds_toArray, List.set_cons_zero, List.set_cons_succ, i64_w, i32_w]
        rfl
      refine one_ (i := 18) (N := some 41) (bs 24 524287) rfl rfl (one_of HT_.out (by kernel_rfl)) (by decide) (fun K hK => ?_)
      refine goes_ Try.func22 (by kernel_rfl) rfl #[.slice A xs.length c, .int .i64 ((2 * k + 1 : Nat) : Int)] (by rfl) rfl rfl (by (try simp only [List.map_toArray, List.map_cons, List.map_nil]); first | done | rfl) ?_
      with_reducible refine (HAT.out _ (HW.out.drew) (2 * k + 1)).mono ?_
      rintro e w' ⟨rfl, rfl⟩
      refine ⟨_, rfl, ?_⟩
      refine hK.out _ _ trivial (fun hHeld => ?_)
      clear hK K
      refine norm_ (a' := ?_) ?_ ?_
      rotate_left
      · show Act.put _ (some 41) _ = _
        simp only [Act.put, List.setIfInBounds_toArray, List.set_cons_zero, List.set_cons_succ, i64_w, i32_w]
        rfl
      refine one_ (i := 19) (N := some 42) (bs 24 1048575) rfl rfl (one_of HT_.out (by kernel_rfl)) (by decide) (fun K hK => ?_)
      refine goesC_ Try.func31 (by kernel_rfl) rfl #[.int .i64 (dq : Int), .float .f64 (atF xs ((2 * k + 1 : Nat) : Int))] #[.pointer (some pp)] #[.int .i64 (dq : Int), .float .f64 (atF xs ((2 * k + 1 : Nat) : Int)), .pointer (some pp)] (by rfl) rfl rfl (by rfl) (by (try simp only [List.map_toArray, List.map_cons, List.map_nil]); first | done | rfl) (by rfl) ?_
      with_reducible refine (HLY.out _ (hb.out.drew) (dq) _ _ (r2) (hrb)).mono ?_
      rintro e w' ⟨rfl, rfl⟩
      refine ⟨_, rfl, ?_⟩
      refine hK.out _ _ trivial (fun hHeld => ?_)
      clear hK K
      refine norm_ (a' := ?_) ?_ ?_
      rotate_left
      · show Act.put _ (some 42) _ = _
        simp only [Act.put, List.setIfInBounds_toArray, List.set_cons_zero, List.set_cons_succ, i64_w, i32_w]
        rfl
      refine pure_ (i := 20) (N := some 43) (v := ?_) (a' := ?_) (bs 24 2097151) rfl rfl (any_of HT_.out (by kernel_rfl)) (fun _ _ _ h => h) (Or.inl ⟨by rfl, ?_⟩) ?_ ?_
      rotate_left
      · intro w'
        go_simp
        with_reducible rfl
      rotate_left
      · simp only [Act.put, List.setIfInBounds_toArray, List.set_cons_zero, List.set_cons_succ, i64_w, i32_w]
        rfl
      refine one_ (i := 21) (N := some 44) (bs 24 4194303) rfl rfl (one_of HT_.out (by kernel_rfl)) (by decide) (fun K hK => ?_)
      refine value_ (w1 := ?_) (v := ?_) (by rfl) rfl ?_ ?_
      rotate_left 2
      · go_simp
        constructor
        · rfl
        · rfl
      refine hK.out _ _ trivial (fun hHeld => ?_)
      clear hK K
      refine norm_ (a' := ?_) ?_ ?_
      rotate_left
      · show Act.put _ (some 44) _ = _
        simp only [Act.put, List.setIfInBounds_toArray, List.set_cons_zero, List.set_cons_succ, i64_w, i32_w]
        rfl
      refine one_ (i := 22) (N := some 45) (bs 24 8388607) rfl rfl (one_of HT_.out (by kernel_rfl)) (by decide) (fun K hK => ?_)
      refine Kd.R_append_step PK (w0 := w2) w2.heap.size (by rfl) _ _ _ 29 (.agg #[.float .f64 0, .float .f64 0]) 16 (by rfl) Try.underlying24 infoP rfl (by decide) (by decide) (.slice Av k cv) (gridL n xs k) (layW n dm (atF xs ((2 * k : Nat) : Int)), layW n dq (atF xs ((2 * k + 1 : Nat) : Int))) [.float .f64 (layW n dm (atF xs ((2 * k : Nat) : Int))), .float .f64 (layW n dq (atF xs ((2 * k + 1 : Nat) : Int)))] (fun _ => True) (fun _ => False) (by rfl) (by rfl) ⟨[_], [_], rfl, rfl, rfl⟩ (fun _ h => h.elim) (fun _ _ => trivial) (Kd.R_drew ho.out) hb.out.drew hb.out.size (by rw [gridL_length]; exact hl4) ?_
      intro v1 w4 ho4 hb4 hg4 hat4
      have HO4 := Aside0.mk ho4
      have HB4 := Aside0.mk hb4
      clear ho4 hb4 hg4 hat4
      refine hK.out _ _ trivial (fun hHeld => ?_)
      clear hK K
      refine norm_ (a' := ?_) ?_ ?_
      rotate_left
      · show Act.put _ (some 45) _ = _
        simp only [Act.put, List.setIfInBounds_toArray, List.set_cons_zero, List.set_cons_succ, i64_w, i32_w]
        rfl
      refine pure_ (i := 23) (N := some 6) (v := ?_) (a' := ?_) (bs 24 16777215) rfl rfl (any_of HT_.out (by kernel_rfl)) (fun _ _ _ h => h) (Or.inl ⟨by rfl, ?_⟩) ?_ ?_
      rotate_left
      · intro w'
        go_simp
        with_reducible rfl
      rotate_left
      · simp only [Act.put, List.setIfInBounds_toArray, List.set_cons_zero, List.set_cons_succ, i64_w, i32_w]
        rfl
      refine done_ (done_of HT_.out (by kernel_rfl)) ?_
      go_wp2
      go_roundw
      case rel => exact ⟨k + 1, by omega, by go_num, ⟨by rw [gridL_succ, HGA.out]; exact HO4.out⟩, HB4⟩
      case measure => simp [intOf]; omega
    · have hkq : k = q := by omega
      have HE := Aside0.mk hkq
      clear hkq
      go_wp2
      go_ret2
      refine ⟨_, rfl, ?_, below_then HB2.out HB2.out.size hb.out⟩
      have h9 := ho.out
      rw [HE.out, ← HQ.out] at h9
      exact Kd.R_lower h9 HB2.out.size
end Go.Proofs.Ytkmdbidjdppdnaa.Gv
