/- package walk: a path asks, moves, goes on, by hand. (The drawn regions are printed by a program of this session over the kit's regions.py.) -/
import Derived.Test.YtgkgnihjjabapaaKb
namespace Go.Proofs.Ytgkgnihjjabapaa.Gv
open Go.RowKit Go.Proofs.Ytgkgnihjjabapaa.X Go.Proofs.Ytgkgnihjjabapaa.Pl Go.Proofs.Ytgkgnihjjabapaa.Pa Go.Proofs.YtgkgnihjjabapaaW.PrintWords Go.Proofs.YtgkgnihjjabapaaW.PrintLast
set_option linter.unusedVariables false
set_option linter.unusedSimpArgs false
theorem drew_below {w w2 : World} (h : Below w.drew.heap.size w.drew w2) : Below w.heap.size w w2 := ⟨h.os, h.tape, h.output, h.size, h.block⟩
theorem grown_below {W W1 : World} {g b : Nat} {w : World} (h : Below b w W) (hg : W.grownBy W1 (some g)) (hb : b ≤ W.heap.size) (hg2 : b ≤ g) : Below b w W1 := h.grown hg hb (fun k e => by injection e with e; omega)
theorem grown_drew {w w1 : World} {o : Option Nat} (h : w.grownBy w1 o) : w.grownBy w1.drew o := ⟨h.os, h.tape, h.output, h.size, h.block⟩
theorem Tr.drewN {w : World} {g : Nat} {R : Rw} {s : TS} (h : Tr w g R s) (m : Nat) : Tr (w.drewN m) g R s := h
theorem of_mul_zero (p : Int) : of (p * 0) = 0 := by rw [Int.mul_zero]; rfl
theorem of_zero_mul (p : Int) : of (0 * p) = 0 := by rw [Int.zero_mul]; rfl
theorem drewN_grown {w w1 : World} {m : Nat} {o : Option Nat} (h : (w.drewN m).grownBy w1 o) : w.grownBy w1 o := ⟨h.os, h.tape, h.output, h.size, h.block⟩
def onR.T2 : Bool × List (List Nat × List Nat) := (true, [([], []), ([], []), ([1], [1]), ([2], [2]), ([3], [3]), ([], []), ([5], [5]), ([6], [6]), ([7], [7]), ([8], [8]), ([4, 9], [4, 9]), ([0, 0, 1, 2, 3, 4, 5, 6, 7, 8, 9, 10], [0]), ([11, 0, 1, 2, 3, 4, 5, 6, 7, 8, 9, 10], [11]), ([12, 10, 10, 0, 1, 2, 3, 4, 5, 6, 7, 8, 9, 10], [10, 12])])
def onR.B2 : List Nat := [0, 0, 2, 6, 14, 0, 32, 96, 224, 480, 1022, 2047, 4095, 8191]
theorem onR.tab2 : rtab .any (opsOf Try.f37 2) = onR.T2 := by kernel_rfl
theorem onR.bits2 : waitsOk onR.T2.2 onR.B2 = true := by kernel_rfl
set_option maxHeartbeats 4000000 in
theorem on_yes (R : Rw) (g : Nat) (i : Nat) (v wt p : Int) (ov : Bool) (w : World) (h : Tr w g R ⟨i, v, wt, p, ov⟩) :
    Calls Try.prog 37 #[.pointer (some ⟨g, 0, none⟩), .bool true] w fun e w' => e = .returned (.tuple #[]) ∧ Tr w' g R ⟨i, v, ovr wt R.on, of (p * R.on), ov⟩ ∧ w.grownBy w' (some g) := by
  obtain ⟨-, -, -, -, k4, -, -, -, -, -, -, -⟩ := h.cells
  have HT := Aside0.mk h
  clear h
  go_enter Try.func37, Try.ntmps37
  go_wp2_with (go_at_call 44; refine (happens_any R g ⟨i, v, wt, p, ov⟩ R.on _ HT.out).mono ?_; rintro x w1 ⟨rfl, hT, hg⟩; have HT1 : Aside0 (Tr w1 g R ⟨i, v, wt, of (p * R.on), ov⟩) := ⟨hT⟩; have HG1 := Aside0.mk hg; clear hT hg)
  obtain ⟨-, -, -, -, d4, -, -, -, d8, -, -, -⟩ := (show Tr w1.drew g R ⟨i, v, wt, of (p * R.on), ov⟩ from HT1.out).cells
  refine start_ (n := 14) (S := fun w' => w'.cell? ⟨g, 4, none⟩ = some (.int .i64 R.on) ∧ w'.cell? ⟨g, 8, none⟩ = some (.int .i64 wt)) (ds := [13]) (bs 14 0) (by kernel_rfl) rfl (by kernel_rfl) ⟨d4, d8⟩ (fun hHeld => ?_)
  refine with_tabW onR.tab2 onR.bits2 (fun HT_ HW_ => ?_)
  have H0 := Aside0.mk hHeld
  refine pure_ (i := 0) (N := some 12) (v := ?_) (a' := ?_) (bs 14 1) rfl rfl (any_of HT_.out (by kernel_rfl)) (fun _ _ _ h => h) (Or.inl ⟨by rfl, ?_⟩) ?_ ?_
  rotate_left
  · intro w'
    go_simp
    with_reducible rfl
  rotate_left
  · simp only [Act.put, List.setIfInBounds_toArray, List.set_cons_zero, List.set_cons_succ, i64_w, i32_w]
    rfl
  refine pure_ (i := 1) (N := some 13) (v := ?_) (a' := ?_) (bs 14 3) rfl rfl (any_of HT_.out (by kernel_rfl)) (fun _ _ _ h => h) (Or.inl ⟨by rfl, ?_⟩) ?_ ?_
  rotate_left
  · intro w'
    go_simp
    with_reducible rfl
  rotate_left
  · simp only [Act.put, List.setIfInBounds_toArray, List.set_cons_zero, List.set_cons_succ, i64_w, i32_w]
    rfl
  refine pure_ (i := 2) (N := some 14) (v := ?_) (a' := ?_) (bs 14 7) rfl rfl (any_of HT_.out (by kernel_rfl)) (fun _ _ _ h => h) (Or.inl ⟨by rfl, ?_⟩) ?_ ?_
  rotate_left
  · intro w'
    go_simp
    with_reducible rfl
  rotate_left
  · simp only [Act.put, List.setIfInBounds_toArray, List.set_cons_zero, List.set_cons_succ, i64_w, i32_w]
    rfl
  refine pure_ (i := 3) (N := some 15) (v := ?_) (a' := ?_) (bs 14 15) rfl rfl (any_of HT_.out (by kernel_rfl)) (fun _ _ _ h => h) (Or.inl ⟨by rfl, ?_⟩) ?_ ?_
  rotate_left
  · intro w'
    go_simp
    with_reducible rfl
  rotate_left
  · simp only [Act.put, List.setIfInBounds_toArray, List.set_cons_zero, List.set_cons_succ, i64_w, i32_w]
    rfl
  refine pure_ (i := 5) (N := some 17) (v := ?_) (a' := ?_) (bs 14 47) rfl rfl (any_of HT_.out (by kernel_rfl)) (fun _ _ _ h => h) (Or.inl ⟨by rfl, ?_⟩) ?_ ?_
  rotate_left
  · intro w'
    go_simp
    with_reducible rfl
  rotate_left
  · simp only [Act.put, List.setIfInBounds_toArray, List.set_cons_zero, List.set_cons_succ, i64_w, i32_w]
    rfl
  refine pure_ (i := 6) (N := some 18) (v := ?_) (a' := ?_) (bs 14 111) rfl rfl (any_of HT_.out (by kernel_rfl)) (fun _ _ _ h => h) (Or.inl ⟨by rfl, ?_⟩) ?_ ?_
  rotate_left
  · intro w'
    go_simp
    with_reducible rfl
  rotate_left
  · simp only [Act.put, List.setIfInBounds_toArray, List.set_cons_zero, List.set_cons_succ, i64_w, i32_w]
    rfl
  refine pure_ (i := 7) (N := some 19) (v := ?_) (a' := ?_) (bs 14 239) rfl rfl (any_of HT_.out (by kernel_rfl)) (fun _ _ _ h => h) (Or.inl ⟨by rfl, ?_⟩) ?_ ?_
  rotate_left
  · intro w'
    go_simp
    with_reducible rfl
  rotate_left
  · simp only [Act.put, List.setIfInBounds_toArray, List.set_cons_zero, List.set_cons_succ, i64_w, i32_w]
    rfl
  refine pure_ (i := 8) (N := some 20) (v := ?_) (a' := ?_) (bs 14 495) rfl rfl (any_of HT_.out (by kernel_rfl)) (fun _ _ _ h => h) (Or.inl ⟨by rfl, ?_⟩) ?_ ?_
  rotate_left
  · intro w'
    go_simp
    with_reducible rfl
  rotate_left
  · simp only [Act.put, List.setIfInBounds_toArray, List.set_cons_zero, List.set_cons_succ, i64_w, i32_w]
    rfl
  refine take_ (i := 4) (N := some 16) (v := ?_) (a' := ?_) (bs 14 511) rfl rfl (take_ofW HT_.out HW_.out (by kernel_rfl)) (fun _ _ _ h => h) (Or.inl ⟨by rfl, ?_⟩) hHeld ?_ ?_
  rotate_left
  · rintro w' ⟨s0, s1⟩
    go_simp
    with_reducible rfl
  rotate_left
  · simp only [Act.put, List.setIfInBounds_toArray, List.set_cons_zero, List.set_cons_succ, i64_w, i32_w]
    rfl
  refine take_ (i := 9) (N := some 21) (v := ?_) (a' := ?_) (bs 14 1023) rfl rfl (take_ofW HT_.out HW_.out (by kernel_rfl)) (fun _ _ _ h => h) (Or.inl ⟨by rfl, ?_⟩) hHeld ?_ ?_
  rotate_left
  · rintro w' ⟨s0, s1⟩
    go_simp
    with_reducible rfl
  rotate_left
  · simp only [Act.put, List.setIfInBounds_toArray, List.set_cons_zero, List.set_cons_succ, i64_w, i32_w]
    rfl
  refine one_ (i := 10) (N := some 22) (bs 14 2047) rfl rfl (one_of HT_.out (by kernel_rfl)) (by decide) (fun K hK => ?_)
  refine goes_ Try.func38 (by kernel_rfl) rfl #[.int .i64 wt, .int .i64 R.on] (by rfl) rfl rfl (by (try simp only [List.map_toArray, List.map_cons, List.map_nil]); first | done | rfl) ?_
  with_reducible refine (over_any wt R.on w1.drew).mono ?_
  rintro e w2 ⟨rfl, hb2⟩
  refine ⟨_, rfl, ?_⟩
  have HT2 := Aside0.mk (Tr.below (show Tr w1.drew g R ⟨i, v, wt, of (p * R.on), ov⟩ from HT1.out) hb2)
  obtain ⟨-, -, -, -, -, -, -, -, q8, -, -, qf⟩ := HT2.out.cells
  refine hK.out _ _ ⟨(cell_later' hb2 H0.out.1), (cell_later' hb2 H0.out.2)⟩ (fun hHeld => ?_)
  clear hK K
  refine norm_ (a' := ?_) ?_ ?_
  rotate_left
  · show Act.put _ (some 22) _ = _
    simp only [Act.put, List.setIfInBounds_toArray, List.set_cons_zero, List.set_cons_succ, i64_w, i32_w]
    rfl
  refine pure_ (i := 11) (N := some 23) (v := ?_) (a' := ?_) (bs 14 4095) rfl rfl (any_of HT_.out (by kernel_rfl)) (fun _ _ _ h => h) (Or.inl ⟨by rfl, ?_⟩) ?_ ?_
  rotate_left
  · intro w'
    go_simp
    with_reducible rfl
  rotate_left
  · simp only [Act.put, List.setIfInBounds_toArray, List.set_cons_zero, List.set_cons_succ, i64_w, i32_w]
    rfl
  refine pure_ (i := 12) (N := some 24) (v := ?_) (a' := ?_) (bs 14 8191) rfl rfl (any_of HT_.out (by kernel_rfl)) (fun _ _ _ h => h) (Or.inl ⟨by rfl, ?_⟩) ?_ ?_
  rotate_left
  · intro w'
    go_simp
    with_reducible rfl
  rotate_left
  · simp only [Act.put, List.setIfInBounds_toArray, List.set_cons_zero, List.set_cons_succ, i64_w, i32_w]
    rfl
  refine last_ (i := 13) (N := none) (bs 14 16383) rfl rfl (one_of HT_.out (by kernel_rfl)) (by decide) (fun K hK => ?_)
  refine skip_ (w1 := ?_) (by rfl) rfl ?_ ?_
  rotate_left
  · go_simp
    rfl
  refine hK.out _ _ ?_
  clear hK K
  refine done_ (done_of HT_.out (by kernel_rfl)) ?_
  go_wp2
  refine bodyPost_ret (results_none rfl _ _ _) rfl ?_
  exact ⟨rfl, HT2.out.putW _, grown_trans HG1.out (grown_trans (grown_of (drew_below hb2) _) (grown_cell _ _ _ _))⟩
set_option maxHeartbeats 2000000 in
theorem on_no (R : Rw) (g : Nat) (i : Nat) (v wt p : Int) (ov : Bool) (w : World) (h : Tr w g R ⟨i, v, wt, p, ov⟩) :
    Calls Try.prog 37 #[.pointer (some ⟨g, 0, none⟩), .bool false] w fun e w' => e = .returned (.tuple #[]) ∧ Tr w' g R ⟨i, v, wt, of (p * of (1 - R.on)), true⟩ ∧ w.grownBy w' (some g) := by
  obtain ⟨-, -, -, -, k4, -, -, -, -, -, -, -⟩ := h.cells
  have HT := Aside0.mk h
  have HS := Aside0.mk (fun W => field_Sub.calls 1 R.on (of (1 - R.on)) W (Sub_eq 1 R.on))
  clear h
  go_enter Try.func37, Try.ntmps37
  go_wp2_with (first
    | (go_at_call 39; with_reducible refine (HS.out _).mono ?_; rintro x w0 ⟨rfl, m2, rfl⟩)
    | (go_at_call 44; refine (happens_any R g ⟨i, v, wt, p, ov⟩ (of (1 - R.on)) _ (show Tr (w.drewN m2) g R ⟨i, v, wt, p, ov⟩ from HT.out)).mono ?_; rintro x w1 ⟨rfl, hT, hg⟩; have HT1 : Aside0 (Tr w1 g R ⟨i, v, wt, of (p * of (1 - R.on)), ov⟩) := ⟨hT⟩; obtain ⟨-, -, -, -, -, -, -, -, -, -, q10, qf⟩ := HT1.out.cells; have HG1 := Aside0.mk (show w.grownBy w1 (some g) from ⟨hg.os, hg.tape, hg.output, hg.size, hg.block⟩); clear hT hg))
  go_end0
  exact ⟨rfl, HT1.out.putO _, grown_trans HG1.out (grown_cell _ _ _ _)⟩
def askR.T4 : Bool × List (List Nat × List Nat) := (true, [([], []), ([0], [0]), ([1], [1]), ([2], [2]), ([], []), ([4], [4]), ([5], [5]), ([6], [6]), ([], []), ([8], [8]), ([9], [9]), ([10], [10]), ([], []), ([3, 7, 11, 12], [3, 7, 11, 12]), ([13], [13]), ([14], [14]), ([14], [14]), ([15, 13, 0, 1, 2, 3, 4, 5, 6, 7, 8, 9, 10, 11, 12, 13, 14, 15], [15]), ([16, 17, 0, 1, 2, 3, 4, 5, 6, 7, 8, 9, 10, 11, 12, 13, 14, 15, 16, 17], [16])])
def askR.B4 : List Nat := [0, 1, 3, 7, 0, 16, 48, 112, 0, 256, 768, 1792, 0, 8191, 16383, 32767, 32767, 65535, 262143]
theorem askR.tab4 : rtab .any (opsOf Try.f35 4) = askR.T4 := by kernel_rfl
theorem askR.bits4 : waitsOk askR.T4.2 askR.B4 = true := by kernel_rfl
def askR.T5 : Bool × List (List Nat × List Nat) := (true, [([], []), ([], []), ([1], [1]), ([2], [2]), ([3], [3]), ([], []), ([5], [5]), ([6], [6]), ([7], [7]), ([], []), ([9], [9]), ([10], [10]), ([11], [11]), ([12], [12]), ([], []), ([14], [14]), ([15], [15]), ([16], [16]), ([], []), ([18], [18]), ([19], [19]), ([20], [20]), ([17, 21], [17, 21]), ([], []), ([22, 23], [22, 23]), ([13, 24], [13, 24]), ([25], [25]), ([], []), ([27], [27]), ([28], [28]), ([29], [29]), ([30], [30]), ([], []), ([31, 32], [31, 32]), ([33], [33]), ([], []), ([8, 26, 34, 35], [8, 26, 34, 35]), ([36], [36]), ([], []), ([37, 38, 37], [37, 38]), ([4, 39], [4, 39]), ([40, 39], [40]), ([0, 0, 1, 2, 3, 4, 5, 6, 7, 8, 9, 10, 11, 12, 13, 14, 15, 16, 17, 18, 19, 20, 21, 22, 23, 24, 25, 26, 27, 28, 29, 30, 31, 32, 33, 34, 35, 36, 37, 38, 39, 40, 41], [0]), ([42, 0, 1, 2, 3, 4, 5, 6, 7, 8, 9, 10, 11, 12, 13, 14, 15, 16, 17, 18, 19, 20, 21, 22, 23, 24, 25, 26, 27, 28, 29, 30, 31, 32, 33, 34, 35, 36, 37, 38, 39, 40, 41], [42]), ([43, 41, 41, 0, 1, 2, 3, 4, 5, 6, 7, 8, 9, 10, 11, 12, 13, 14, 15, 16, 17, 18, 19, 20, 21, 22, 23, 24, 25, 26, 27, 28, 29, 30, 31, 32, 33, 34, 35, 36, 37, 38, 39, 40, 41], [41, 43])])
def askR.B5 : List Nat := [0, 0, 2, 6, 14, 0, 32, 96, 224, 0, 512, 1536, 3584, 7680, 0, 16384, 49152, 114688, 0, 262144, 786432, 1835008, 4177920, 0, 16760832, 33553920, 67108352, 0, 134217728, 402653184, 939524096, 2013265920, 0, 8455716864, 17045651456, 0, 68719476704, 137438953440, 0, 549755813856, 1099511627774, 2199023255550, 4398046511103, 8796093022207, 17592186044415]
theorem askR.tab5 : rtab .any (opsOf Try.f35 5) = askR.T5 := by kernel_rfl
theorem askR.bits5 : waitsOk askR.T5.2 askR.B5 = true := by kernel_rfl
set_option maxHeartbeats 2000000 in
theorem ask_none (R : Rw) (W0 : World) (ok : RwOk R W0) (g : Nat) (i : Nat) (v wt p : Int) (ov : Bool) (w : World) (hb : Below W0.heap.size W0 w) (h : Tr w g R ⟨i, v, wt, p, ov⟩) :
    Calls Try.prog 35 #[.pointer (some ⟨g, 0, none⟩), .int .i64 (R.n : Int)] w fun e w' => e = .returned (.tuple #[]) ∧ Tr w' g R ⟨i, v, wt, of (p * rs R.A), ov⟩ ∧ w.grownBy w' (some g) := by
  obtain ⟨-, -, -, k3, -, k5, -, -, -, -, -, -⟩ := h.cells
  have HT := Aside0.mk h
  have HR := Aside0.mk (rest_any R.aA R.cA R.A w (Kd.C_below ok.hA hb) ok.cA)
  clear h ok hb
  generalize R.A.length = lA at *
  go_enter Try.func35, Try.ntmps35
  go_wp2_with (first
    | (go_at_call 45; with_reducible refine HR.out.mono ?_; rintro x w0 ⟨rfl, m2, rfl⟩)
    | (go_at_call 44; refine (happens_any R g ⟨i, v, wt, p, ov⟩ (rs R.A) _ (show Tr (w.drewN m2) g R ⟨i, v, wt, p, ov⟩ from HT.out)).mono ?_; rintro x w1 ⟨rfl, hT, hg⟩; have HT1 : Aside0 (Tr w1 g R ⟨i, v, wt, of (p * rs R.A), ov⟩) := ⟨hT⟩; have HG1 := Aside0.mk (drewN_grown hg); clear hT hg))
  refine bodyPost_ret (results_none rfl _ _ _) rfl ?_
  exact ⟨rfl, HT1.out, HG1.out⟩
set_option maxHeartbeats 8000000 in
theorem ask_one (R : Rw) (W0 : World) (ok : RwOk R W0) (g : Nat) (i j : Nat) (v wt p : Int) (ov : Bool) (hi : i < R.n) (hj : j < R.n) (w : World) (hb : Below W0.heap.size W0 w) (hg0 : W0.heap.size ≤ g) (h : Tr w g R ⟨i, v, wt, p, ov⟩) :
    Calls Try.prog 35 #[.pointer (some ⟨g, 0, none⟩), .int .i64 (j : Int)] w fun e w' => e = .returned (.tuple #[]) ∧ Tr w' g R ⟨i, of (v + ovr (of (wt * R.T.getD (i * R.n + j) 0 * R.E.getD j 0 * (wts R.G R.A R.n i j).1)) (R.A.getD j 0)), wt, of (p * R.A.getD j 0), ov⟩ ∧ w.grownBy w' (some g) := by
  obtain ⟨adA, eA, hxA⟩ := Kd.at_int (Kd.C_below ok.hA hb) (j : Int) (by omega) (by rw [ok.lA]; omega)
  obtain ⟨adE, eE, hxE⟩ := Kd.at_int (Kd.C_below ok.hE hb) (j : Int) (by omega) (by rw [ok.lE]; omega)
  obtain ⟨adT, eT, hxT⟩ := Kd.at_int (Kd.C_below ok.hT hb) ((i * R.n + j : Nat) : Int) (by omega) (by have := ix_lt hi hj; rw [ok.lT]; omega)
  obtain ⟨adG, eG, hxG⟩ := Kd.at_int (Kd.C_below ok.hG hb) ((i * R.n + j : Nat) : Int) (by omega) (by have := ix_lt hi hj; rw [ok.lG]; omega)
  rw [rd_eq, Int.toNat_natCast] at hxA hxE hxT hxG
  obtain ⟨x1, x2⟩ := ix_wrap ok.n12 hi hj
  have y1 : IntKind.i64.wrap ((i : Int) * (R.n : Int)) = ((i * R.n : Nat) : Int) := (i64_w _).trans x1
  have y2 : IntKind.i64.wrap (((i * R.n : Nat) : Int) + (j : Int)) = ((i * R.n + j : Nat) : Int) := (i64_w _).trans x2
  have z0 : (0 : Int) ≤ (j : Int) := by omega
  have z1 : (j : Int) < (R.A.length : Int) := by rw [ok.lA]; omega
  have z2 : (j : Int) < (R.E.length : Int) := by rw [ok.lE]; omega
  have z3 : (0 : Int) ≤ ((i * R.n + j : Nat) : Int) := by omega
  have z4 : ((i * R.n + j : Nat) : Int) < (R.T.length : Int) := by have := ix_lt hi hj; rw [ok.lT]; omega
  have z5 : ((i * R.n + j : Nat) : Int) < (R.G.length : Int) := by have := ix_lt hi hj; rw [ok.lG]; omega
  have z6 : ((j : Int) == (R.n : Int)) = false := by rw [beq_eq_false_iff_ne]; omega
  obtain ⟨-, -, -, k3, -, k5, -, -, -, -, -, -⟩ := h.cells
  rw [eA] at k3
  have HT := Aside0.mk h
  have HW := Aside0.mk (fun W hW => by have h := weights_any R W0 ok i j hi hj W hW; rw [eA] at h; exact h)
  have HB := Aside0.mk hb
  -- the rows' cells, in every world behind
  have XA := Aside0.mk (fun W (hW : Below W0.heap.size W0 W) => (by
    obtain ⟨ad, e, hx⟩ := Kd.at_int (Kd.C_below ok.hA hW) (j : Int) (by omega) (by rw [ok.lA]; omega)
    rw [rd_eq, Int.toNat_natCast] at hx
    rw [eA] at e
    cases e
    exact hx : W.cell? (adA.add j) = some (.int .i64 (R.A.getD j 0))))
  have XE := Aside0.mk (fun W (hW : Below W0.heap.size W0 W) => (by
    obtain ⟨ad, e, hx⟩ := Kd.at_int (Kd.C_below ok.hE hW) (j : Int) (by omega) (by rw [ok.lE]; omega)
    rw [rd_eq, Int.toNat_natCast] at hx
    rw [eE] at e
    cases e
    exact hx : W.cell? (adE.add j) = some (.int .i64 (R.E.getD j 0))))
  have XT := Aside0.mk (fun W (hW : Below W0.heap.size W0 W) => (by
    obtain ⟨ad, e, hx⟩ := Kd.at_int (Kd.C_below ok.hT hW) ((i * R.n + j : Nat) : Int) (by omega) (by have := ix_lt hi hj; rw [ok.lT]; omega)
    rw [rd_eq, Int.toNat_natCast] at hx
    rw [eT] at e
    cases e
    exact hx : W.cell? (adT.add (i * R.n + j)) = some (.int .i64 (R.T.getD (i * R.n + j) 0))))
  have HBG := Aside0.mk (fun (W : World) (hW : w.grownBy W (some g)) => grown_below HB.out hW HB.out.size hg0)
  generalize R.A.getD j 0 = a at *
  generalize R.E.getD j 0 = b at *
  generalize R.T.getD (i * R.n + j) 0 = c at *
  generalize (wts R.G R.A R.n i j).1 = d at *
  generalize (wts R.G R.A R.n i j).2 = d2 at *
  have HM := Aside0.mk (fun W t => mul4_lit wt c b d t W)
  generalize of (wt * c * b * d) = m at *
  have HO := Aside0.mk (fun W => over_any m a W)
  generalize ovr m a = q at *
  have HA := Aside0.mk (fun W t => add2_lit v q t W)
  generalize of (v + q) = nv at *
  generalize i * R.n + j = ix at *
  generalize i * R.n = im at *
  have EA := Aside0.mk eA
  have EE' := Aside0.mk eE
  have ET := Aside0.mk eT
  clear hb h ok hxE hxT hxG x1 x2 hi hj eG eA eE eT
  go_enter Try.func35, Try.ntmps35
  go_wp2_with (go_at_call 44; refine (happens_any R g ⟨i, v, wt, p, ov⟩ a _ HT.out).mono ?_; rintro x w1 ⟨rfl, hT, hg⟩; have HT1 : Aside0 (Tr w1 g R ⟨i, v, wt, of (p * a), ov⟩) := ⟨hT⟩; have HG1 := Aside0.mk hg; clear hT hg)
  obtain ⟨d0, d1, d2', d3, d4, d5, d6, d7, d8, -, -, -⟩ := (show Tr w1.drew g R ⟨i, v, wt, of (p * a), ov⟩ from HT1.out).cells
  rw [EA.out] at d3
  refine start_ (n := 19) (S := fun w' => w'.cell? ⟨g, 2, none⟩ = some (.slice R.aG R.G.length R.cG) ∧ w'.cell? ⟨g, 3, none⟩ = some (.slice (some adA) R.A.length R.cA) ∧ w'.cell? ⟨g, 4, none⟩ = some (.int .i64 R.on) ∧ w'.cell? ⟨g, 5, none⟩ = some (.int .i64 (R.n : Int)) ∧ w'.cell? ⟨g, 6, none⟩ = some (.int .i64 (i : Int))) (ds := []) (bs 19 0) (by kernel_rfl) rfl (by kernel_rfl) ⟨d2', d3, d4, d5, d6⟩ (fun hHeld => ?_)
  refine with_tabW askR.tab4 askR.bits4 (fun HT_ HW_ => ?_)
  have H0 := Aside0.mk hHeld
  refine pure_ (i := 0) (N := some 33) (v := ?_) (a' := ?_) (bs 19 1) rfl rfl (any_of HT_.out (by kernel_rfl)) (fun _ _ _ h => h) (Or.inl ⟨by rfl, ?_⟩) ?_ ?_
  rotate_left
  · intro w'
    go_simp
    with_reducible rfl
  rotate_left
  · simp only [Act.put, List.setIfInBounds_toArray, List.set_cons_zero, List.set_cons_succ, i64_w, i32_w]
    rfl
  refine pure_ (i := 1) (N := some 34) (v := ?_) (a' := ?_) (bs 19 3) rfl rfl (any_of HT_.out (by kernel_rfl)) (fun _ _ _ h => h) (Or.inl ⟨by rfl, ?_⟩) ?_ ?_
  rotate_left
  · intro w'
    go_simp
    with_reducible rfl
  rotate_left
  · simp only [Act.put, List.setIfInBounds_toArray, List.set_cons_zero, List.set_cons_succ, i64_w, i32_w]
    rfl
  refine pure_ (i := 2) (N := some 35) (v := ?_) (a' := ?_) (bs 19 7) rfl rfl (any_of HT_.out (by kernel_rfl)) (fun _ _ _ h => h) (Or.inl ⟨by rfl, ?_⟩) ?_ ?_
  rotate_left
  · intro w'
    go_simp
    with_reducible rfl
  rotate_left
  · simp only [Act.put, List.setIfInBounds_toArray, List.set_cons_zero, List.set_cons_succ, i64_w, i32_w]
    rfl
  refine pure_ (i := 4) (N := some 37) (v := ?_) (a' := ?_) (bs 19 23) rfl rfl (any_of HT_.out (by kernel_rfl)) (fun _ _ _ h => h) (Or.inl ⟨by rfl, ?_⟩) ?_ ?_
  rotate_left
  · intro w'
    go_simp
    with_reducible rfl
  rotate_left
  · simp only [Act.put, List.setIfInBounds_toArray, List.set_cons_zero, List.set_cons_succ, i64_w, i32_w]
    rfl
  refine pure_ (i := 5) (N := some 38) (v := ?_) (a' := ?_) (bs 19 55) rfl rfl (any_of HT_.out (by kernel_rfl)) (fun _ _ _ h => h) (Or.inl ⟨by rfl, ?_⟩) ?_ ?_
  rotate_left
  · intro w'
    go_simp
    with_reducible rfl
  rotate_left
  · simp only [Act.put, List.setIfInBounds_toArray, List.set_cons_zero, List.set_cons_succ, i64_w, i32_w]
    rfl
  refine pure_ (i := 6) (N := some 39) (v := ?_) (a' := ?_) (bs 19 119) rfl rfl (any_of HT_.out (by kernel_rfl)) (fun _ _ _ h => h) (Or.inl ⟨by rfl, ?_⟩) ?_ ?_
  rotate_left
  · intro w'
    go_simp
    with_reducible rfl
  rotate_left
  · simp only [Act.put, List.setIfInBounds_toArray, List.set_cons_zero, List.set_cons_succ, i64_w, i32_w]
    rfl
  refine pure_ (i := 8) (N := some 41) (v := ?_) (a' := ?_) (bs 19 375) rfl rfl (any_of HT_.out (by kernel_rfl)) (fun _ _ _ h => h) (Or.inl ⟨by rfl, ?_⟩) ?_ ?_
  rotate_left
  · intro w'
    go_simp
    with_reducible rfl
  rotate_left
  · simp only [Act.put, List.setIfInBounds_toArray, List.set_cons_zero, List.set_cons_succ, i64_w, i32_w]
    rfl
  refine pure_ (i := 9) (N := some 42) (v := ?_) (a' := ?_) (bs 19 887) rfl rfl (any_of HT_.out (by kernel_rfl)) (fun _ _ _ h => h) (Or.inl ⟨by rfl, ?_⟩) ?_ ?_
  rotate_left
  · intro w'
    go_simp
    with_reducible rfl
  rotate_left
  · simp only [Act.put, List.setIfInBounds_toArray, List.set_cons_zero, List.set_cons_succ, i64_w, i32_w]
    rfl
  refine pure_ (i := 10) (N := some 43) (v := ?_) (a' := ?_) (bs 19 1911) rfl rfl (any_of HT_.out (by kernel_rfl)) (fun _ _ _ h => h) (Or.inl ⟨by rfl, ?_⟩) ?_ ?_
  rotate_left
  · intro w'
    go_simp
    with_reducible rfl
  rotate_left
  · simp only [Act.put, List.setIfInBounds_toArray, List.set_cons_zero, List.set_cons_succ, i64_w, i32_w]
    rfl
  refine pure_ (i := 12) (N := some 45) (v := ?_) (a' := ?_) (bs 19 6007) rfl rfl (any_of HT_.out (by kernel_rfl)) (fun _ _ _ h => h) (Or.inl ⟨by rfl, ?_⟩) ?_ ?_
  rotate_left
  · intro w'
    go_simp
    with_reducible rfl
  rotate_left
  · simp only [Act.put, List.setIfInBounds_toArray, List.set_cons_zero, List.set_cons_succ, i64_w, i32_w]
    rfl
  refine take_ (i := 3) (N := some 36) (v := ?_) (a' := ?_) (bs 19 6015) rfl rfl (take_ofW HT_.out HW_.out (by kernel_rfl)) (fun _ _ _ h => h) (Or.inl ⟨by rfl, ?_⟩) hHeld ?_ ?_
  rotate_left
  · rintro w' ⟨s0, s1, s2, s3, s4⟩
    go_simp
    with_reducible rfl
  rotate_left
  · simp only [Act.put, List.setIfInBounds_toArray, List.set_cons_zero, List.set_cons_succ, i64_w, i32_w]
    rfl
  refine take_ (i := 7) (N := some 40) (v := ?_) (a' := ?_) (bs 19 6143) rfl rfl (take_ofW HT_.out HW_.out (by kernel_rfl)) (fun _ _ _ h => h) (Or.inl ⟨by rfl, ?_⟩) hHeld ?_ ?_
  rotate_left
  · rintro w' ⟨s0, s1, s2, s3, s4⟩
    go_simp
    with_reducible rfl
  rotate_left
  · simp only [Act.put, List.setIfInBounds_toArray, List.set_cons_zero, List.set_cons_succ, i64_w, i32_w]
    rfl
  refine take_ (i := 11) (N := some 44) (v := ?_) (a' := ?_) (bs 19 8191) rfl rfl (take_ofW HT_.out HW_.out (by kernel_rfl)) (fun _ _ _ h => h) (Or.inl ⟨by rfl, ?_⟩) hHeld ?_ ?_
  rotate_left
  · rintro w' ⟨s0, s1, s2, s3, s4⟩
    go_simp
    with_reducible rfl
  rotate_left
  · simp only [Act.put, List.setIfInBounds_toArray, List.set_cons_zero, List.set_cons_succ, i64_w, i32_w]
    rfl
  refine one_ (i := 13) (N := some 46) (bs 19 16383) rfl rfl (one_of HT_.out (by kernel_rfl)) (by decide) (fun K hK => ?_)
  refine goes_ Try.func28 (by kernel_rfl) rfl #[.agg #[.slice R.aG R.G.length R.cG, .slice (some adA) R.A.length R.cA, .int .i64 R.on], .int .i64 (R.n : Int), .int .i64 (i : Int), .int .i64 (j : Int)] (by rfl) rfl rfl (by (try simp only [List.map_toArray, List.map_cons, List.map_nil]); first | done | rfl) ?_
  with_reducible refine (HW.out w1.drew (below_drew1 (HBG.out w1 HG1.out))).mono ?_
  rintro e w2 ⟨rfl, hb2⟩
  refine ⟨_, rfl, ?_⟩
  have HT2 := Aside0.mk (Tr.below (show Tr w1.drew g R ⟨i, v, wt, of (p * a), ov⟩ from HT1.out) hb2)
  have HG2 := Aside0.mk (grown_trans HG1.out (grown_of (drew_below hb2) _))
  refine hK.out _ _ ⟨(cell_later' hb2 H0.out.1), (cell_later' hb2 H0.out.2.1), (cell_later' hb2 H0.out.2.2.1), (cell_later' hb2 H0.out.2.2.2.1), (cell_later' hb2 H0.out.2.2.2.2)⟩ (fun hHeld => ?_)
  clear hK K
  refine norm_ (a' := ?_) ?_ ?_
  rotate_left
  · show Act.put _ (some 46) _ = _
    simp only [Act.put, List.setIfInBounds_toArray, List.set_cons_zero, List.set_cons_succ, i64_w, i32_w]
    rfl
  refine pure_ (i := 14) (N := some 32) (v := ?_) (a' := ?_) (bs 19 32767) rfl rfl (any_of HT_.out (by kernel_rfl)) (fun _ _ _ h => h) (Or.inl ⟨by rfl, ?_⟩) ?_ ?_
  rotate_left
  · intro w'
    go_simp
    with_reducible rfl
  rotate_left
  · simp only [Act.put, List.setIfInBounds_toArray, List.set_cons_zero, List.set_cons_succ, i64_w, i32_w]
    rfl
  refine pure_ (i := 15) (N := some 47) (v := ?_) (a' := ?_) (bs 19 65535) rfl rfl (any_of HT_.out (by kernel_rfl)) (fun _ _ _ h => h) (Or.inl ⟨by rfl, ?_⟩) ?_ ?_
  rotate_left
  · intro w'
    go_simp
    with_reducible rfl
  rotate_left
  · simp only [Act.put, List.setIfInBounds_toArray, List.set_cons_zero, List.set_cons_succ, i64_w, i32_w]
    rfl
  refine pure_ (i := 16) (N := some 48) (v := ?_) (a' := ?_) (bs 19 131071) rfl rfl (any_of HT_.out (by kernel_rfl)) (fun _ _ _ h => h) (Or.inl ⟨by rfl, ?_⟩) ?_ ?_
  rotate_left
  · intro w'
    go_simp
    with_reducible rfl
  rotate_left
  · simp only [Act.put, List.setIfInBounds_toArray, List.set_cons_zero, List.set_cons_succ, i64_w, i32_w]
    rfl
  refine pure_ (i := 17) (N := some 5) (v := ?_) (a' := ?_) (bs 19 262143) rfl rfl (any_of HT_.out (by kernel_rfl)) (fun _ _ _ h => h) (Or.inl ⟨by rfl, ?_⟩) ?_ ?_
  rotate_left
  · intro w'
    go_simp
    with_reducible rfl
  rotate_left
  · simp only [Act.put, List.setIfInBounds_toArray, List.set_cons_zero, List.set_cons_succ, i64_w, i32_w]
    rfl
  refine pure_ (i := 18) (N := some 6) (v := ?_) (a' := ?_) (bs 19 524287) rfl rfl (any_of HT_.out (by kernel_rfl)) (fun _ _ _ h => h) (Or.inl ⟨by rfl, ?_⟩) ?_ ?_
  rotate_left
  · intro w'
    go_simp
    with_reducible rfl
  rotate_left
  · simp only [Act.put, List.setIfInBounds_toArray, List.set_cons_zero, List.set_cons_succ, i64_w, i32_w]
    rfl
  refine done_ (done_of HT_.out (by kernel_rfl)) ?_
  go_wp2
  obtain ⟨f0, f1, f2, f3, f4, f5, f6, f7, f8, -, -, -⟩ := (show Tr w2.drew g R ⟨i, v, wt, of (p * a), ov⟩ from HT2.out).cells
  rw [ET.out] at f1
  rw [EE'.out] at f0
  have hB2 : Below W0.heap.size W0 w2.drew := below_drew1 (HBG.out w2 HG2.out)
  have fE := XE.out _ hB2
  have fT := XT.out _ hB2
  refine start_ (n := 45) (S := fun w' => w'.cell? ⟨g, 0, none⟩ = some (.slice (some adE) R.E.length R.cE) ∧ w'.cell? ⟨g, 1, none⟩ = some (.slice (some adT) R.T.length R.cT) ∧ w'.cell? ⟨g, 5, none⟩ = some (.int .i64 (R.n : Int)) ∧ w'.cell? ⟨g, 6, none⟩ = some (.int .i64 (i : Int)) ∧ w'.cell? ⟨g, 7, none⟩ = some (.int .i64 v) ∧ w'.cell? ⟨g, 8, none⟩ = some (.int .i64 wt) ∧ w'.cell? (adE.add j) = some (.int .i64 b) ∧ w'.cell? (adT.add ix) = some (.int .i64 c)) (ds := [44]) (bs 45 0) (by kernel_rfl) rfl (by kernel_rfl) ⟨f0, f1, f5, f6, f7, f8, fE, fT⟩ (fun hHeld => ?_)
  refine with_tabW askR.tab5 askR.bits5 (fun HT_ HW_ => ?_)
  have H0 := Aside0.mk hHeld
  have HTd : Aside0 (Tr w2.drew g R ⟨i, v, wt, of (p * a), ov⟩) := ⟨HT2.out⟩
  have HGd := Aside0.mk (grown_drew HG2.out)
  generalize w2.drew = wd at H0 hHeld HTd HGd ⊢
  refine pure_ (i := 0) (N := some 49) (v := ?_) (a' := ?_) (bs 45 1) rfl rfl (any_of HT_.out (by kernel_rfl)) (fun _ _ _ h => h) (Or.inl ⟨by rfl, ?_⟩) ?_ ?_
  rotate_left
  · intro w'
    go_simp
    with_reducible rfl
  rotate_left
  · simp only [Act.put, List.setIfInBounds_toArray, List.set_cons_zero, List.set_cons_succ, i64_w, i32_w]
    rfl
  refine pure_ (i := 1) (N := some 50) (v := ?_) (a' := ?_) (bs 45 3) rfl rfl (any_of HT_.out (by kernel_rfl)) (fun _ _ _ h => h) (Or.inl ⟨by rfl, ?_⟩) ?_ ?_
  rotate_left
  · intro w'
    go_simp
    with_reducible rfl
  rotate_left
  · simp only [Act.put, List.setIfInBounds_toArray, List.set_cons_zero, List.set_cons_succ, i64_w, i32_w]
    rfl
  refine pure_ (i := 2) (N := some 51) (v := ?_) (a' := ?_) (bs 45 7) rfl rfl (any_of HT_.out (by kernel_rfl)) (fun _ _ _ h => h) (Or.inl ⟨by rfl, ?_⟩) ?_ ?_
  rotate_left
  · intro w'
    go_simp
    with_reducible rfl
  rotate_left
  · simp only [Act.put, List.setIfInBounds_toArray, List.set_cons_zero, List.set_cons_succ, i64_w, i32_w]
    rfl
  refine pure_ (i := 3) (N := some 52) (v := ?_) (a' := ?_) (bs 45 15) rfl rfl (any_of HT_.out (by kernel_rfl)) (fun _ _ _ h => h) (Or.inl ⟨by rfl, ?_⟩) ?_ ?_
  rotate_left
  · intro w'
    go_simp
    with_reducible rfl
  rotate_left
  · simp only [Act.put, List.setIfInBounds_toArray, List.set_cons_zero, List.set_cons_succ, i64_w, i32_w]
    rfl
  refine pure_ (i := 5) (N := some 54) (v := ?_) (a' := ?_) (bs 45 47) rfl rfl (any_of HT_.out (by kernel_rfl)) (fun _ _ _ h => h) (Or.inl ⟨by rfl, ?_⟩) ?_ ?_
  rotate_left
  · intro w'
    go_simp
    with_reducible rfl
  rotate_left
  · simp only [Act.put, List.setIfInBounds_toArray, List.set_cons_zero, List.set_cons_succ, i64_w, i32_w]
    rfl
  refine pure_ (i := 6) (N := some 55) (v := ?_) (a' := ?_) (bs 45 111) rfl rfl (any_of HT_.out (by kernel_rfl)) (fun _ _ _ h => h) (Or.inl ⟨by rfl, ?_⟩) ?_ ?_
  rotate_left
  · intro w'
    go_simp
    with_reducible rfl
  rotate_left
  · simp only [Act.put, List.setIfInBounds_toArray, List.set_cons_zero, List.set_cons_succ, i64_w, i32_w]
    rfl
  refine pure_ (i := 7) (N := some 56) (v := ?_) (a' := ?_) (bs 45 239) rfl rfl (any_of HT_.out (by kernel_rfl)) (fun _ _ _ h => h) (Or.inl ⟨by rfl, ?_⟩) ?_ ?_
  rotate_left
  · intro w'
    go_simp
    with_reducible rfl
  rotate_left
  · simp only [Act.put, List.setIfInBounds_toArray, List.set_cons_zero, List.set_cons_succ, i64_w, i32_w]
    rfl
  refine pure_ (i := 9) (N := some 58) (v := ?_) (a' := ?_) (bs 45 751) rfl rfl (any_of HT_.out (by kernel_rfl)) (fun _ _ _ h => h) (Or.inl ⟨by rfl, ?_⟩) ?_ ?_
  rotate_left
  · intro w'
    go_simp
    with_reducible rfl
  rotate_left
  · simp only [Act.put, List.setIfInBounds_toArray, List.set_cons_zero, List.set_cons_succ, i64_w, i32_w]
    rfl
  refine pure_ (i := 10) (N := some 59) (v := ?_) (a' := ?_) (bs 45 1775) rfl rfl (any_of HT_.out (by kernel_rfl)) (fun _ _ _ h => h) (Or.inl ⟨by rfl, ?_⟩) ?_ ?_
  rotate_left
  · intro w'
    go_simp
    with_reducible rfl
  rotate_left
  · simp only [Act.put, List.setIfInBounds_toArray, List.set_cons_zero, List.set_cons_succ, i64_w, i32_w]
    rfl
  refine pure_ (i := 11) (N := some 60) (v := ?_) (a' := ?_) (bs 45 3823) rfl rfl (any_of HT_.out (by kernel_rfl)) (fun _ _ _ h => h) (Or.inl ⟨by rfl, ?_⟩) ?_ ?_
  rotate_left
  · intro w'
    go_simp
    with_reducible rfl
  rotate_left
  · simp only [Act.put, List.setIfInBounds_toArray, List.set_cons_zero, List.set_cons_succ, i64_w, i32_w]
    rfl
  refine pure_ (i := 12) (N := some 61) (v := ?_) (a' := ?_) (bs 45 7919) rfl rfl (any_of HT_.out (by kernel_rfl)) (fun _ _ _ h => h) (Or.inl ⟨by rfl, ?_⟩) ?_ ?_
  rotate_left
  · intro w'
    go_simp
    with_reducible rfl
  rotate_left
  · simp only [Act.put, List.setIfInBounds_toArray, List.set_cons_zero, List.set_cons_succ, i64_w, i32_w]
    rfl
  refine pure_ (i := 14) (N := some 63) (v := ?_) (a' := ?_) (bs 45 24303) rfl rfl (any_of HT_.out (by kernel_rfl)) (fun _ _ _ h => h) (Or.inl ⟨by rfl, ?_⟩) ?_ ?_
  rotate_left
  · intro w'
    go_simp
    with_reducible rfl
  rotate_left
  · simp only [Act.put, List.setIfInBounds_toArray, List.set_cons_zero, List.set_cons_succ, i64_w, i32_w]
    rfl
  refine pure_ (i := 15) (N := some 64) (v := ?_) (a' := ?_) (bs 45 57071) rfl rfl (any_of HT_.out (by kernel_rfl)) (fun _ _ _ h => h) (Or.inl ⟨by rfl, ?_⟩) ?_ ?_
  rotate_left
  · intro w'
    go_simp
    with_reducible rfl
  rotate_left
  · simp only [Act.put, List.setIfInBounds_toArray, List.set_cons_zero, List.set_cons_succ, i64_w, i32_w]
    rfl
  refine pure_ (i := 16) (N := some 65) (v := ?_) (a' := ?_) (bs 45 122607) rfl rfl (any_of HT_.out (by kernel_rfl)) (fun _ _ _ h => h) (Or.inl ⟨by rfl, ?_⟩) ?_ ?_
  rotate_left
  · intro w'
    go_simp
    with_reducible rfl
  rotate_left
  · simp only [Act.put, List.setIfInBounds_toArray, List.set_cons_zero, List.set_cons_succ, i64_w, i32_w]
    rfl
  refine pure_ (i := 18) (N := some 67) (v := ?_) (a' := ?_) (bs 45 384751) rfl rfl (any_of HT_.out (by kernel_rfl)) (fun _ _ _ h => h) (Or.inl ⟨by rfl, ?_⟩) ?_ ?_
  rotate_left
  · intro w'
    go_simp
    with_reducible rfl
  rotate_left
  · simp only [Act.put, List.setIfInBounds_toArray, List.set_cons_zero, List.set_cons_succ, i64_w, i32_w]
    rfl
  refine pure_ (i := 19) (N := some 68) (v := ?_) (a' := ?_) (bs 45 909039) rfl rfl (any_of HT_.out (by kernel_rfl)) (fun _ _ _ h => h) (Or.inl ⟨by rfl, ?_⟩) ?_ ?_
  rotate_left
  · intro w'
    go_simp
    with_reducible rfl
  rotate_left
  · simp only [Act.put, List.setIfInBounds_toArray, List.set_cons_zero, List.set_cons_succ, i64_w, i32_w]
    rfl
  refine pure_ (i := 20) (N := some 69) (v := ?_) (a' := ?_) (bs 45 1957615) rfl rfl (any_of HT_.out (by kernel_rfl)) (fun _ _ _ h => h) (Or.inl ⟨by rfl, ?_⟩) ?_ ?_
  rotate_left
  · intro w'
    go_simp
    with_reducible rfl
  rotate_left
  · simp only [Act.put, List.setIfInBounds_toArray, List.set_cons_zero, List.set_cons_succ, i64_w, i32_w]
    rfl
  refine pure_ (i := 23) (N := some 72) (v := ?_) (a' := ?_) (bs 45 10346223) rfl rfl (any_of HT_.out (by kernel_rfl)) (fun _ _ _ h => h) (Or.inl ⟨by rfl, ?_⟩) ?_ ?_
  rotate_left
  · intro w'
    go_simp
    with_reducible rfl
  rotate_left
  · simp only [Act.put, List.setIfInBounds_toArray, List.set_cons_zero, List.set_cons_succ, i64_w, i32_w]
    rfl
  refine pure_ (i := 27) (N := some 76) (v := ?_) (a' := ?_) (bs 45 144563951) rfl rfl (any_of HT_.out (by kernel_rfl)) (fun _ _ _ h => h) (Or.inl ⟨by rfl, ?_⟩) ?_ ?_
  rotate_left
  · intro w'
    go_simp
    with_reducible rfl
  rotate_left
  · simp only [Act.put, List.setIfInBounds_toArray, List.set_cons_zero, List.set_cons_succ, i64_w, i32_w]
    rfl
  refine pure_ (i := 28) (N := some 77) (v := ?_) (a' := ?_) (bs 45 412999407) rfl rfl (any_of HT_.out (by kernel_rfl)) (fun _ _ _ h => h) (Or.inl ⟨by rfl, ?_⟩) ?_ ?_
  rotate_left
  · intro w'
    go_simp
    with_reducible rfl
  rotate_left
  · simp only [Act.put, List.setIfInBounds_toArray, List.set_cons_zero, List.set_cons_succ, i64_w, i32_w]
    rfl
  refine pure_ (i := 29) (N := some 78) (v := ?_) (a' := ?_) (bs 45 949870319) rfl rfl (any_of HT_.out (by kernel_rfl)) (fun _ _ _ h => h) (Or.inl ⟨by rfl, ?_⟩) ?_ ?_
  rotate_left
  · intro w'
    go_simp
    with_reducible rfl
  rotate_left
  · simp only [Act.put, List.setIfInBounds_toArray, List.set_cons_zero, List.set_cons_succ, i64_w, i32_w]
    rfl
  refine pure_ (i := 30) (N := some 79) (v := ?_) (a' := ?_) (bs 45 2023612143) rfl rfl (any_of HT_.out (by kernel_rfl)) (fun _ _ _ h => h) (Or.inl ⟨by rfl, ?_⟩) ?_ ?_
  rotate_left
  · intro w'
    go_simp
    with_reducible rfl
  rotate_left
  · simp only [Act.put, List.setIfInBounds_toArray, List.set_cons_zero, List.set_cons_succ, i64_w, i32_w]
    rfl
  refine pure_ (i := 32) (N := some 81) (v := ?_) (a' := ?_) (bs 45 6318579439) rfl rfl (any_of HT_.out (by kernel_rfl)) (fun _ _ _ h => h) (Or.inl ⟨by rfl, ?_⟩) ?_ ?_
  rotate_left
  · intro w'
    go_simp
    with_reducible rfl
  rotate_left
  · simp only [Act.put, List.setIfInBounds_toArray, List.set_cons_zero, List.set_cons_succ, i64_w, i32_w]
    rfl
  refine pure_ (i := 35) (N := some 84) (v := ?_) (a' := ?_) (bs 45 40678317807) rfl rfl (any_of HT_.out (by kernel_rfl)) (fun _ _ _ h => h) (Or.inl ⟨by rfl, ?_⟩) ?_ ?_
  rotate_left
  · intro w'
    go_simp
    with_reducible rfl
  rotate_left
  · simp only [Act.put, List.setIfInBounds_toArray, List.set_cons_zero, List.set_cons_succ, i64_w, i32_w]
    rfl
  refine pure_ (i := 38) (N := some 87) (v := ?_) (a' := ?_) (bs 45 315556224751) rfl rfl (any_of HT_.out (by kernel_rfl)) (fun _ _ _ h => h) (Or.inl ⟨by rfl, ?_⟩) ?_ ?_
  rotate_left
  · intro w'
    go_simp
    with_reducible rfl
  rotate_left
  · simp only [Act.put, List.setIfInBounds_toArray, List.set_cons_zero, List.set_cons_succ, i64_w, i32_w]
    rfl
  refine take_ (i := 4) (N := some 53) (v := ?_) (a' := ?_) (bs 45 315556224767) rfl rfl (take_ofW HT_.out HW_.out (by kernel_rfl)) (fun _ _ _ h => h) (Or.inl ⟨by rfl, ?_⟩) hHeld ?_ ?_
  rotate_left
  · rintro w' ⟨s0, s1, s2, s3, s4, s5, s6, s7⟩
    go_simp
    with_reducible rfl
  rotate_left
  · simp only [Act.put, List.setIfInBounds_toArray, List.set_cons_zero, List.set_cons_succ, i64_w, i32_w]
    rfl
  refine take_ (i := 8) (N := some 57) (v := ?_) (a' := ?_) (bs 45 315556225023) rfl rfl (take_ofW HT_.out HW_.out (by kernel_rfl)) (fun _ _ _ h => h) (Or.inl ⟨by rfl, ?_⟩) hHeld ?_ ?_
  rotate_left
  · rintro w' ⟨s0, s1, s2, s3, s4, s5, s6, s7⟩
    go_simp
    with_reducible rfl
  rotate_left
  · simp only [Act.put, List.setIfInBounds_toArray, List.set_cons_zero, List.set_cons_succ, i64_w, i32_w]
    rfl
  refine take_ (i := 13) (N := some 62) (v := ?_) (a' := ?_) (bs 45 315556233215) rfl rfl (take_ofW HT_.out HW_.out (by kernel_rfl)) (fun _ _ _ h => h) (Or.inl ⟨by rfl, ?_⟩) hHeld ?_ ?_
  rotate_left
  · rintro w' ⟨s0, s1, s2, s3, s4, s5, s6, s7⟩
    go_simp
    with_reducible rfl
  rotate_left
  · simp only [Act.put, List.setIfInBounds_toArray, List.set_cons_zero, List.set_cons_succ, i64_w, i32_w]
    rfl
  refine take_ (i := 17) (N := some 66) (v := ?_) (a' := ?_) (bs 45 315556364287) rfl rfl (take_ofW HT_.out HW_.out (by kernel_rfl)) (fun _ _ _ h => h) (Or.inl ⟨by rfl, ?_⟩) hHeld ?_ ?_
  rotate_left
  · rintro w' ⟨s0, s1, s2, s3, s4, s5, s6, s7⟩
    go_simp
    with_reducible rfl
  rotate_left
  · simp only [Act.put, List.setIfInBounds_toArray, List.set_cons_zero, List.set_cons_succ, i64_w, i32_w]
    rfl
  refine take_ (i := 21) (N := some 70) (v := ?_) (a' := ?_) (bs 45 315558461439) rfl rfl (take_ofW HT_.out HW_.out (by kernel_rfl)) (fun _ _ _ h => h) (Or.inl ⟨by rfl, ?_⟩) hHeld ?_ ?_
  rotate_left
  · rintro w' ⟨s0, s1, s2, s3, s4, s5, s6, s7⟩
    go_simp
    with_reducible rfl
  rotate_left
  · simp only [Act.put, List.setIfInBounds_toArray, List.set_cons_zero, List.set_cons_succ, i64_w, i32_w]
    rfl
  refine pure_ (i := 22) (N := some 71) (v := ?_) (a' := ?_) (bs 45 315562655743) rfl rfl (any_of HT_.out (by kernel_rfl)) (fun _ _ _ h => h) (Or.inl ⟨by rfl, ?_⟩) ?_ ?_
  rotate_left
  · intro w'
    go_simp
    with_reducible rfl
  rotate_left
  · simp only [Act.put, List.setIfInBounds_toArray, List.set_cons_zero, List.set_cons_succ, i64_w, i32_w]
    rfl
  refine pure_ (i := 24) (N := some 73) (v := ?_) (a' := ?_) (bs 45 315579432959) rfl rfl (any_of HT_.out (by kernel_rfl)) (fun _ _ _ h => h) (Or.inl ⟨by rfl, ?_⟩) ?_ ?_
  rotate_left
  · intro w'
    go_simp
    with_reducible rfl
  rotate_left
  · simp only [Act.put, List.setIfInBounds_toArray, List.set_cons_zero, List.set_cons_succ, i64_w, i32_w]
    rfl
  refine pure_ (i := 25) (N := some 74) (v := ?_) (a' := ?_) (bs 45 315612987391) rfl rfl (any_of HT_.out (by kernel_rfl)) (fun _ _ _ h => h) (Or.inl ⟨by rfl, ?_⟩) ?_ ?_
  rotate_left
  · intro w'
    go_simp
    with_reducible rfl
  rotate_left
  · simp only [Act.put, List.setIfInBounds_toArray, List.set_cons_zero, List.set_cons_succ, i64_w, i32_w]
    rfl
  refine take_ (i := 26) (N := some 75) (v := ?_) (a' := ?_) (bs 45 315680096255) rfl rfl (take_ofW HT_.out HW_.out (by kernel_rfl)) (fun _ _ _ h => h) (Or.inl ⟨by rfl, ?_⟩) hHeld ?_ ?_
  rotate_left
  · rintro w' ⟨s0, s1, s2, s3, s4, s5, s6, s7⟩
    go_simp
    with_reducible rfl
  rotate_left
  · simp only [Act.put, List.setIfInBounds_toArray, List.set_cons_zero, List.set_cons_succ, i64_w, i32_w]
    rfl
  refine take_ (i := 31) (N := some 80) (v := ?_) (a' := ?_) (bs 45 317827579903) rfl rfl (take_ofW HT_.out HW_.out (by kernel_rfl)) (fun _ _ _ h => h) (Or.inl ⟨by rfl, ?_⟩) hHeld ?_ ?_
  rotate_left
  · rintro w' ⟨s0, s1, s2, s3, s4, s5, s6, s7⟩
    go_simp
    with_reducible rfl
  rotate_left
  · simp only [Act.put, List.setIfInBounds_toArray, List.set_cons_zero, List.set_cons_succ, i64_w, i32_w]
    rfl
  refine pure_ (i := 33) (N := some 82) (v := ?_) (a' := ?_) (bs 45 326417514495) rfl rfl (any_of HT_.out (by kernel_rfl)) (fun _ _ _ h => h) (Or.inl ⟨by rfl, ?_⟩) ?_ ?_
  rotate_left
  · intro w'
    go_simp
    with_reducible rfl
  rotate_left
  · simp only [Act.put, List.setIfInBounds_toArray, List.set_cons_zero, List.set_cons_succ, i64_w, i32_w]
    rfl
  refine take_ (i := 34) (N := some 83) (v := ?_) (a' := ?_) (bs 45 343597383679) rfl rfl (take_ofW HT_.out HW_.out (by kernel_rfl)) (fun _ _ _ h => h) (Or.inl ⟨by rfl, ?_⟩) hHeld ?_ ?_
  rotate_left
  · rintro w' ⟨s0, s1, s2, s3, s4, s5, s6, s7⟩
    go_simp
    with_reducible rfl
  rotate_left
  · simp only [Act.put, List.setIfInBounds_toArray, List.set_cons_zero, List.set_cons_succ, i64_w, i32_w]
    rfl
  refine one_ (i := 36) (N := some 85) (bs 45 412316860415) rfl rfl (one_of HT_.out (by kernel_rfl)) (by decide) (fun K hK => ?_)
  refine value_ (w1 := ?_) (v := ?_) (by rfl) rfl ?_ ?_
  rotate_left 2
  · go_simp
    constructor
    · rfl
    · rfl
  refine hK.out _ _ ⟨(cell_later' (Below.alloc (Below.refl _ _) (Nat.le_refl _) _) H0.out.1), (cell_later' (Below.alloc (Below.refl _ _) (Nat.le_refl _) _) H0.out.2.1), (cell_later' (Below.alloc (Below.refl _ _) (Nat.le_refl _) _) H0.out.2.2.1), (cell_later' (Below.alloc (Below.refl _ _) (Nat.le_refl _) _) H0.out.2.2.2.1), (cell_later' (Below.alloc (Below.refl _ _) (Nat.le_refl _) _) H0.out.2.2.2.2.1), (cell_later' (Below.alloc (Below.refl _ _) (Nat.le_refl _) _) H0.out.2.2.2.2.2.1), (cell_later' (Below.alloc (Below.refl _ _) (Nat.le_refl _) _) H0.out.2.2.2.2.2.2.1), (cell_later' (Below.alloc (Below.refl _ _) (Nat.le_refl _) _) H0.out.2.2.2.2.2.2.2)⟩ (fun hHeld => ?_)
  clear hK K
  refine norm_ (a' := ?_) ?_ ?_
  rotate_left
  · show Act.put _ (some 85) _ = _
    simp only [Act.put, List.setIfInBounds_toArray, List.set_cons_zero, List.set_cons_succ, i64_w, i32_w]
    rfl
  refine one_ (i := 37) (N := some 86) (bs 45 549755813887) rfl rfl (one_of HT_.out (by kernel_rfl)) (by decide) (fun K hK => ?_)
  refine goes_ Try.func29 (by kernel_rfl) rfl #[.slice (some ⟨wd.heap.size, 0, none⟩) 4 4] (by rfl) rfl rfl (by (try simp only [List.map_toArray, List.map_cons, List.map_nil]); first | done | rfl) ?_
  with_reducible refine (HM.out wd _).mono ?_
  rintro e w3 ⟨rfl, hb3⟩
  refine ⟨_, rfl, ?_⟩
  refine hK.out _ _ ⟨(cell_later' (hb3) H0.out.1), (cell_later' (hb3) H0.out.2.1), (cell_later' (hb3) H0.out.2.2.1), (cell_later' (hb3) H0.out.2.2.2.1), (cell_later' (hb3) H0.out.2.2.2.2.1), (cell_later' (hb3) H0.out.2.2.2.2.2.1), (cell_later' (hb3) H0.out.2.2.2.2.2.2.1), (cell_later' (hb3) H0.out.2.2.2.2.2.2.2)⟩ (fun hHeld => ?_)
  clear hK K
  refine norm_ (a' := ?_) ?_ ?_
  rotate_left
  · show Act.put _ (some 86) _ = _
    simp only [Act.put, List.setIfInBounds_toArray, List.set_cons_zero, List.set_cons_succ, i64_w, i32_w]
    rfl
  refine one_ (i := 39) (N := some 88) (bs 45 1099511627775) rfl rfl (one_of HT_.out (by kernel_rfl)) (by decide) (fun K hK => ?_)
  refine goes_ Try.func38 (by kernel_rfl) rfl #[.int .i64 m, .int .i64 a] (by rfl) rfl rfl (by (try simp only [List.map_toArray, List.map_cons, List.map_nil]); first | done | rfl) ?_
  with_reducible refine (HO.out w3).mono ?_
  rintro e w4 ⟨rfl, hb4⟩
  refine ⟨_, rfl, ?_⟩
  have hb4' := below_then hb3 hb3.size hb4
  refine hK.out _ _ ⟨(cell_later' (hb4') H0.out.1), (cell_later' (hb4') H0.out.2.1), (cell_later' (hb4') H0.out.2.2.1), (cell_later' (hb4') H0.out.2.2.2.1), (cell_later' (hb4') H0.out.2.2.2.2.1), (cell_later' (hb4') H0.out.2.2.2.2.2.1), (cell_later' (hb4') H0.out.2.2.2.2.2.2.1), (cell_later' (hb4') H0.out.2.2.2.2.2.2.2)⟩ (fun hHeld => ?_)
  clear hK K
  refine norm_ (a' := ?_) ?_ ?_
  rotate_left
  · show Act.put _ (some 88) _ = _
    simp only [Act.put, List.setIfInBounds_toArray, List.set_cons_zero, List.set_cons_succ, i64_w, i32_w]
    rfl
  refine one_ (i := 40) (N := some 89) (bs 45 2199023255551) rfl rfl (one_of HT_.out (by kernel_rfl)) (by decide) (fun K hK => ?_)
  refine value_ (w1 := ?_) (v := ?_) (by rfl) rfl ?_ ?_
  rotate_left 2
  · go_simp
    constructor
    · rfl
    · rfl
  refine hK.out _ _ ⟨(cell_later' (Below.alloc hb4' hb4'.size _) H0.out.1), (cell_later' (Below.alloc hb4' hb4'.size _) H0.out.2.1), (cell_later' (Below.alloc hb4' hb4'.size _) H0.out.2.2.1), (cell_later' (Below.alloc hb4' hb4'.size _) H0.out.2.2.2.1), (cell_later' (Below.alloc hb4' hb4'.size _) H0.out.2.2.2.2.1), (cell_later' (Below.alloc hb4' hb4'.size _) H0.out.2.2.2.2.2.1), (cell_later' (Below.alloc hb4' hb4'.size _) H0.out.2.2.2.2.2.2.1), (cell_later' (Below.alloc hb4' hb4'.size _) H0.out.2.2.2.2.2.2.2)⟩ (fun hHeld => ?_)
  clear hK K
  refine norm_ (a' := ?_) ?_ ?_
  rotate_left
  · show Act.put _ (some 89) _ = _
    simp only [Act.put, List.setIfInBounds_toArray, List.set_cons_zero, List.set_cons_succ, i64_w, i32_w]
    rfl
  refine one_ (i := 41) (N := some 90) (bs 45 4398046511103) rfl rfl (one_of HT_.out (by kernel_rfl)) (by decide) (fun K hK => ?_)
  refine goes_ Try.func30 (by kernel_rfl) rfl #[.slice (some ⟨w4.heap.size, 0, none⟩) 2 2] (by rfl) rfl rfl (by (try simp only [List.map_toArray, List.map_cons, List.map_nil]); first | done | rfl) ?_
  with_reducible refine (HA.out w4 _).mono ?_
  rintro e w5 ⟨rfl, hb5⟩
  refine ⟨_, rfl, ?_⟩
  have hb5' := below_then hb4' hb4'.size hb5
  have HT5 := Aside0.mk (Tr.below (show Tr wd g R ⟨i, v, wt, of (p * a), ov⟩ from HTd.out) hb5')
  have HB5 := Aside0.mk hb5'
  obtain ⟨-, -, -, -, -, -, -, q7, -, -, -, qf⟩ := HT5.out.cells
  refine hK.out _ _ ⟨(cell_later' (hb5') H0.out.1), (cell_later' (hb5') H0.out.2.1), (cell_later' (hb5') H0.out.2.2.1), (cell_later' (hb5') H0.out.2.2.2.1), (cell_later' (hb5') H0.out.2.2.2.2.1), (cell_later' (hb5') H0.out.2.2.2.2.2.1), (cell_later' (hb5') H0.out.2.2.2.2.2.2.1), (cell_later' (hb5') H0.out.2.2.2.2.2.2.2)⟩ (fun hHeld => ?_)
  clear hK K
  refine norm_ (a' := ?_) ?_ ?_
  rotate_left
  · show Act.put _ (some 90) _ = _
    simp only [Act.put, List.setIfInBounds_toArray, List.set_cons_zero, List.set_cons_succ, i64_w, i32_w]
    rfl
  refine pure_ (i := 42) (N := some 91) (v := ?_) (a' := ?_) (bs 45 8796093022207) rfl rfl (any_of HT_.out (by kernel_rfl)) (fun _ _ _ h => h) (Or.inl ⟨by rfl, ?_⟩) ?_ ?_
  rotate_left
  · intro w'
    go_simp
    with_reducible rfl
  rotate_left
  · simp only [Act.put, List.setIfInBounds_toArray, List.set_cons_zero, List.set_cons_succ, i64_w, i32_w]
    rfl
  refine pure_ (i := 43) (N := some 92) (v := ?_) (a' := ?_) (bs 45 17592186044415) rfl rfl (any_of HT_.out (by kernel_rfl)) (fun _ _ _ h => h) (Or.inl ⟨by rfl, ?_⟩) ?_ ?_
  rotate_left
  · intro w'
    go_simp
    with_reducible rfl
  rotate_left
  · simp only [Act.put, List.setIfInBounds_toArray, List.set_cons_zero, List.set_cons_succ, i64_w, i32_w]
    rfl
  refine last_ (i := 44) (N := none) (bs 45 35184372088831) rfl rfl (one_of HT_.out (by kernel_rfl)) (by decide) (fun K hK => ?_)
  refine skip_ (w1 := ?_) (by rfl) rfl ?_ ?_
  rotate_left
  · go_simp
    rfl
  refine hK.out _ _ ?_
  clear hK K
  refine done_ (done_of HT_.out (by kernel_rfl)) ?_
  go_wp2
  go_end0
  exact ⟨rfl, HT5.out.putV _, grown_trans HGd.out (grown_trans (grown_of HB5.out _) (grown_cell _ _ _ _))⟩
def moveR.T3 : Bool × List (List Nat × List Nat) := (true, [([], []), ([], []), ([1], [1]), ([2], [2]), ([3], [3]), ([4], [4]), ([], []), ([6], [6]), ([7], [7]), ([8], [8]), ([], []), ([10], [10]), ([11], [11]), ([12], [12]), ([9, 13], [9, 13]), ([], []), ([15], [15]), ([16], [16]), ([17], [17]), ([], []), ([19], [19]), ([20], [20]), ([21], [21]), ([18, 22], [18, 22]), ([], []), ([24], [24]), ([25], [25]), ([26], [26]), ([23, 27], [23, 27]), ([5, 14, 28], [5, 14, 28]), ([29], [29]), ([0, 30, 30], [0, 30])])
def moveR.B3 : List Nat := [0, 0, 2, 6, 14, 30, 0, 64, 192, 448, 0, 1024, 3072, 7168, 16320, 0, 32768, 98304, 229376, 0, 524288, 1572864, 3670016, 8355840, 0, 16777216, 50331648, 117440512, 268402688, 536870910, 1073741822, 2147483647]
theorem moveR.tab3 : rtab .any (opsOf Try.f36 3) = moveR.T3 := by kernel_rfl
theorem moveR.bits3 : waitsOk moveR.T3.2 moveR.B3 = true := by kernel_rfl
def moveR.T5 : Bool × List (List Nat × List Nat) := (true, [([], []), ([0], [0]), ([1], [1]), ([2], [2]), ([3], [3]), ([], []), ([5], [5]), ([6], [6]), ([7], [7]), ([], []), ([9], [9]), ([10], [10]), ([11], [11]), ([8, 12], [8, 12]), ([], []), ([13, 14], [13, 14]), ([4, 15], [4, 15]), ([16], [16]), ([17, 0, 1, 2, 3, 4, 5, 6, 7, 8, 9, 10, 11, 12, 13, 14, 15, 16, 17], [17])])
def moveR.B5 : List Nat := [0, 1, 3, 7, 15, 0, 32, 96, 224, 0, 512, 1536, 3584, 8160, 0, 32736, 65535, 131071, 262143]
theorem moveR.tab5 : rtab .any (opsOf Try.f36 5) = moveR.T5 := by kernel_rfl
theorem moveR.bits5 : waitsOk moveR.T5.2 moveR.B5 = true := by kernel_rfl
def moveR.T9 : Bool × List (List Nat × List Nat) := (true, [([], []), ([0], [0]), ([1], [1]), ([2], [2]), ([], []), ([4], [4]), ([5], [5]), ([6], [6]), ([], []), ([8], [8]), ([9], [9]), ([10], [10]), ([], []), ([3, 7, 11, 12], [3, 7, 11, 12]), ([13], [13]), ([14], [14]), ([14], [14]), ([15, 13, 0, 1, 2, 3, 4, 5, 6, 7, 8, 9, 10, 11, 12, 13, 14, 15], [15]), ([16, 17, 0, 1, 2, 3, 4, 5, 6, 7, 8, 9, 10, 11, 12, 13, 14, 15, 16, 17], [16])])
def moveR.B9 : List Nat := [0, 1, 3, 7, 0, 16, 48, 112, 0, 256, 768, 1792, 0, 8191, 16383, 32767, 32767, 65535, 262143]
theorem moveR.tab9 : rtab .any (opsOf Try.f36 9) = moveR.T9 := by kernel_rfl
theorem moveR.bits9 : waitsOk moveR.T9.2 moveR.B9 = true := by kernel_rfl
def moveR.T10 : Bool × List (List Nat × List Nat) := (true, [([], []), ([], []), ([1], [1]), ([2], [2]), ([3], [3]), ([], []), ([5], [5]), ([6], [6]), ([7], [7]), ([8], [8]), ([], []), ([10], [10]), ([11], [11]), ([12], [12]), ([], []), ([14], [14]), ([15], [15]), ([16], [16]), ([13, 17], [13, 17]), ([], []), ([18, 19], [18, 19]), ([9, 20], [9, 20]), ([21], [21]), ([4, 22], [4, 22]), ([23], [23]), ([], []), ([24, 25, 24], [24, 25]), ([0, 0, 1, 2, 3, 4, 5, 6, 7, 8, 9, 10, 11, 12, 13, 14, 15, 16, 17, 18, 19, 20, 21, 22, 23, 24, 25, 26], [0]), ([27, 0, 1, 2, 3, 4, 5, 6, 7, 8, 9, 10, 11, 12, 13, 14, 15, 16, 17, 18, 19, 20, 21, 22, 23, 24, 25, 26], [27]), ([28, 26, 26, 0, 1, 2, 3, 4, 5, 6, 7, 8, 9, 10, 11, 12, 13, 14, 15, 16, 17, 18, 19, 20, 21, 22, 23, 24, 25, 26], [26, 28])])
def moveR.B10 : List Nat := [0, 0, 2, 6, 14, 0, 32, 96, 224, 480, 0, 1024, 3072, 7168, 0, 16384, 49152, 114688, 261120, 0, 1047552, 2097120, 4194272, 8388606, 16777214, 0, 67108862, 134217727, 268435455, 536870911]
theorem moveR.tab10 : rtab .any (opsOf Try.f36 10) = moveR.T10 := by kernel_rfl
theorem moveR.bits10 : waitsOk moveR.T10.2 moveR.B10 = true := by kernel_rfl
def moveR.T11 : Bool × List (List Nat × List Nat) := (true, [([], []), ([], []), ([1], [1]), ([2], [2]), ([3], [3]), ([], []), ([5], [5]), ([6], [6]), ([7], [7]), ([], []), ([9], [9]), ([10], [10]), ([11], [11]), ([12], [12]), ([], []), ([13, 14], [13, 14]), ([15], [15]), ([], []), ([8, 16, 17], [8, 16, 17]), ([18], [18]), ([4, 19], [4, 19]), ([20, 19], [20]), ([0, 0, 1, 2, 3, 4, 5, 6, 7, 8, 9, 10, 11, 12, 13, 14, 15, 16, 17, 18, 19, 20, 21], [0]), ([22, 0, 1, 2, 3, 4, 5, 6, 7, 8, 9, 10, 11, 12, 13, 14, 15, 16, 17, 18, 19, 20, 21], [22]), ([23, 21, 21, 0, 1, 2, 3, 4, 5, 6, 7, 8, 9, 10, 11, 12, 13, 14, 15, 16, 17, 18, 19, 20, 21], [21, 23])])
def moveR.B11 : List Nat := [0, 0, 2, 6, 14, 0, 32, 96, 224, 0, 512, 1536, 3584, 7680, 0, 32256, 65024, 0, 262112, 524256, 1048574, 2097150, 4194303, 8388607, 16777215]
theorem moveR.tab11 : rtab .any (opsOf Try.f36 11) = moveR.T11 := by kernel_rfl
theorem moveR.bits11 : waitsOk moveR.T11.2 moveR.B11 = true := by kernel_rfl
/-- a row of the chances to go -/
def rowG (R : Rw) (i : Nat) : List Int := (R.G.take (i * R.n + R.n)).drop (i * R.n)
theorem ix_end {n i : Nat} (hi : i < n) : i * n + n ≤ n * n := by
  have h := Nat.mul_le_mul_right n (show i + 1 ≤ n from hi)
  rw [Nat.add_mul, Nat.one_mul] at h
  exact h
theorem mid_row (R : Rw) (W0 : World) (ok : RwOk R W0) (i : Nat) (hi : i < R.n) : ∃ (A' : Option Addr) (c' : Nat), (∀ W : World, (Instr.slice 22 (.slice R.aG R.G.length R.cG) (some (.int .i64 ((i * R.n : Nat) : Int))) (some (.int .i64 ((i * R.n + R.n : Nat) : Int))) none).run Try.prog W = .ok (.slice A' (rowG R i).length c') W) ∧ (∀ W, Below W0.heap.size W0 W → Kd.C (Kd.int .i64) W A' (rowG R i).length (rowG R i)) ∧ (rowG R i).length ≤ c' := by
  have he := ix_end hi
  obtain ⟨i0, hi0, _, hsz, _⟩ := info_parts info3
  obtain ⟨A', hcut, hA, hC⟩ := print_mid_of (P := Try.prog) (Value.int .i64) 0 22 3 .i64 .i64 Try.underlying22 hi0 hsz R.aG R.cG R.G ((i * R.n : Nat) : Int) ((i * R.n + R.n : Nat) : Int) (by omega) (by omega) (by rw [ok.lG]; omega) ok.cG
  exact ⟨A', _, hcut, fun W hW => Kd.C_of_reads (h1 := fun _ => rfl) (hA _ (Kd.reads_of_C (Kd.C_below ok.hG hW))), hC⟩
set_option maxHeartbeats 8000000 in
set_option maxRecDepth 100000 in
theorem move_none_off (R : Rw) (W0 : World) (ok : RwOk R W0) (g : Nat) (i : Nat) (v wt p : Int) (ov : Bool) (hi : i < R.n) (w : World) (hb : Below W0.heap.size W0 w) (hg0 : W0.heap.size ≤ g) (h : Tr w g R ⟨i, v, wt, p, ov⟩) :
    Calls Try.prog 36 #[.pointer (some ⟨g, 0, none⟩), .int .i64 (R.n : Int), .bool false] w fun e w' => e = .returned (.tuple #[]) ∧ Tr w' g R ⟨i, v, wt, of (p * rs (rowG R i)), true⟩ ∧ w.grownBy w' (some g) := by
  obtain ⟨A', c', hcut, hrow, hc'⟩ := mid_row R W0 ok i hi
  obtain ⟨x1, -⟩ := ix_wrap (j := 0) ok.n12 hi (by omega)
  obtain ⟨hs1, -⟩ := ix_small (j := 0) ok.n12 hi (by omega)
  have hn12 := ok.n12
  have y1 : IntKind.i64.wrap ((i : Int) * (R.n : Int)) = ((i * R.n : Nat) : Int) := (i64_w _).trans x1
  have y2 : IntKind.i64.wrap (((i * R.n : Nat) : Int) + (R.n : Int)) = ((i * R.n + R.n : Nat) : Int) := (i64_w _).trans (by rw [wrap_id (by omega) (by omega)]; omega)
  obtain ⟨-, -, -, -, -, k5, -, -, -, -, -, -⟩ := h.cells
  have HT := Aside0.mk h
  have HB := Aside0.mk hb
  have HR := Aside0.mk (fun W hW => rest_any A' c' (rowG R i) W (hrow W hW) hc')
  have HBG := Aside0.mk (fun (W : World) (hW : w.grownBy W (some g)) => grown_below HB.out hW HB.out.size hg0)
  generalize rs (rowG R i) = rr at *
  generalize (rowG R i).length = ln at *
  generalize i * R.n + R.n = ie at *
  generalize i * R.n = im at *
  clear hb h ok x1 hs1 hrow hc' hn12
  go_enter Try.func36, Try.ntmps36
  go_wp2
  have HT1 := HT
  have HG1 : Aside0 (w.grownBy w (some g)) := ⟨grown_of (Below.refl _ _) _⟩
  rename_i Q1 K1 h1 K2 h2
  have A1 := Aside0.mk h1
  have A2 := Aside0.mk h2
  clear h1 h2
  obtain ⟨-, -, d2, -, -, d5, d6, -, -, -, -, -⟩ := (show Tr w.drew g R ⟨i, v, wt, p, ov⟩ from HT1.out).cells
  refine start_ (n := 32) (S := fun w' => w'.cell? ⟨g, 2, none⟩ = some (.slice R.aG R.G.length R.cG) ∧ w'.cell? ⟨g, 5, none⟩ = some (.int .i64 (R.n : Int)) ∧ w'.cell? ⟨g, 6, none⟩ = some (.int .i64 (i : Int))) (ds := [31]) (bs 32 0) (by kernel_rfl) rfl (by kernel_rfl) ⟨d2, d5, d6⟩ (fun hHeld => ?_)
  refine with_tabW moveR.tab3 moveR.bits3 (fun HT_ HW_ => ?_)
  have H0 := Aside0.mk hHeld
  have HTd : Aside0 (Tr w.drew g R ⟨i, v, wt, p, ov⟩) := ⟨HT1.out⟩
  have HGd := Aside0.mk (grown_drew HG1.out)
  generalize w.drew = wd at H0 hHeld HTd HGd ⊢
  refine pure_ (i := 0) (N := some 18) (v := ?_) (a' := ?_) (bs 32 1) rfl rfl (any_of HT_.out (by kernel_rfl)) (fun _ _ _ h => h) (Or.inl ⟨by rfl, ?_⟩) ?_ ?_
  rotate_left
  · intro w'
    go_simp
    with_reducible rfl
  rotate_left
  · simp only [Act.put, List.setIfInBounds_toArray, List.set_cons_zero, List.set_cons_succ, i64_w, i32_w]
    rfl
  refine pure_ (i := 1) (N := some 19) (v := ?_) (a' := ?_) (bs 32 3) rfl rfl (any_of HT_.out (by kernel_rfl)) (fun _ _ _ h => h) (Or.inl ⟨by rfl, ?_⟩) ?_ ?_
  rotate_left
  · intro w'
    go_simp
    with_reducible rfl
  rotate_left
  · simp only [Act.put, List.setIfInBounds_toArray, List.set_cons_zero, List.set_cons_succ, i64_w, i32_w]
    rfl
  refine pure_ (i := 2) (N := some 20) (v := ?_) (a' := ?_) (bs 32 7) rfl rfl (any_of HT_.out (by kernel_rfl)) (fun _ _ _ h => h) (Or.inl ⟨by rfl, ?_⟩) ?_ ?_
  rotate_left
  · intro w'
    go_simp
    with_reducible rfl
  rotate_left
  · simp only [Act.put, List.setIfInBounds_toArray, List.set_cons_zero, List.set_cons_succ, i64_w, i32_w]
    rfl
  refine pure_ (i := 3) (N := some 21) (v := ?_) (a' := ?_) (bs 32 15) rfl rfl (any_of HT_.out (by kernel_rfl)) (fun _ _ _ h => h) (Or.inl ⟨by rfl, ?_⟩) ?_ ?_
  rotate_left
  · intro w'
    go_simp
    with_reducible rfl
  rotate_left
  · simp only [Act.put, List.setIfInBounds_toArray, List.set_cons_zero, List.set_cons_succ, i64_w, i32_w]
    rfl
  refine pure_ (i := 4) (N := some 22) (v := ?_) (a' := ?_) (bs 32 31) rfl rfl (any_of HT_.out (by kernel_rfl)) (fun _ _ _ h => h) (Or.inl ⟨by rfl, ?_⟩) ?_ ?_
  rotate_left
  · intro w'
    go_simp
    with_reducible rfl
  rotate_left
  · simp only [Act.put, List.setIfInBounds_toArray, List.set_cons_zero, List.set_cons_succ, i64_w, i32_w]
    rfl
  refine pure_ (i := 6) (N := some 24) (v := ?_) (a' := ?_) (bs 32 95) rfl rfl (any_of HT_.out (by kernel_rfl)) (fun _ _ _ h => h) (Or.inl ⟨by rfl, ?_⟩) ?_ ?_
  rotate_left
  · intro w'
    go_simp
    with_reducible rfl
  rotate_left
  · simp only [Act.put, List.setIfInBounds_toArray, List.set_cons_zero, List.set_cons_succ, i64_w, i32_w]
    rfl
  refine pure_ (i := 7) (N := some 25) (v := ?_) (a' := ?_) (bs 32 223) rfl rfl (any_of HT_.out (by kernel_rfl)) (fun _ _ _ h => h) (Or.inl ⟨by rfl, ?_⟩) ?_ ?_
  rotate_left
  · intro w'
    go_simp
    with_reducible rfl
  rotate_left
  · simp only [Act.put, List.setIfInBounds_toArray, List.set_cons_zero, List.set_cons_succ, i64_w, i32_w]
    rfl
  refine pure_ (i := 8) (N := some 26) (v := ?_) (a' := ?_) (bs 32 479) rfl rfl (any_of HT_.out (by kernel_rfl)) (fun _ _ _ h => h) (Or.inl ⟨by rfl, ?_⟩) ?_ ?_
  rotate_left
  · intro w'
    go_simp
    with_reducible rfl
  rotate_left
  · simp only [Act.put, List.setIfInBounds_toArray, List.set_cons_zero, List.set_cons_succ, i64_w, i32_w]
    rfl
  refine pure_ (i := 10) (N := some 28) (v := ?_) (a' := ?_) (bs 32 1503) rfl rfl (any_of HT_.out (by kernel_rfl)) (fun _ _ _ h => h) (Or.inl ⟨by rfl, ?_⟩) ?_ ?_
  rotate_left
  · intro w'
    go_simp
    with_reducible rfl
  rotate_left
  · simp only [Act.put, List.setIfInBounds_toArray, List.set_cons_zero, List.set_cons_succ, i64_w, i32_w]
    rfl
  refine pure_ (i := 11) (N := some 29) (v := ?_) (a' := ?_) (bs 32 3551) rfl rfl (any_of HT_.out (by kernel_rfl)) (fun _ _ _ h => h) (Or.inl ⟨by rfl, ?_⟩) ?_ ?_
  rotate_left
  · intro w'
    go_simp
    with_reducible rfl
  rotate_left
  · simp only [Act.put, List.setIfInBounds_toArray, List.set_cons_zero, List.set_cons_succ, i64_w, i32_w]
    rfl
  refine pure_ (i := 12) (N := some 30) (v := ?_) (a' := ?_) (bs 32 7647) rfl rfl (any_of HT_.out (by kernel_rfl)) (fun _ _ _ h => h) (Or.inl ⟨by rfl, ?_⟩) ?_ ?_
  rotate_left
  · intro w'
    go_simp
    with_reducible rfl
  rotate_left
  · simp only [Act.put, List.setIfInBounds_toArray, List.set_cons_zero, List.set_cons_succ, i64_w, i32_w]
    rfl
  refine pure_ (i := 15) (N := some 33) (v := ?_) (a' := ?_) (bs 32 40415) rfl rfl (any_of HT_.out (by kernel_rfl)) (fun _ _ _ h => h) (Or.inl ⟨by rfl, ?_⟩) ?_ ?_
  rotate_left
  · intro w'
    go_simp
    with_reducible rfl
  rotate_left
  · simp only [Act.put, List.setIfInBounds_toArray, List.set_cons_zero, List.set_cons_succ, i64_w, i32_w]
    rfl
  refine pure_ (i := 16) (N := some 34) (v := ?_) (a' := ?_) (bs 32 105951) rfl rfl (any_of HT_.out (by kernel_rfl)) (fun _ _ _ h => h) (Or.inl ⟨by rfl, ?_⟩) ?_ ?_
  rotate_left
  · intro w'
    go_simp
    with_reducible rfl
  rotate_left
  · simp only [Act.put, List.setIfInBounds_toArray, List.set_cons_zero, List.set_cons_succ, i64_w, i32_w]
    rfl
  refine pure_ (i := 17) (N := some 35) (v := ?_) (a' := ?_) (bs 32 237023) rfl rfl (any_of HT_.out (by kernel_rfl)) (fun _ _ _ h => h) (Or.inl ⟨by rfl, ?_⟩) ?_ ?_
  rotate_left
  · intro w'
    go_simp
    with_reducible rfl
  rotate_left
  · simp only [Act.put, List.setIfInBounds_toArray, List.set_cons_zero, List.set_cons_succ, i64_w, i32_w]
    rfl
  refine pure_ (i := 19) (N := some 37) (v := ?_) (a' := ?_) (bs 32 761311) rfl rfl (any_of HT_.out (by kernel_rfl)) (fun _ _ _ h => h) (Or.inl ⟨by rfl, ?_⟩) ?_ ?_
  rotate_left
  · intro w'
    go_simp
    with_reducible rfl
  rotate_left
  · simp only [Act.put, List.setIfInBounds_toArray, List.set_cons_zero, List.set_cons_succ, i64_w, i32_w]
    rfl
  refine pure_ (i := 20) (N := some 38) (v := ?_) (a' := ?_) (bs 32 1809887) rfl rfl (any_of HT_.out (by kernel_rfl)) (fun _ _ _ h => h) (Or.inl ⟨by rfl, ?_⟩) ?_ ?_
  rotate_left
  · intro w'
    go_simp
    with_reducible rfl
  rotate_left
  · simp only [Act.put, List.setIfInBounds_toArray, List.set_cons_zero, List.set_cons_succ, i64_w, i32_w]
    rfl
  refine pure_ (i := 21) (N := some 39) (v := ?_) (a' := ?_) (bs 32 3907039) rfl rfl (any_of HT_.out (by kernel_rfl)) (fun _ _ _ h => h) (Or.inl ⟨by rfl, ?_⟩) ?_ ?_
  rotate_left
  · intro w'
    go_simp
    with_reducible rfl
  rotate_left
  · simp only [Act.put, List.setIfInBounds_toArray, List.set_cons_zero, List.set_cons_succ, i64_w, i32_w]
    rfl
  refine pure_ (i := 24) (N := some 42) (v := ?_) (a' := ?_) (bs 32 20684255) rfl rfl (any_of HT_.out (by kernel_rfl)) (fun _ _ _ h => h) (Or.inl ⟨by rfl, ?_⟩) ?_ ?_
  rotate_left
  · intro w'
    go_simp
    with_reducible rfl
  rotate_left
  · simp only [Act.put, List.setIfInBounds_toArray, List.set_cons_zero, List.set_cons_succ, i64_w, i32_w]
    rfl
  refine pure_ (i := 25) (N := some 43) (v := ?_) (a' := ?_) (bs 32 54238687) rfl rfl (any_of HT_.out (by kernel_rfl)) (fun _ _ _ h => h) (Or.inl ⟨by rfl, ?_⟩) ?_ ?_
  rotate_left
  · intro w'
    go_simp
    with_reducible rfl
  rotate_left
  · simp only [Act.put, List.setIfInBounds_toArray, List.set_cons_zero, List.set_cons_succ, i64_w, i32_w]
    rfl
  refine pure_ (i := 26) (N := some 44) (v := ?_) (a' := ?_) (bs 32 121347551) rfl rfl (any_of HT_.out (by kernel_rfl)) (fun _ _ _ h => h) (Or.inl ⟨by rfl, ?_⟩) ?_ ?_
  rotate_left
  · intro w'
    go_simp
    with_reducible rfl
  rotate_left
  · simp only [Act.put, List.setIfInBounds_toArray, List.set_cons_zero, List.set_cons_succ, i64_w, i32_w]
    rfl
  refine take_ (i := 5) (N := some 23) (v := ?_) (a' := ?_) (bs 32 121347583) rfl rfl (take_ofW HT_.out HW_.out (by kernel_rfl)) (fun _ _ _ h => h) (Or.inl ⟨by rfl, ?_⟩) hHeld ?_ ?_
  rotate_left
  · rintro w' ⟨s0, s1, s2⟩
    go_simp
    with_reducible rfl
  rotate_left
  · simp only [Act.put, List.setIfInBounds_toArray, List.set_cons_zero, List.set_cons_succ, i64_w, i32_w]
    rfl
  refine take_ (i := 9) (N := some 27) (v := ?_) (a' := ?_) (bs 32 121348095) rfl rfl (take_ofW HT_.out HW_.out (by kernel_rfl)) (fun _ _ _ h => h) (Or.inl ⟨by rfl, ?_⟩) hHeld ?_ ?_
  rotate_left
  · rintro w' ⟨s0, s1, s2⟩
    go_simp
    with_reducible rfl
  rotate_left
  · simp only [Act.put, List.setIfInBounds_toArray, List.set_cons_zero, List.set_cons_succ, i64_w, i32_w]
    rfl
  refine take_ (i := 13) (N := some 31) (v := ?_) (a' := ?_) (bs 32 121356287) rfl rfl (take_ofW HT_.out HW_.out (by kernel_rfl)) (fun _ _ _ h => h) (Or.inl ⟨by rfl, ?_⟩) hHeld ?_ ?_
  rotate_left
  · rintro w' ⟨s0, s1, s2⟩
    go_simp
    with_reducible rfl
  rotate_left
  · simp only [Act.put, List.setIfInBounds_toArray, List.set_cons_zero, List.set_cons_succ, i64_w, i32_w]
    rfl
  refine pure_ (i := 14) (N := some 32) (v := ?_) (a' := ?_) (bs 32 121372671) rfl rfl (any_of HT_.out (by kernel_rfl)) (fun _ _ _ h => h) (Or.inl ⟨by rfl, ?_⟩) ?_ ?_
  rotate_left
  · intro w'
    go_simp
    with_reducible rfl
  rotate_left
  · simp only [Act.put, List.setIfInBounds_toArray, List.set_cons_zero, List.set_cons_succ, i64_w, i32_w]
    rfl
  refine take_ (i := 18) (N := some 36) (v := ?_) (a' := ?_) (bs 32 121634815) rfl rfl (take_ofW HT_.out HW_.out (by kernel_rfl)) (fun _ _ _ h => h) (Or.inl ⟨by rfl, ?_⟩) hHeld ?_ ?_
  rotate_left
  · rintro w' ⟨s0, s1, s2⟩
    go_simp
    with_reducible rfl
  rotate_left
  · simp only [Act.put, List.setIfInBounds_toArray, List.set_cons_zero, List.set_cons_succ, i64_w, i32_w]
    rfl
  refine take_ (i := 22) (N := some 40) (v := ?_) (a' := ?_) (bs 32 125829119) rfl rfl (take_ofW HT_.out HW_.out (by kernel_rfl)) (fun _ _ _ h => h) (Or.inl ⟨by rfl, ?_⟩) hHeld ?_ ?_
  rotate_left
  · rintro w' ⟨s0, s1, s2⟩
    go_simp
    with_reducible rfl
  rotate_left
  · simp only [Act.put, List.setIfInBounds_toArray, List.set_cons_zero, List.set_cons_succ, i64_w, i32_w]
    rfl
  refine pure_ (i := 23) (N := some 41) (v := ?_) (a' := ?_) (bs 32 134217727) rfl rfl (any_of HT_.out (by kernel_rfl)) (fun _ _ _ h => h) (Or.inl ⟨by rfl, ?_⟩) ?_ ?_
  rotate_left
  · intro w'
    go_simp
    with_reducible rfl
  rotate_left
  · simp only [Act.put, List.setIfInBounds_toArray, List.set_cons_zero, List.set_cons_succ, i64_w, i32_w]
    rfl
  refine take_ (i := 27) (N := some 45) (v := ?_) (a' := ?_) (bs 32 268435455) rfl rfl (take_ofW HT_.out HW_.out (by kernel_rfl)) (fun _ _ _ h => h) (Or.inl ⟨by rfl, ?_⟩) hHeld ?_ ?_
  rotate_left
  · rintro w' ⟨s0, s1, s2⟩
    go_simp
    with_reducible rfl
  rotate_left
  · simp only [Act.put, List.setIfInBounds_toArray, List.set_cons_zero, List.set_cons_succ, i64_w, i32_w]
    rfl
  refine pure_ (i := 28) (N := some 46) (v := ?_) (a' := ?_) (bs 32 536870911) rfl rfl (any_of HT_.out (by kernel_rfl)) (fun _ _ _ h => h) (Or.inl ⟨by rfl, ?_⟩) ?_ ?_
  rotate_left
  · intro w'
    go_simp
    with_reducible rfl
  rotate_left
  · simp only [Act.put, List.setIfInBounds_toArray, List.set_cons_zero, List.set_cons_succ, i64_w, i32_w]
    rfl
  refine pure_ (i := 29) (N := some 47) (v := ?_) (a' := ?_) (bs 32 1073741823) rfl rfl (any_of HT_.out (by kernel_rfl)) (fun _ _ _ h => h) (Or.inl ⟨by rfl, ?_⟩) ?_ ?_
  rotate_left
  · intro w'
    go_simp
    with_reducible rfl
  rotate_left
  · simp only [Act.put, List.setIfInBounds_toArray, List.set_cons_zero, List.set_cons_succ, i64_w, i32_w]
    rfl
  refine one_ (i := 30) (N := some 48) (bs 32 2147483647) rfl rfl (one_of HT_.out (by kernel_rfl)) (by decide) (fun K hK => ?_)
  refine goes_ Try.func45 (by kernel_rfl) rfl #[.slice A' ln c'] (by rfl) rfl rfl (by (try simp only [List.map_toArray, List.map_cons, List.map_nil]); first | done | rfl) ?_
  with_reducible refine (HR.out wd (HBG.out wd HGd.out)).mono ?_
  rintro e w2 ⟨rfl, m2, rfl⟩
  refine ⟨_, rfl, ?_⟩
  refine hK.out _ _ ⟨H0.out.1, H0.out.2.1, H0.out.2.2⟩ (fun hHeld => ?_)
  clear hK K
  refine norm_ (a' := ?_) ?_ ?_
  rotate_left
  · show Act.put _ (some 48) _ = _
    simp only [Act.put, List.setIfInBounds_toArray, List.set_cons_zero, List.set_cons_succ, i64_w, i32_w]
    rfl
  refine last_ (i := 31) (N := some 49) (bs 32 4294967295) rfl rfl (one_of HT_.out (by kernel_rfl)) (by decide) (fun K hK => ?_)
  refine goes_ Try.func44 (by kernel_rfl) rfl #[.pointer (some ⟨g, 0, none⟩), .int .i64 rr] (by rfl) rfl rfl (by (try simp only [List.map_toArray, List.map_cons, List.map_nil]); first | done | rfl) ?_
  with_reducible refine (happens_any R g ⟨i, v, wt, p, ov⟩ rr (wd.drewN m2) (HTd.out.drewN m2)).mono ?_
  rintro e w3 ⟨rfl, hT3, hg3⟩
  refine ⟨_, rfl, ?_⟩
  have HT3 : Aside0 (Tr w3 g R ⟨i, v, wt, of (p * rr), ov⟩) := ⟨hT3⟩
  have HG3 := Aside0.mk (drewN_grown hg3)
  obtain ⟨-, -, -, -, -, -, -, -, -, -, q10, qf⟩ := HT3.out.cells
  refine hK.out _ _ ?_
  clear hK K
  refine norm_ (a' := ?_) ?_ ?_
  rotate_left
  · show Act.put _ (some 49) _ = _
    simp only [Act.put, List.setIfInBounds_toArray, List.set_cons_zero, List.set_cons_succ, i64_w, i32_w]
    rfl
  refine done_ (done_of HT_.out (by kernel_rfl)) ?_
  have h1 := A1.out
  have h2 := A2.out
  go_wp2
  refine bodyPost_ret (results_none rfl _ _ _) rfl ?_
  exact ⟨rfl, HT3.out.putO _, grown_trans HGd.out (grown_trans HG3.out (grown_cell _ _ _ _))⟩
set_option maxHeartbeats 8000000 in
set_option maxRecDepth 100000 in
theorem move_none_on (R : Rw) (W0 : World) (ok : RwOk R W0) (g : Nat) (i : Nat) (v wt p : Int) (ov : Bool) (hi : i < R.n) (w : World) (hb : Below W0.heap.size W0 w) (hg0 : W0.heap.size ≤ g) (h : Tr w g R ⟨i, v, wt, p, ov⟩) :
    Calls Try.prog 36 #[.pointer (some ⟨g, 0, none⟩), .int .i64 (R.n : Int), .bool true] w fun e w' => e = .returned (.tuple #[]) ∧ Tr w' g R ⟨i, v, wt, 0, true⟩ ∧ w.grownBy w' (some g) := by
  obtain ⟨A', c', hcut, hrow, hc'⟩ := mid_row R W0 ok i hi
  obtain ⟨x1, -⟩ := ix_wrap (j := 0) ok.n12 hi (by omega)
  obtain ⟨hs1, -⟩ := ix_small (j := 0) ok.n12 hi (by omega)
  have hn12 := ok.n12
  have y1 : IntKind.i64.wrap ((i : Int) * (R.n : Int)) = ((i * R.n : Nat) : Int) := (i64_w _).trans x1
  have y2 : IntKind.i64.wrap (((i * R.n : Nat) : Int) + (R.n : Int)) = ((i * R.n + R.n : Nat) : Int) := (i64_w _).trans (by rw [wrap_id (by omega) (by omega)]; omega)
  obtain ⟨-, -, -, -, -, k5, -, -, -, -, -, -⟩ := h.cells
  have HT := Aside0.mk h
  have HB := Aside0.mk hb
  have HR := Aside0.mk (fun W hW => rest_any A' c' (rowG R i) W (hrow W hW) hc')
  have HBG := Aside0.mk (fun (W : World) (hW : w.grownBy W (some g)) => grown_below HB.out hW HB.out.size hg0)
  generalize rs (rowG R i) = rr at *
  generalize (rowG R i).length = ln at *
  generalize i * R.n + R.n = ie at *
  generalize i * R.n = im at *
  clear hb h ok x1 hs1 hrow hc' hn12
  go_enter Try.func36, Try.ntmps36
  go_wp2_with (go_at_call 44; refine (happens_any R g ⟨i, v, wt, p, ov⟩ 0 _ HT.out).mono ?_; rintro x w1 ⟨rfl, hT, hg⟩; (try rw [of_mul_zero] at hT); have HT1 : Aside0 (Tr w1 g R ⟨i, v, wt, 0, ov⟩) := ⟨hT⟩; have HG1 := Aside0.mk hg; clear hT hg)
  rename_i Q1 K1 h1 K2 h2
  have A1 := Aside0.mk h1
  have A2 := Aside0.mk h2
  clear h1 h2
  obtain ⟨-, -, d2, -, -, d5, d6, -, -, -, -, -⟩ := (show Tr w1.drew g R ⟨i, v, wt, 0, ov⟩ from HT1.out).cells
  refine start_ (n := 32) (S := fun w' => w'.cell? ⟨g, 2, none⟩ = some (.slice R.aG R.G.length R.cG) ∧ w'.cell? ⟨g, 5, none⟩ = some (.int .i64 (R.n : Int)) ∧ w'.cell? ⟨g, 6, none⟩ = some (.int .i64 (i : Int))) (ds := [31]) (bs 32 0) (by kernel_rfl) rfl (by kernel_rfl) ⟨d2, d5, d6⟩ (fun hHeld => ?_)
  refine with_tabW moveR.tab3 moveR.bits3 (fun HT_ HW_ => ?_)
  have H0 := Aside0.mk hHeld
  have HTd : Aside0 (Tr w1.drew g R ⟨i, v, wt, 0, ov⟩) := ⟨HT1.out⟩
  have HGd := Aside0.mk (grown_drew HG1.out)
  generalize w1.drew = wd at H0 hHeld HTd HGd ⊢
  refine pure_ (i := 0) (N := some 18) (v := ?_) (a' := ?_) (bs 32 1) rfl rfl (any_of HT_.out (by kernel_rfl)) (fun _ _ _ h => h) (Or.inl ⟨by rfl, ?_⟩) ?_ ?_
  rotate_left
  · intro w'
    go_simp
    with_reducible rfl
  rotate_left
  · simp only [Act.put, List.setIfInBounds_toArray, List.set_cons_zero, List.set_cons_succ, i64_w, i32_w]
    rfl
  refine pure_ (i := 1) (N := some 19) (v := ?_) (a' := ?_) (bs 32 3) rfl rfl (any_of HT_.out (by kernel_rfl)) (fun _ _ _ h => h) (Or.inl ⟨by rfl, ?_⟩) ?_ ?_
  rotate_left
  · intro w'
    go_simp
    with_reducible rfl
  rotate_left
  · simp only [Act.put, List.setIfInBounds_toArray, List.set_cons_zero, List.set_cons_succ, i64_w, i32_w]
    rfl
  refine pure_ (i := 2) (N := some 20) (v := ?_) (a' := ?_) (bs 32 7) rfl rfl (any_of HT_.out (by kernel_rfl)) (fun _ _ _ h => h) (Or.inl ⟨by rfl, ?_⟩) ?_ ?_
  rotate_left
  · intro w'
    go_simp
    with_reducible rfl
  rotate_left
  · simp only [Act.put, List.setIfInBounds_toArray, List.set_cons_zero, List.set_cons_succ, i64_w, i32_w]
    rfl
  refine pure_ (i := 3) (N := some 21) (v := ?_) (a' := ?_) (bs 32 15) rfl rfl (any_of HT_.out (by kernel_rfl)) (fun _ _ _ h => h) (Or.inl ⟨by rfl, ?_⟩) ?_ ?_
  rotate_left
  · intro w'
    go_simp
    with_reducible rfl
  rotate_left
  · simp only [Act.put, List.setIfInBounds_toArray, List.set_cons_zero, List.set_cons_succ, i64_w, i32_w]
    rfl
  refine pure_ (i := 4) (N := some 22) (v := ?_) (a' := ?_) (bs 32 31) rfl rfl (any_of HT_.out (by kernel_rfl)) (fun _ _ _ h => h) (Or.inl ⟨by rfl, ?_⟩) ?_ ?_
  rotate_left
  · intro w'
    go_simp
    with_reducible rfl
  rotate_left
  · simp only [Act.put, List.setIfInBounds_toArray, List.set_cons_zero, List.set_cons_succ, i64_w, i32_w]
    rfl
  refine pure_ (i := 6) (N := some 24) (v := ?_) (a' := ?_) (bs 32 95) rfl rfl (any_of HT_.out (by kernel_rfl)) (fun _ _ _ h => h) (Or.inl ⟨by rfl, ?_⟩) ?_ ?_
  rotate_left
  · intro w'
    go_simp
    with_reducible rfl
  rotate_left
  · simp only [Act.put, List.setIfInBounds_toArray, List.set_cons_zero, List.set_cons_succ, i64_w, i32_w]
    rfl
  refine pure_ (i := 7) (N := some 25) (v := ?_) (a' := ?_) (bs 32 223) rfl rfl (any_of HT_.out (by kernel_rfl)) (fun _ _ _ h => h) (Or.inl ⟨by rfl, ?_⟩) ?_ ?_
  rotate_left
  · intro w'
    go_simp
    with_reducible rfl
  rotate_left
  · simp only [Act.put, List.setIfInBounds_toArray, List.set_cons_zero, List.set_cons_succ, i64_w, i32_w]
    rfl
  refine pure_ (i := 8) (N := some 26) (v := ?_) (a' := ?_) (bs 32 479) rfl rfl (any_of HT_.out (by kernel_rfl)) (fun _ _ _ h => h) (Or.inl ⟨by rfl, ?_⟩) ?_ ?_
  rotate_left
  · intro w'
    go_simp
    with_reducible rfl
  rotate_left
  · simp only [Act.put, List.setIfInBounds_toArray, List.set_cons_zero, List.set_cons_succ, i64_w, i32_w]
    rfl
  refine pure_ (i := 10) (N := some 28) (v := ?_) (a' := ?_) (bs 32 1503) rfl rfl (any_of HT_.out (by kernel_rfl)) (fun _ _ _ h => h) (Or.inl ⟨by rfl, ?_⟩) ?_ ?_
  rotate_left
  · intro w'
    go_simp
    with_reducible rfl
  rotate_left
  · simp only [Act.put, List.setIfInBounds_toArray, List.set_cons_zero, List.set_cons_succ, i64_w, i32_w]
    rfl
  refine pure_ (i := 11) (N := some 29) (v := ?_) (a' := ?_) (bs 32 3551) rfl rfl (any_of HT_.out (by kernel_rfl)) (fun _ _ _ h => h) (Or.inl ⟨by rfl, ?_⟩) ?_ ?_
  rotate_left
  · intro w'
    go_simp
    with_reducible rfl
  rotate_left
  · simp only [Act.put, List.setIfInBounds_toArray, List.set_cons_zero, List.set_cons_succ, i64_w, i32_w]
    rfl
  refine pure_ (i := 12) (N := some 30) (v := ?_) (a' := ?_) (bs 32 7647) rfl rfl (any_of HT_.out (by kernel_rfl)) (fun _ _ _ h => h) (Or.inl ⟨by rfl, ?_⟩) ?_ ?_
  rotate_left
  · intro w'
    go_simp
    with_reducible rfl
  rotate_left
  · simp only [Act.put, List.setIfInBounds_toArray, List.set_cons_zero, List.set_cons_succ, i64_w, i32_w]
    rfl
  refine pure_ (i := 15) (N := some 33) (v := ?_) (a' := ?_) (bs 32 40415) rfl rfl (any_of HT_.out (by kernel_rfl)) (fun _ _ _ h => h) (Or.inl ⟨by rfl, ?_⟩) ?_ ?_
  rotate_left
  · intro w'
    go_simp
    with_reducible rfl
  rotate_left
  · simp only [Act.put, List.setIfInBounds_toArray, List.set_cons_zero, List.set_cons_succ, i64_w, i32_w]
    rfl
  refine pure_ (i := 16) (N := some 34) (v := ?_) (a' := ?_) (bs 32 105951) rfl rfl (any_of HT_.out (by kernel_rfl)) (fun _ _ _ h => h) (Or.inl ⟨by rfl, ?_⟩) ?_ ?_
  rotate_left
  · intro w'
    go_simp
    with_reducible rfl
  rotate_left
  · simp only [Act.put, List.setIfInBounds_toArray, List.set_cons_zero, List.set_cons_succ, i64_w, i32_w]
    rfl
  refine pure_ (i := 17) (N := some 35) (v := ?_) (a' := ?_) (bs 32 237023) rfl rfl (any_of HT_.out (by kernel_rfl)) (fun _ _ _ h => h) (Or.inl ⟨by rfl, ?_⟩) ?_ ?_
  rotate_left
  · intro w'
    go_simp
    with_reducible rfl
  rotate_left
  · simp only [Act.put, List.setIfInBounds_toArray, List.set_cons_zero, List.set_cons_succ, i64_w, i32_w]
    rfl
  refine pure_ (i := 19) (N := some 37) (v := ?_) (a' := ?_) (bs 32 761311) rfl rfl (any_of HT_.out (by kernel_rfl)) (fun _ _ _ h => h) (Or.inl ⟨by rfl, ?_⟩) ?_ ?_
  rotate_left
  · intro w'
    go_simp
    with_reducible rfl
  rotate_left
  · simp only [Act.put, List.setIfInBounds_toArray, List.set_cons_zero, List.set_cons_succ, i64_w, i32_w]
    rfl
  refine pure_ (i := 20) (N := some 38) (v := ?_) (a' := ?_) (bs 32 1809887) rfl rfl (any_of HT_.out (by kernel_rfl)) (fun _ _ _ h => h) (Or.inl ⟨by rfl, ?_⟩) ?_ ?_
  rotate_left
  · intro w'
    go_simp
    with_reducible rfl
  rotate_left
  · simp only [Act.put, List.setIfInBounds_toArray, List.set_cons_zero, List.set_cons_succ, i64_w, i32_w]
    rfl
  refine pure_ (i := 21) (N := some 39) (v := ?_) (a' := ?_) (bs 32 3907039) rfl rfl (any_of HT_.out (by kernel_rfl)) (fun _ _ _ h => h) (Or.inl ⟨by rfl, ?_⟩) ?_ ?_
  rotate_left
  · intro w'
    go_simp
    with_reducible rfl
  rotate_left
  · simp only [Act.put, List.setIfInBounds_toArray, List.set_cons_zero, List.set_cons_succ, i64_w, i32_w]
    rfl
  refine pure_ (i := 24) (N := some 42) (v := ?_) (a' := ?_) (bs 32 20684255) rfl rfl (any_of HT_.out (by kernel_rfl)) (fun _ _ _ h => h) (Or.inl ⟨by rfl, ?_⟩) ?_ ?_
  rotate_left
  · intro w'
    go_simp
    with_reducible rfl
  rotate_left
  · simp only [Act.put, List.setIfInBounds_toArray, List.set_cons_zero, List.set_cons_succ, i64_w, i32_w]
    rfl
  refine pure_ (i := 25) (N := some 43) (v := ?_) (a' := ?_) (bs 32 54238687) rfl rfl (any_of HT_.out (by kernel_rfl)) (fun _ _ _ h => h) (Or.inl ⟨by rfl, ?_⟩) ?_ ?_
  rotate_left
  · intro w'
    go_simp
    with_reducible rfl
  rotate_left
  · simp only [Act.put, List.setIfInBounds_toArray, List.set_cons_zero, List.set_cons_succ, i64_w, i32_w]
    rfl
  refine pure_ (i := 26) (N := some 44) (v := ?_) (a' := ?_) (bs 32 121347551) rfl rfl (any_of HT_.out (by kernel_rfl)) (fun _ _ _ h => h) (Or.inl ⟨by rfl, ?_⟩) ?_ ?_
  rotate_left
  · intro w'
    go_simp
    with_reducible rfl
  rotate_left
  · simp only [Act.put, List.setIfInBounds_toArray, List.set_cons_zero, List.set_cons_succ, i64_w, i32_w]
    rfl
  refine take_ (i := 5) (N := some 23) (v := ?_) (a' := ?_) (bs 32 121347583) rfl rfl (take_ofW HT_.out HW_.out (by kernel_rfl)) (fun _ _ _ h => h) (Or.inl ⟨by rfl, ?_⟩) hHeld ?_ ?_
  rotate_left
  · rintro w' ⟨s0, s1, s2⟩
    go_simp
    with_reducible rfl
  rotate_left
  · simp only [Act.put, List.setIfInBounds_toArray, List.set_cons_zero, List.set_cons_succ, i64_w, i32_w]
    rfl
  refine take_ (i := 9) (N := some 27) (v := ?_) (a' := ?_) (bs 32 121348095) rfl rfl (take_ofW HT_.out HW_.out (by kernel_rfl)) (fun _ _ _ h => h) (Or.inl ⟨by rfl, ?_⟩) hHeld ?_ ?_
  rotate_left
  · rintro w' ⟨s0, s1, s2⟩
    go_simp
    with_reducible rfl
  rotate_left
  · simp only [Act.put, List.setIfInBounds_toArray, List.set_cons_zero, List.set_cons_succ, i64_w, i32_w]
    rfl
  refine take_ (i := 13) (N := some 31) (v := ?_) (a' := ?_) (bs 32 121356287) rfl rfl (take_ofW HT_.out HW_.out (by kernel_rfl)) (fun _ _ _ h => h) (Or.inl ⟨by rfl, ?_⟩) hHeld ?_ ?_
  rotate_left
  · rintro w' ⟨s0, s1, s2⟩
    go_simp
    with_reducible rfl
  rotate_left
  · simp only [Act.put, List.setIfInBounds_toArray, List.set_cons_zero, List.set_cons_succ, i64_w, i32_w]
    rfl
  refine pure_ (i := 14) (N := some 32) (v := ?_) (a' := ?_) (bs 32 121372671) rfl rfl (any_of HT_.out (by kernel_rfl)) (fun _ _ _ h => h) (Or.inl ⟨by rfl, ?_⟩) ?_ ?_
  rotate_left
  · intro w'
    go_simp
    with_reducible rfl
  rotate_left
  · simp only [Act.put, List.setIfInBounds_toArray, List.set_cons_zero, List.set_cons_succ, i64_w, i32_w]
    rfl
  refine take_ (i := 18) (N := some 36) (v := ?_) (a' := ?_) (bs 32 121634815) rfl rfl (take_ofW HT_.out HW_.out (by kernel_rfl)) (fun _ _ _ h => h) (Or.inl ⟨by rfl, ?_⟩) hHeld ?_ ?_
  rotate_left
  · rintro w' ⟨s0, s1, s2⟩
    go_simp
    with_reducible rfl
  rotate_left
  · simp only [Act.put, List.setIfInBounds_toArray, List.set_cons_zero, List.set_cons_succ, i64_w, i32_w]
    rfl
  refine take_ (i := 22) (N := some 40) (v := ?_) (a' := ?_) (bs 32 125829119) rfl rfl (take_ofW HT_.out HW_.out (by kernel_rfl)) (fun _ _ _ h => h) (Or.inl ⟨by rfl, ?_⟩) hHeld ?_ ?_
  rotate_left
  · rintro w' ⟨s0, s1, s2⟩
    go_simp
    with_reducible rfl
  rotate_left
  · simp only [Act.put, List.setIfInBounds_toArray, List.set_cons_zero, List.set_cons_succ, i64_w, i32_w]
    rfl
  refine pure_ (i := 23) (N := some 41) (v := ?_) (a' := ?_) (bs 32 134217727) rfl rfl (any_of HT_.out (by kernel_rfl)) (fun _ _ _ h => h) (Or.inl ⟨by rfl, ?_⟩) ?_ ?_
  rotate_left
  · intro w'
    go_simp
    with_reducible rfl
  rotate_left
  · simp only [Act.put, List.setIfInBounds_toArray, List.set_cons_zero, List.set_cons_succ, i64_w, i32_w]
    rfl
  refine take_ (i := 27) (N := some 45) (v := ?_) (a' := ?_) (bs 32 268435455) rfl rfl (take_ofW HT_.out HW_.out (by kernel_rfl)) (fun _ _ _ h => h) (Or.inl ⟨by rfl, ?_⟩) hHeld ?_ ?_
  rotate_left
  · rintro w' ⟨s0, s1, s2⟩
    go_simp
    with_reducible rfl
  rotate_left
  · simp only [Act.put, List.setIfInBounds_toArray, List.set_cons_zero, List.set_cons_succ, i64_w, i32_w]
    rfl
  refine pure_ (i := 28) (N := some 46) (v := ?_) (a' := ?_) (bs 32 536870911) rfl rfl (any_of HT_.out (by kernel_rfl)) (fun _ _ _ h => h) (Or.inl ⟨by rfl, ?_⟩) ?_ ?_
  rotate_left
  · intro w'
    go_simp
    with_reducible rfl
  rotate_left
  · simp only [Act.put, List.setIfInBounds_toArray, List.set_cons_zero, List.set_cons_succ, i64_w, i32_w]
    rfl
  refine pure_ (i := 29) (N := some 47) (v := ?_) (a' := ?_) (bs 32 1073741823) rfl rfl (any_of HT_.out (by kernel_rfl)) (fun _ _ _ h => h) (Or.inl ⟨by rfl, ?_⟩) ?_ ?_
  rotate_left
  · intro w'
    go_simp
    with_reducible rfl
  rotate_left
  · simp only [Act.put, List.setIfInBounds_toArray, List.set_cons_zero, List.set_cons_succ, i64_w, i32_w]
    rfl
  refine one_ (i := 30) (N := some 48) (bs 32 2147483647) rfl rfl (one_of HT_.out (by kernel_rfl)) (by decide) (fun K hK => ?_)
  refine goes_ Try.func45 (by kernel_rfl) rfl #[.slice A' ln c'] (by rfl) rfl rfl (by (try simp only [List.map_toArray, List.map_cons, List.map_nil]); first | done | rfl) ?_
  with_reducible refine (HR.out wd (HBG.out wd HGd.out)).mono ?_
  rintro e w2 ⟨rfl, m2, rfl⟩
  refine ⟨_, rfl, ?_⟩
  refine hK.out _ _ ⟨H0.out.1, H0.out.2.1, H0.out.2.2⟩ (fun hHeld => ?_)
  clear hK K
  refine norm_ (a' := ?_) ?_ ?_
  rotate_left
  · show Act.put _ (some 48) _ = _
    simp only [Act.put, List.setIfInBounds_toArray, List.set_cons_zero, List.set_cons_succ, i64_w, i32_w]
    rfl
  refine last_ (i := 31) (N := some 49) (bs 32 4294967295) rfl rfl (one_of HT_.out (by kernel_rfl)) (by decide) (fun K hK => ?_)
  refine goes_ Try.func44 (by kernel_rfl) rfl #[.pointer (some ⟨g, 0, none⟩), .int .i64 rr] (by rfl) rfl rfl (by (try simp only [List.map_toArray, List.map_cons, List.map_nil]); first | done | rfl) ?_
  with_reducible refine (happens_any R g ⟨i, v, wt, 0, ov⟩ rr (wd.drewN m2) (HTd.out.drewN m2)).mono ?_
  rintro e w3 ⟨rfl, hT3, hg3⟩
  refine ⟨_, rfl, ?_⟩
  rw [of_zero_mul] at hT3
  have HT3 : Aside0 (Tr w3 g R ⟨i, v, wt, 0, ov⟩) := ⟨hT3⟩
  have HG3 := Aside0.mk (drewN_grown hg3)
  obtain ⟨-, -, -, -, -, -, -, -, -, -, q10, qf⟩ := HT3.out.cells
  refine hK.out _ _ ?_
  clear hK K
  refine norm_ (a' := ?_) ?_ ?_
  rotate_left
  · show Act.put _ (some 49) _ = _
    simp only [Act.put, List.setIfInBounds_toArray, List.set_cons_zero, List.set_cons_succ, i64_w, i32_w]
    rfl
  refine done_ (done_of HT_.out (by kernel_rfl)) ?_
  have h1 := A1.out
  have h2 := A2.out
  go_wp2
  refine bodyPost_ret (results_none rfl _ _ _) rfl ?_
  exact ⟨rfl, HT3.out.putO _, grown_trans HGd.out (grown_trans HG3.out (grown_cell _ _ _ _))⟩
set_option maxHeartbeats 16000000 in
set_option maxRecDepth 100000 in
theorem move_zero (R : Rw) (W0 : World) (ok : RwOk R W0) (g : Nat) (i j : Nat) (v wt p : Int) (ov on : Bool) (hi : i < R.n) (hj : j < R.n) (hz : of (R.G.getD (i * R.n + j) 0) = 0) (w : World) (hb : Below W0.heap.size W0 w) (hg0 : W0.heap.size ≤ g) (h : Tr w g R ⟨i, v, wt, p, ov⟩) :
    Calls Try.prog 36 #[.pointer (some ⟨g, 0, none⟩), .int .i64 (j : Int), .bool on] w fun e w' => e = .returned (.tuple #[]) ∧ Tr w' g R ⟨i, v, wt, of (p * R.G.getD (i * R.n + j) 0), true⟩ ∧ w.grownBy w' (some g) := by
  obtain ⟨adA, eA, hxA⟩ := Kd.at_int (Kd.C_below ok.hA hb) (j : Int) (by omega) (by rw [ok.lA]; omega)
  obtain ⟨adE, eE, hxE⟩ := Kd.at_int (Kd.C_below ok.hE hb) (j : Int) (by omega) (by rw [ok.lE]; omega)
  obtain ⟨adT, eT, hxT⟩ := Kd.at_int (Kd.C_below ok.hT hb) ((i * R.n + j : Nat) : Int) (by omega) (by have := ix_lt hi hj; rw [ok.lT]; omega)
  obtain ⟨adG, eG, hxG⟩ := Kd.at_int (Kd.C_below ok.hG hb) ((i * R.n + j : Nat) : Int) (by omega) (by have := ix_lt hi hj; rw [ok.lG]; omega)
  rw [rd_eq, Int.toNat_natCast] at hxA hxE hxT hxG
  obtain ⟨x1, x2⟩ := ix_wrap ok.n12 hi hj
  have y1 : IntKind.i64.wrap ((i : Int) * (R.n : Int)) = ((i * R.n : Nat) : Int) := (i64_w _).trans x1
  have y2 : IntKind.i64.wrap (((i * R.n : Nat) : Int) + (j : Int)) = ((i * R.n + j : Nat) : Int) := (i64_w _).trans x2
  have z0 : (0 : Int) ≤ (j : Int) := by omega
  have z1 : (j : Int) < (R.A.length : Int) := by rw [ok.lA]; omega
  have z2 : (j : Int) < (R.E.length : Int) := by rw [ok.lE]; omega
  have z3 : (0 : Int) ≤ ((i * R.n + j : Nat) : Int) := by omega
  have z4 : ((i * R.n + j : Nat) : Int) < (R.T.length : Int) := by have := ix_lt hi hj; rw [ok.lT]; omega
  have z5 : ((i * R.n + j : Nat) : Int) < (R.G.length : Int) := by have := ix_lt hi hj; rw [ok.lG]; omega
  have z6 : ((j : Int) == (R.n : Int)) = false := by rw [beq_eq_false_iff_ne]; omega
  obtain ⟨-, -, k2, -, -, k5, k6, -, -, -, -, -⟩ := h.cells
  rw [eG] at k2
  have HT := Aside0.mk h
  have HW := Aside0.mk (fun W hW => by have h := weights_any R W0 ok i j hi hj W hW; exact h)
  have HB := Aside0.mk hb
  have XG := Aside0.mk (fun W (hW : Below W0.heap.size W0 W) => (by
    obtain ⟨ad, e, hx⟩ := Kd.at_int (Kd.C_below ok.hG hW) ((i * R.n + j : Nat) : Int) (by omega) (by have := ix_lt hi hj; rw [ok.lG]; omega)
    rw [rd_eq, Int.toNat_natCast] at hx
    rw [eG] at e
    cases e
    exact hx : W.cell? (adG.add (i * R.n + j)) = some (.int .i64 (R.G.getD (i * R.n + j) 0))))
  have XE := Aside0.mk (fun W (hW : Below W0.heap.size W0 W) => (by
    obtain ⟨ad, e, hx⟩ := Kd.at_int (Kd.C_below ok.hE hW) (j : Int) (by omega) (by rw [ok.lE]; omega)
    rw [rd_eq, Int.toNat_natCast] at hx
    rw [eE] at e
    cases e
    exact hx : W.cell? (adE.add j) = some (.int .i64 (R.E.getD j 0))))
  have XT := Aside0.mk (fun W (hW : Below W0.heap.size W0 W) => (by
    obtain ⟨ad, e, hx⟩ := Kd.at_int (Kd.C_below ok.hT hW) ((i * R.n + j : Nat) : Int) (by omega) (by have := ix_lt hi hj; rw [ok.lT]; omega)
    rw [rd_eq, Int.toNat_natCast] at hx
    rw [eT] at e
    cases e
    exact hx : W.cell? (adT.add (i * R.n + j)) = some (.int .i64 (R.T.getD (i * R.n + j) 0))))
  have HBG := Aside0.mk (fun (W : World) (hW : w.grownBy W (some g)) => grown_below HB.out hW HB.out.size hg0)
  generalize R.G.getD (i * R.n + j) 0 = a at *
  generalize R.E.getD j 0 = b at *
  generalize R.T.getD (i * R.n + j) 0 = c at *
  generalize (wts R.G R.A R.n i j).1 = d2 at *
  generalize (wts R.G R.A R.n i j).2 = d at *
  have hzb : (of a == 0) = true := by rw [hz]; rfl
  clear hz
  have HOf := Aside0.mk (fun W => field_Of.calls a (of a) W (Of_eq a))
  generalize i * R.n + j = ix at *
  generalize i * R.n = im at *
  have EG := Aside0.mk eG
  have EE' := Aside0.mk eE
  have ET := Aside0.mk eT
  clear hb h ok hxA hxE hxT hxG x1 x2 hi hj eA eG eE eT k2 k6
  generalize of a = oa at *
  go_enter Try.func36, Try.ntmps36
  go_wp2
  obtain ⟨-, -, d2', -, -, d5, d6, -, -, -, -, -⟩ := (show Tr w.drew g R ⟨i, v, wt, p, ov⟩ from HT.out).cells
  rw [EG.out] at d2'
  have fG := XG.out _ (below_drew1 HB.out)
  refine start_ (n := 19) (S := fun w' => w'.cell? ⟨g, 2, none⟩ = some (.slice (some adG) R.G.length R.cG) ∧ w'.cell? ⟨g, 5, none⟩ = some (.int .i64 (R.n : Int)) ∧ w'.cell? ⟨g, 6, none⟩ = some (.int .i64 (i : Int)) ∧ w'.cell? (adG.add ix) = some (.int .i64 a)) (ds := []) (bs 19 0) (by kernel_rfl) rfl (by kernel_rfl) ⟨d2', d5, d6, fG⟩ (fun hHeld => ?_)
  refine with_tabW moveR.tab5 moveR.bits5 (fun HT_ HW_ => ?_)
  have H0 := Aside0.mk hHeld
  have HTd : Aside0 (Tr w.drew g R ⟨i, v, wt, p, ov⟩) := ⟨HT.out⟩
  have HGd : Aside0 (w.grownBy w.drew (some g)) := Aside0.mk (grown_drew (grown_of (Below.refl _ _) _))
  generalize w.drew = wd at H0 hHeld HTd HGd ⊢
  refine pure_ (i := 0) (N := some 53) (v := ?_) (a' := ?_) (bs 19 1) rfl rfl (any_of HT_.out (by kernel_rfl)) (fun _ _ _ h => h) (Or.inl ⟨by rfl, ?_⟩) ?_ ?_
  rotate_left
  · intro w'
    go_simp
    with_reducible rfl
  rotate_left
  · simp only [Act.put, List.setIfInBounds_toArray, List.set_cons_zero, List.set_cons_succ, i64_w, i32_w]
    rfl
  refine pure_ (i := 1) (N := some 54) (v := ?_) (a' := ?_) (bs 19 3) rfl rfl (any_of HT_.out (by kernel_rfl)) (fun _ _ _ h => h) (Or.inl ⟨by rfl, ?_⟩) ?_ ?_
  rotate_left
  · intro w'
    go_simp
    with_reducible rfl
  rotate_left
  · simp only [Act.put, List.setIfInBounds_toArray, List.set_cons_zero, List.set_cons_succ, i64_w, i32_w]
    rfl
  refine pure_ (i := 2) (N := some 55) (v := ?_) (a' := ?_) (bs 19 7) rfl rfl (any_of HT_.out (by kernel_rfl)) (fun _ _ _ h => h) (Or.inl ⟨by rfl, ?_⟩) ?_ ?_
  rotate_left
  · intro w'
    go_simp
    with_reducible rfl
  rotate_left
  · simp only [Act.put, List.setIfInBounds_toArray, List.set_cons_zero, List.set_cons_succ, i64_w, i32_w]
    rfl
  refine pure_ (i := 3) (N := some 56) (v := ?_) (a' := ?_) (bs 19 15) rfl rfl (any_of HT_.out (by kernel_rfl)) (fun _ _ _ h => h) (Or.inl ⟨by rfl, ?_⟩) ?_ ?_
  rotate_left
  · intro w'
    go_simp
    with_reducible rfl
  rotate_left
  · simp only [Act.put, List.setIfInBounds_toArray, List.set_cons_zero, List.set_cons_succ, i64_w, i32_w]
    rfl
  refine pure_ (i := 5) (N := some 58) (v := ?_) (a' := ?_) (bs 19 47) rfl rfl (any_of HT_.out (by kernel_rfl)) (fun _ _ _ h => h) (Or.inl ⟨by rfl, ?_⟩) ?_ ?_
  rotate_left
  · intro w'
    go_simp
    with_reducible rfl
  rotate_left
  · simp only [Act.put, List.setIfInBounds_toArray, List.set_cons_zero, List.set_cons_succ, i64_w, i32_w]
    rfl
  refine pure_ (i := 6) (N := some 59) (v := ?_) (a' := ?_) (bs 19 111) rfl rfl (any_of HT_.out (by kernel_rfl)) (fun _ _ _ h => h) (Or.inl ⟨by rfl, ?_⟩) ?_ ?_
  rotate_left
  · intro w'
    go_simp
    with_reducible rfl
  rotate_left
  · simp only [Act.put, List.setIfInBounds_toArray, List.set_cons_zero, List.set_cons_succ, i64_w, i32_w]
    rfl
  refine pure_ (i := 7) (N := some 60) (v := ?_) (a' := ?_) (bs 19 239) rfl rfl (any_of HT_.out (by kernel_rfl)) (fun _ _ _ h => h) (Or.inl ⟨by rfl, ?_⟩) ?_ ?_
  rotate_left
  · intro w'
    go_simp
    with_reducible rfl
  rotate_left
  · simp only [Act.put, List.setIfInBounds_toArray, List.set_cons_zero, List.set_cons_succ, i64_w, i32_w]
    rfl
  refine pure_ (i := 9) (N := some 62) (v := ?_) (a' := ?_) (bs 19 751) rfl rfl (any_of HT_.out (by kernel_rfl)) (fun _ _ _ h => h) (Or.inl ⟨by rfl, ?_⟩) ?_ ?_
  rotate_left
  · intro w'
    go_simp
    with_reducible rfl
  rotate_left
  · simp only [Act.put, List.setIfInBounds_toArray, List.set_cons_zero, List.set_cons_succ, i64_w, i32_w]
    rfl
  refine pure_ (i := 10) (N := some 63) (v := ?_) (a' := ?_) (bs 19 1775) rfl rfl (any_of HT_.out (by kernel_rfl)) (fun _ _ _ h => h) (Or.inl ⟨by rfl, ?_⟩) ?_ ?_
  rotate_left
  · intro w'
    go_simp
    with_reducible rfl
  rotate_left
  · simp only [Act.put, List.setIfInBounds_toArray, List.set_cons_zero, List.set_cons_succ, i64_w, i32_w]
    rfl
  refine pure_ (i := 11) (N := some 64) (v := ?_) (a' := ?_) (bs 19 3823) rfl rfl (any_of HT_.out (by kernel_rfl)) (fun _ _ _ h => h) (Or.inl ⟨by rfl, ?_⟩) ?_ ?_
  rotate_left
  · intro w'
    go_simp
    with_reducible rfl
  rotate_left
  · simp only [Act.put, List.setIfInBounds_toArray, List.set_cons_zero, List.set_cons_succ, i64_w, i32_w]
    rfl
  refine pure_ (i := 14) (N := some 67) (v := ?_) (a' := ?_) (bs 19 20207) rfl rfl (any_of HT_.out (by kernel_rfl)) (fun _ _ _ h => h) (Or.inl ⟨by rfl, ?_⟩) ?_ ?_
  rotate_left
  · intro w'
    go_simp
    with_reducible rfl
  rotate_left
  · simp only [Act.put, List.setIfInBounds_toArray, List.set_cons_zero, List.set_cons_succ, i64_w, i32_w]
    rfl
  refine take_ (i := 4) (N := some 57) (v := ?_) (a' := ?_) (bs 19 20223) rfl rfl (take_ofW HT_.out HW_.out (by kernel_rfl)) (fun _ _ _ h => h) (Or.inl ⟨by rfl, ?_⟩) hHeld ?_ ?_
  rotate_left
  · rintro w' ⟨s0, s1, s2, s3⟩
    go_simp
    with_reducible rfl
  rotate_left
  · simp only [Act.put, List.setIfInBounds_toArray, List.set_cons_zero, List.set_cons_succ, i64_w, i32_w]
    rfl
  refine take_ (i := 8) (N := some 61) (v := ?_) (a' := ?_) (bs 19 20479) rfl rfl (take_ofW HT_.out HW_.out (by kernel_rfl)) (fun _ _ _ h => h) (Or.inl ⟨by rfl, ?_⟩) hHeld ?_ ?_
  rotate_left
  · rintro w' ⟨s0, s1, s2, s3⟩
    go_simp
    with_reducible rfl
  rotate_left
  · simp only [Act.put, List.setIfInBounds_toArray, List.set_cons_zero, List.set_cons_succ, i64_w, i32_w]
    rfl
  refine take_ (i := 12) (N := some 65) (v := ?_) (a' := ?_) (bs 19 24575) rfl rfl (take_ofW HT_.out HW_.out (by kernel_rfl)) (fun _ _ _ h => h) (Or.inl ⟨by rfl, ?_⟩) hHeld ?_ ?_
  rotate_left
  · rintro w' ⟨s0, s1, s2, s3⟩
    go_simp
    with_reducible rfl
  rotate_left
  · simp only [Act.put, List.setIfInBounds_toArray, List.set_cons_zero, List.set_cons_succ, i64_w, i32_w]
    rfl
  refine pure_ (i := 13) (N := some 66) (v := ?_) (a' := ?_) (bs 19 32767) rfl rfl (any_of HT_.out (by kernel_rfl)) (fun _ _ _ h => h) (Or.inl ⟨by rfl, ?_⟩) ?_ ?_
  rotate_left
  · intro w'
    go_simp
    with_reducible rfl
  rotate_left
  · simp only [Act.put, List.setIfInBounds_toArray, List.set_cons_zero, List.set_cons_succ, i64_w, i32_w]
    rfl
  refine pure_ (i := 15) (N := some 68) (v := ?_) (a' := ?_) (bs 19 65535) rfl rfl (any_of HT_.out (by kernel_rfl)) (fun _ _ _ h => h) (Or.inl ⟨by rfl, ?_⟩) ?_ ?_
  rotate_left
  · intro w'
    go_simp
    with_reducible rfl
  rotate_left
  · simp only [Act.put, List.setIfInBounds_toArray, List.set_cons_zero, List.set_cons_succ, i64_w, i32_w]
    rfl
  refine pure_ (i := 16) (N := some 69) (v := ?_) (a' := ?_) (bs 19 131071) rfl rfl (any_of HT_.out (by kernel_rfl)) (fun _ _ _ h => h) (Or.inl ⟨by rfl, ?_⟩) ?_ ?_
  rotate_left
  · intro w'
    go_simp
    with_reducible rfl
  rotate_left
  · simp only [Act.put, List.setIfInBounds_toArray, List.set_cons_zero, List.set_cons_succ, i64_w, i32_w]
    rfl
  refine take_ (i := 17) (N := some 70) (v := ?_) (a' := ?_) (bs 19 262143) rfl rfl (take_ofW HT_.out HW_.out (by kernel_rfl)) (fun _ _ _ h => h) (Or.inl ⟨by rfl, ?_⟩) hHeld ?_ ?_
  rotate_left
  · rintro w' ⟨s0, s1, s2, s3⟩
    go_simp
    with_reducible rfl
  rotate_left
  · simp only [Act.put, List.setIfInBounds_toArray, List.set_cons_zero, List.set_cons_succ, i64_w, i32_w]
    rfl
  refine pure_ (i := 18) (N := some 6) (v := ?_) (a' := ?_) (bs 19 524287) rfl rfl (any_of HT_.out (by kernel_rfl)) (fun _ _ _ h => h) (Or.inl ⟨by rfl, ?_⟩) ?_ ?_
  rotate_left
  · intro w'
    go_simp
    with_reducible rfl
  rotate_left
  · simp only [Act.put, List.setIfInBounds_toArray, List.set_cons_zero, List.set_cons_succ, i64_w, i32_w]
    rfl
  refine done_ (done_of HT_.out (by kernel_rfl)) ?_
  go_wp2_with (first
    | (go_at_call 44; refine (happens_any R g ⟨i, v, wt, p, ov⟩ a _ HTd.out).mono ?_; rintro x w1 ⟨rfl, hT, hg⟩; have HT1 : Aside0 (Tr w1 g R ⟨i, v, wt, of (p * a), ov⟩) := ⟨hT⟩; have HG1 := Aside0.mk (grown_trans HGd.out hg); obtain ⟨-, -, -, -, -, -, -, -, -, -, q10, qf⟩ := HT1.out.cells; clear hT hg)
    | (go_at_call 20; with_reducible refine (HOf.out _).mono ?_; rintro x w2 ⟨rfl, m9, rfl⟩))
  refine bodyPost_ret (results_none rfl _ _ _) rfl ?_
  exact ⟨rfl, (HT1.out.drewN m9).putO true, grown_trans HG1.out (grown_trans (grown_of (pw_below_drewN (Below.refl _ _) m9) _) (grown_cell _ _ _ _))⟩
set_option maxHeartbeats 16000000 in
set_option maxRecDepth 100000 in
theorem move_one (R : Rw) (W0 : World) (ok : RwOk R W0) (g : Nat) (i j : Nat) (v wt p : Int) (ov on : Bool) (hi : i < R.n) (hj : j < R.n) (hz : of (R.G.getD (i * R.n + j) 0) ≠ 0) (w : World) (hb : Below W0.heap.size W0 w) (hg0 : W0.heap.size ≤ g) (h : Tr w g R ⟨i, v, wt, p, ov⟩) :
    Calls Try.prog 36 #[.pointer (some ⟨g, 0, none⟩), .int .i64 (j : Int), .bool on] w fun e w' => e = .returned (.tuple #[]) ∧ Tr w' g R ⟨j, of (v + of (ovr (of (wt * R.T.getD (i * R.n + j) 0)) (R.G.getD (i * R.n + j) 0) * R.E.getD j 0 * (wts R.G R.A R.n i j).2)), ovr (of (wt * R.T.getD (i * R.n + j) 0)) (R.G.getD (i * R.n + j) 0), of (p * R.G.getD (i * R.n + j) 0), false⟩ ∧ w.grownBy w' (some g) := by
  obtain ⟨adA, eA, hxA⟩ := Kd.at_int (Kd.C_below ok.hA hb) (j : Int) (by omega) (by rw [ok.lA]; omega)
  obtain ⟨adE, eE, hxE⟩ := Kd.at_int (Kd.C_below ok.hE hb) (j : Int) (by omega) (by rw [ok.lE]; omega)
  obtain ⟨adT, eT, hxT⟩ := Kd.at_int (Kd.C_below ok.hT hb) ((i * R.n + j : Nat) : Int) (by omega) (by have := ix_lt hi hj; rw [ok.lT]; omega)
  obtain ⟨adG, eG, hxG⟩ := Kd.at_int (Kd.C_below ok.hG hb) ((i * R.n + j : Nat) : Int) (by omega) (by have := ix_lt hi hj; rw [ok.lG]; omega)
  rw [rd_eq, Int.toNat_natCast] at hxA hxE hxT hxG
  obtain ⟨x1, x2⟩ := ix_wrap ok.n12 hi hj
  have y1 : IntKind.i64.wrap ((i : Int) * (R.n : Int)) = ((i * R.n : Nat) : Int) := (i64_w _).trans x1
  have y2 : IntKind.i64.wrap (((i * R.n : Nat) : Int) + (j : Int)) = ((i * R.n + j : Nat) : Int) := (i64_w _).trans x2
  have z0 : (0 : Int) ≤ (j : Int) := by omega
  have z1 : (j : Int) < (R.A.length : Int) := by rw [ok.lA]; omega
  have z2 : (j : Int) < (R.E.length : Int) := by rw [ok.lE]; omega
  have z3 : (0 : Int) ≤ ((i * R.n + j : Nat) : Int) := by omega
  have z4 : ((i * R.n + j : Nat) : Int) < (R.T.length : Int) := by have := ix_lt hi hj; rw [ok.lT]; omega
  have z5 : ((i * R.n + j : Nat) : Int) < (R.G.length : Int) := by have := ix_lt hi hj; rw [ok.lG]; omega
  have z6 : ((j : Int) == (R.n : Int)) = false := by rw [beq_eq_false_iff_ne]; omega
  obtain ⟨-, -, k2, -, -, k5, k6, -, -, -, -, -⟩ := h.cells
  rw [eG] at k2
  have HT := Aside0.mk h
  have HW := Aside0.mk (fun W hW => by have h := weights_any R W0 ok i j hi hj W hW; exact h)
  have HB := Aside0.mk hb
  have XG := Aside0.mk (fun W (hW : Below W0.heap.size W0 W) => (by
    obtain ⟨ad, e, hx⟩ := Kd.at_int (Kd.C_below ok.hG hW) ((i * R.n + j : Nat) : Int) (by omega) (by have := ix_lt hi hj; rw [ok.lG]; omega)
    rw [rd_eq, Int.toNat_natCast] at hx
    rw [eG] at e
    cases e
    exact hx : W.cell? (adG.add (i * R.n + j)) = some (.int .i64 (R.G.getD (i * R.n + j) 0))))
  have XE := Aside0.mk (fun W (hW : Below W0.heap.size W0 W) => (by
    obtain ⟨ad, e, hx⟩ := Kd.at_int (Kd.C_below ok.hE hW) (j : Int) (by omega) (by rw [ok.lE]; omega)
    rw [rd_eq, Int.toNat_natCast] at hx
    rw [eE] at e
    cases e
    exact hx : W.cell? (adE.add j) = some (.int .i64 (R.E.getD j 0))))
  have XT := Aside0.mk (fun W (hW : Below W0.heap.size W0 W) => (by
    obtain ⟨ad, e, hx⟩ := Kd.at_int (Kd.C_below ok.hT hW) ((i * R.n + j : Nat) : Int) (by omega) (by have := ix_lt hi hj; rw [ok.lT]; omega)
    rw [rd_eq, Int.toNat_natCast] at hx
    rw [eT] at e
    cases e
    exact hx : W.cell? (adT.add (i * R.n + j)) = some (.int .i64 (R.T.getD (i * R.n + j) 0))))
  have HBG := Aside0.mk (fun (W : World) (hW : w.grownBy W (some g)) => grown_below HB.out hW HB.out.size hg0)
  generalize R.G.getD (i * R.n + j) 0 = a at *
  generalize R.E.getD j 0 = b at *
  generalize R.T.getD (i * R.n + j) 0 = c at *
  generalize (wts R.G R.A R.n i j).1 = d2 at *
  generalize (wts R.G R.A R.n i j).2 = d at *
  have hzb : (of a == 0) = false := beq_eq_false_iff_ne.mpr hz
  clear hz
  have HM := Aside0.mk (fun W t => mul2_lit wt c t W)
  generalize of (wt * c) = m at *
  have HO := Aside0.mk (fun W => over_any m a W)
  generalize ovr m a = q at *
  have HM3 := Aside0.mk (fun W t => mul3_lit q b d t W)
  generalize of (q * b * d) = m2 at *
  have HA := Aside0.mk (fun W t => add2_lit v m2 t W)
  generalize of (v + m2) = nv at *
  have HOf := Aside0.mk (fun W => field_Of.calls a (of a) W (Of_eq a))
  generalize i * R.n + j = ix at *
  generalize i * R.n = im at *
  have EG := Aside0.mk eG
  have EE' := Aside0.mk eE
  have ET := Aside0.mk eT
  clear hb h ok hxA hxE hxT hxG x1 x2 hi hj eA eG eE eT k2 k6
  generalize of a = oa at *
  go_enter Try.func36, Try.ntmps36
  go_wp2
  obtain ⟨-, -, d2', -, -, d5, d6, -, -, -, -, -⟩ := (show Tr w.drew g R ⟨i, v, wt, p, ov⟩ from HT.out).cells
  rw [EG.out] at d2'
  have fG := XG.out _ (below_drew1 HB.out)
  refine start_ (n := 19) (S := fun w' => w'.cell? ⟨g, 2, none⟩ = some (.slice (some adG) R.G.length R.cG) ∧ w'.cell? ⟨g, 5, none⟩ = some (.int .i64 (R.n : Int)) ∧ w'.cell? ⟨g, 6, none⟩ = some (.int .i64 (i : Int)) ∧ w'.cell? (adG.add ix) = some (.int .i64 a)) (ds := []) (bs 19 0) (by kernel_rfl) rfl (by kernel_rfl) ⟨d2', d5, d6, fG⟩ (fun hHeld => ?_)
  refine with_tabW moveR.tab5 moveR.bits5 (fun HT_ HW_ => ?_)
  have H0 := Aside0.mk hHeld
  have HTd : Aside0 (Tr w.drew g R ⟨i, v, wt, p, ov⟩) := ⟨HT.out⟩
  have HGd : Aside0 (w.grownBy w.drew (some g)) := Aside0.mk (grown_drew (grown_of (Below.refl _ _) _))
  generalize w.drew = wd at H0 hHeld HTd HGd ⊢
  refine pure_ (i := 0) (N := some 53) (v := ?_) (a' := ?_) (bs 19 1) rfl rfl (any_of HT_.out (by kernel_rfl)) (fun _ _ _ h => h) (Or.inl ⟨by rfl, ?_⟩) ?_ ?_
  rotate_left
  · intro w'
    go_simp
    with_reducible rfl
  rotate_left
  · simp only [Act.put, List.setIfInBounds_toArray, List.set_cons_zero, List.set_cons_succ, i64_w, i32_w]
    rfl
  refine pure_ (i := 1) (N := some 54) (v := ?_) (a' := ?_) (bs 19 3) rfl rfl (any_of HT_.out (by kernel_rfl)) (fun _ _ _ h => h) (Or.inl ⟨by rfl, ?_⟩) ?_ ?_
  rotate_left
  · intro w'
    go_simp
    with_reducible rfl
  rotate_left
  · simp only [Act.put, List.setIfInBounds_toArray, List.set_cons_zero, List.set_cons_succ, i64_w, i32_w]
    rfl
  refine pure_ (i := 2) (N := some 55) (v := ?_) (a' := ?_) (bs 19 7) rfl rfl (any_of HT_.out (by kernel_rfl)) (fun _ _ _ h => h) (Or.inl ⟨by rfl, ?_⟩) ?_ ?_
  rotate_left
  · intro w'
    go_simp
    with_reducible rfl
  rotate_left
  · simp only [Act.put, List.setIfInBounds_toArray, List.set_cons_zero, List.set_cons_succ, i64_w, i32_w]
    rfl
  refine pure_ (i := 3) (N := some 56) (v := ?_) (a' := ?_) (bs 19 15) rfl rfl (any_of HT_.out (by kernel_rfl)) (fun _ _ _ h => h) (Or.inl ⟨by rfl, ?_⟩) ?_ ?_
  rotate_left
  · intro w'
    go_simp
    with_reducible rfl
  rotate_left
  · simp only [Act.put, List.setIfInBounds_toArray, List.set_cons_zero, List.set_cons_succ, i64_w, i32_w]
    rfl
  refine pure_ (i := 5) (N := some 58) (v := ?_) (a' := ?_) (bs 19 47) rfl rfl (any_of HT_.out (by kernel_rfl)) (fun _ _ _ h => h) (Or.inl ⟨by rfl, ?_⟩) ?_ ?_
  rotate_left
  · intro w'
    go_simp
    with_reducible rfl
  rotate_left
  · simp only [Act.put, List.setIfInBounds_toArray, List.set_cons_zero, List.set_cons_succ, i64_w, i32_w]
    rfl
  refine pure_ (i := 6) (N := some 59) (v := ?_) (a' := ?_) (bs 19 111) rfl rfl (any_of HT_.out (by kernel_rfl)) (fun _ _ _ h => h) (Or.inl ⟨by rfl, ?_⟩) ?_ ?_
  rotate_left
  · intro w'
    go_simp
    with_reducible rfl
  rotate_left
  · simp only [Act.put, List.setIfInBounds_toArray, List.set_cons_zero, List.set_cons_succ, i64_w, i32_w]
    rfl
  refine pure_ (i := 7) (N := some 60) (v := ?_) (a' := ?_) (bs 19 239) rfl rfl (any_of HT_.out (by kernel_rfl)) (fun _ _ _ h => h) (Or.inl ⟨by rfl, ?_⟩) ?_ ?_
  rotate_left
  · intro w'
    go_simp
    with_reducible rfl
  rotate_left
  · simp only [Act.put, List.setIfInBounds_toArray, List.set_cons_zero, List.set_cons_succ, i64_w, i32_w]
    rfl
  refine pure_ (i := 9) (N := some 62) (v := ?_) (a' := ?_) (bs 19 751) rfl rfl (any_of HT_.out (by kernel_rfl)) (fun _ _ _ h => h) (Or.inl ⟨by rfl, ?_⟩) ?_ ?_
  rotate_left
  · intro w'
    go_simp
    with_reducible rfl
  rotate_left
  · simp only [Act.put, List.setIfInBounds_toArray, List.set_cons_zero, List.set_cons_succ, i64_w, i32_w]
    rfl
  refine pure_ (i := 10) (N := some 63) (v := ?_) (a' := ?_) (bs 19 1775) rfl rfl (any_of HT_.out (by kernel_rfl)) (fun _ _ _ h => h) (Or.inl ⟨by rfl, ?_⟩) ?_ ?_
  rotate_left
  · intro w'
    go_simp
    with_reducible rfl
  rotate_left
  · simp only [Act.put, List.setIfInBounds_toArray, List.set_cons_zero, List.set_cons_succ, i64_w, i32_w]
    rfl
  refine pure_ (i := 11) (N := some 64) (v := ?_) (a' := ?_) (bs 19 3823) rfl rfl (any_of HT_.out (by kernel_rfl)) (fun _ _ _ h => h) (Or.inl ⟨by rfl, ?_⟩) ?_ ?_
  rotate_left
  · intro w'
    go_simp
    with_reducible rfl
  rotate_left
  · simp only [Act.put, List.setIfInBounds_toArray, List.set_cons_zero, List.set_cons_succ, i64_w, i32_w]
    rfl
  refine pure_ (i := 14) (N := some 67) (v := ?_) (a' := ?_) (bs 19 20207) rfl rfl (any_of HT_.out (by kernel_rfl)) (fun _ _ _ h => h) (Or.inl ⟨by rfl, ?_⟩) ?_ ?_
  rotate_left
  · intro w'
    go_simp
    with_reducible rfl
  rotate_left
  · simp only [Act.put, List.setIfInBounds_toArray, List.set_cons_zero, List.set_cons_succ, i64_w, i32_w]
    rfl
  refine take_ (i := 4) (N := some 57) (v := ?_) (a' := ?_) (bs 19 20223) rfl rfl (take_ofW HT_.out HW_.out (by kernel_rfl)) (fun _ _ _ h => h) (Or.inl ⟨by rfl, ?_⟩) hHeld ?_ ?_
  rotate_left
  · rintro w' ⟨s0, s1, s2, s3⟩
    go_simp
    with_reducible rfl
  rotate_left
  · simp only [Act.put, List.setIfInBounds_toArray, List.set_cons_zero, List.set_cons_succ, i64_w, i32_w]
    rfl
  refine take_ (i := 8) (N := some 61) (v := ?_) (a' := ?_) (bs 19 20479) rfl rfl (take_ofW HT_.out HW_.out (by kernel_rfl)) (fun _ _ _ h => h) (Or.inl ⟨by rfl, ?_⟩) hHeld ?_ ?_
  rotate_left
  · rintro w' ⟨s0, s1, s2, s3⟩
    go_simp
    with_reducible rfl
  rotate_left
  · simp only [Act.put, List.setIfInBounds_toArray, List.set_cons_zero, List.set_cons_succ, i64_w, i32_w]
    rfl
  refine take_ (i := 12) (N := some 65) (v := ?_) (a' := ?_) (bs 19 24575) rfl rfl (take_ofW HT_.out HW_.out (by kernel_rfl)) (fun _ _ _ h => h) (Or.inl ⟨by rfl, ?_⟩) hHeld ?_ ?_
  rotate_left
  · rintro w' ⟨s0, s1, s2, s3⟩
    go_simp
    with_reducible rfl
  rotate_left
  · simp only [Act.put, List.setIfInBounds_toArray, List.set_cons_zero, List.set_cons_succ, i64_w, i32_w]
    rfl
  refine pure_ (i := 13) (N := some 66) (v := ?_) (a' := ?_) (bs 19 32767) rfl rfl (any_of HT_.out (by kernel_rfl)) (fun _ _ _ h => h) (Or.inl ⟨by rfl, ?_⟩) ?_ ?_
  rotate_left
  · intro w'
    go_simp
    with_reducible rfl
  rotate_left
  · simp only [Act.put, List.setIfInBounds_toArray, List.set_cons_zero, List.set_cons_succ, i64_w, i32_w]
    rfl
  refine pure_ (i := 15) (N := some 68) (v := ?_) (a' := ?_) (bs 19 65535) rfl rfl (any_of HT_.out (by kernel_rfl)) (fun _ _ _ h => h) (Or.inl ⟨by rfl, ?_⟩) ?_ ?_
  rotate_left
  · intro w'
    go_simp
    with_reducible rfl
  rotate_left
  · simp only [Act.put, List.setIfInBounds_toArray, List.set_cons_zero, List.set_cons_succ, i64_w, i32_w]
    rfl
  refine pure_ (i := 16) (N := some 69) (v := ?_) (a' := ?_) (bs 19 131071) rfl rfl (any_of HT_.out (by kernel_rfl)) (fun _ _ _ h => h) (Or.inl ⟨by rfl, ?_⟩) ?_ ?_
  rotate_left
  · intro w'
    go_simp
    with_reducible rfl
  rotate_left
  · simp only [Act.put, List.setIfInBounds_toArray, List.set_cons_zero, List.set_cons_succ, i64_w, i32_w]
    rfl
  refine take_ (i := 17) (N := some 70) (v := ?_) (a' := ?_) (bs 19 262143) rfl rfl (take_ofW HT_.out HW_.out (by kernel_rfl)) (fun _ _ _ h => h) (Or.inl ⟨by rfl, ?_⟩) hHeld ?_ ?_
  rotate_left
  · rintro w' ⟨s0, s1, s2, s3⟩
    go_simp
    with_reducible rfl
  rotate_left
  · simp only [Act.put, List.setIfInBounds_toArray, List.set_cons_zero, List.set_cons_succ, i64_w, i32_w]
    rfl
  refine pure_ (i := 18) (N := some 6) (v := ?_) (a' := ?_) (bs 19 524287) rfl rfl (any_of HT_.out (by kernel_rfl)) (fun _ _ _ h => h) (Or.inl ⟨by rfl, ?_⟩) ?_ ?_
  rotate_left
  · intro w'
    go_simp
    with_reducible rfl
  rotate_left
  · simp only [Act.put, List.setIfInBounds_toArray, List.set_cons_zero, List.set_cons_succ, i64_w, i32_w]
    rfl
  refine done_ (done_of HT_.out (by kernel_rfl)) ?_
  go_wp2_with (first
    | (go_at_call 44; refine (happens_any R g ⟨i, v, wt, p, ov⟩ a _ HTd.out).mono ?_; rintro x w1 ⟨rfl, hT, hg⟩; have HT1 : Aside0 (Tr w1 g R ⟨i, v, wt, of (p * a), ov⟩) := ⟨hT⟩; have HG1 := Aside0.mk (grown_trans HGd.out hg); obtain ⟨-, -, -, -, -, -, -, -, -, -, q10, qf⟩ := HT1.out.cells; clear hT hg)
    | (go_at_call 20; with_reducible refine (HOf.out _).mono ?_; rintro x w2 ⟨rfl, m9, rfl⟩))
  obtain ⟨W3, hW3⟩ : ∃ W, W = (w1.drewN m9).setCell ⟨g, 10, none⟩ (.bool false) := ⟨_, rfl⟩
  rw [← hW3]
  have HT3 : Aside0 (Tr W3 g R ⟨i, v, wt, of (p * a), false⟩) := ⟨by rw [hW3]; exact (HT1.out.drewN m9).putO false⟩
  have HG3 : Aside0 (w.grownBy W3 (some g)) := ⟨by rw [hW3]; exact grown_trans HG1.out (grown_trans (grown_of (pw_below_drewN (Below.refl _ _) m9) _) (grown_cell _ _ _ _))⟩
  clear hW3 q10 qf k5
  obtain ⟨-, -, d2', d3, d4, d5, d6, -, -, -, -, -⟩ := (show Tr W3.drew g R ⟨i, v, wt, of (p * a), false⟩ from HT3.out).cells
  refine start_ (n := 19) (S := fun w' => w'.cell? ⟨g, 2, none⟩ = some (.slice R.aG R.G.length R.cG) ∧ w'.cell? ⟨g, 3, none⟩ = some (.slice R.aA R.A.length R.cA) ∧ w'.cell? ⟨g, 4, none⟩ = some (.int .i64 R.on) ∧ w'.cell? ⟨g, 5, none⟩ = some (.int .i64 (R.n : Int)) ∧ w'.cell? ⟨g, 6, none⟩ = some (.int .i64 (i : Int))) (ds := []) (bs 19 0) (by kernel_rfl) rfl (by kernel_rfl) ⟨d2', d3, d4, d5, d6⟩ (fun hHeld => ?_)
  refine with_tabW moveR.tab9 moveR.bits9 (fun HT_ HW_ => ?_)
  have H0 := Aside0.mk hHeld
  have HTd3 : Aside0 (Tr W3.drew g R ⟨i, v, wt, of (p * a), false⟩) := ⟨HT3.out⟩
  have HGd3 := Aside0.mk (grown_drew HG3.out)
  generalize W3.drew = wd3 at H0 hHeld HTd3 HGd3 ⊢
  refine pure_ (i := 0) (N := some 85) (v := ?_) (a' := ?_) (bs 19 1) rfl rfl (any_of HT_.out (by kernel_rfl)) (fun _ _ _ h => h) (Or.inl ⟨by rfl, ?_⟩) ?_ ?_
  rotate_left
  · intro w'
    go_simp
    with_reducible rfl
  rotate_left
  · simp only [Act.put, List.setIfInBounds_toArray, List.set_cons_zero, List.set_cons_succ, i64_w, i32_w]
    rfl
  refine pure_ (i := 1) (N := some 86) (v := ?_) (a' := ?_) (bs 19 3) rfl rfl (any_of HT_.out (by kernel_rfl)) (fun _ _ _ h => h) (Or.inl ⟨by rfl, ?_⟩) ?_ ?_
  rotate_left
  · intro w'
    go_simp
    with_reducible rfl
  rotate_left
  · simp only [Act.put, List.setIfInBounds_toArray, List.set_cons_zero, List.set_cons_succ, i64_w, i32_w]
    rfl
  refine pure_ (i := 2) (N := some 87) (v := ?_) (a' := ?_) (bs 19 7) rfl rfl (any_of HT_.out (by kernel_rfl)) (fun _ _ _ h => h) (Or.inl ⟨by rfl, ?_⟩) ?_ ?_
  rotate_left
  · intro w'
    go_simp
    with_reducible rfl
  rotate_left
  · simp only [Act.put, List.setIfInBounds_toArray, List.set_cons_zero, List.set_cons_succ, i64_w, i32_w]
    rfl
  refine pure_ (i := 4) (N := some 89) (v := ?_) (a' := ?_) (bs 19 23) rfl rfl (any_of HT_.out (by kernel_rfl)) (fun _ _ _ h => h) (Or.inl ⟨by rfl, ?_⟩) ?_ ?_
  rotate_left
  · intro w'
    go_simp
    with_reducible rfl
  rotate_left
  · simp only [Act.put, List.setIfInBounds_toArray, List.set_cons_zero, List.set_cons_succ, i64_w, i32_w]
    rfl
  refine pure_ (i := 5) (N := some 90) (v := ?_) (a' := ?_) (bs 19 55) rfl rfl (any_of HT_.out (by kernel_rfl)) (fun _ _ _ h => h) (Or.inl ⟨by rfl, ?_⟩) ?_ ?_
  rotate_left
  · intro w'
    go_simp
    with_reducible rfl
  rotate_left
  · simp only [Act.put, List.setIfInBounds_toArray, List.set_cons_zero, List.set_cons_succ, i64_w, i32_w]
    rfl
  refine pure_ (i := 6) (N := some 91) (v := ?_) (a' := ?_) (bs 19 119) rfl rfl (any_of HT_.out (by kernel_rfl)) (fun _ _ _ h => h) (Or.inl ⟨by rfl, ?_⟩) ?_ ?_
  rotate_left
  · intro w'
    go_simp
    with_reducible rfl
  rotate_left
  · simp only [Act.put, List.setIfInBounds_toArray, List.set_cons_zero, List.set_cons_succ, i64_w, i32_w]
    rfl
  refine pure_ (i := 8) (N := some 93) (v := ?_) (a' := ?_) (bs 19 375) rfl rfl (any_of HT_.out (by kernel_rfl)) (fun _ _ _ h => h) (Or.inl ⟨by rfl, ?_⟩) ?_ ?_
  rotate_left
  · intro w'
    go_simp
    with_reducible rfl
  rotate_left
  · simp only [Act.put, List.setIfInBounds_toArray, List.set_cons_zero, List.set_cons_succ, i64_w, i32_w]
    rfl
  refine pure_ (i := 9) (N := some 94) (v := ?_) (a' := ?_) (bs 19 887) rfl rfl (any_of HT_.out (by kernel_rfl)) (fun _ _ _ h => h) (Or.inl ⟨by rfl, ?_⟩) ?_ ?_
  rotate_left
  · intro w'
    go_simp
    with_reducible rfl
  rotate_left
  · simp only [Act.put, List.setIfInBounds_toArray, List.set_cons_zero, List.set_cons_succ, i64_w, i32_w]
    rfl
  refine pure_ (i := 10) (N := some 95) (v := ?_) (a' := ?_) (bs 19 1911) rfl rfl (any_of HT_.out (by kernel_rfl)) (fun _ _ _ h => h) (Or.inl ⟨by rfl, ?_⟩) ?_ ?_
  rotate_left
  · intro w'
    go_simp
    with_reducible rfl
  rotate_left
  · simp only [Act.put, List.setIfInBounds_toArray, List.set_cons_zero, List.set_cons_succ, i64_w, i32_w]
    rfl
  refine pure_ (i := 12) (N := some 97) (v := ?_) (a' := ?_) (bs 19 6007) rfl rfl (any_of HT_.out (by kernel_rfl)) (fun _ _ _ h => h) (Or.inl ⟨by rfl, ?_⟩) ?_ ?_
  rotate_left
  · intro w'
    go_simp
    with_reducible rfl
  rotate_left
  · simp only [Act.put, List.setIfInBounds_toArray, List.set_cons_zero, List.set_cons_succ, i64_w, i32_w]
    rfl
  refine take_ (i := 3) (N := some 88) (v := ?_) (a' := ?_) (bs 19 6015) rfl rfl (take_ofW HT_.out HW_.out (by kernel_rfl)) (fun _ _ _ h => h) (Or.inl ⟨by rfl, ?_⟩) hHeld ?_ ?_
  rotate_left
  · rintro w' ⟨s0, s1, s2, s3, s4⟩
    go_simp
    with_reducible rfl
  rotate_left
  · simp only [Act.put, List.setIfInBounds_toArray, List.set_cons_zero, List.set_cons_succ, i64_w, i32_w]
    rfl
  refine take_ (i := 7) (N := some 92) (v := ?_) (a' := ?_) (bs 19 6143) rfl rfl (take_ofW HT_.out HW_.out (by kernel_rfl)) (fun _ _ _ h => h) (Or.inl ⟨by rfl, ?_⟩) hHeld ?_ ?_
  rotate_left
  · rintro w' ⟨s0, s1, s2, s3, s4⟩
    go_simp
    with_reducible rfl
  rotate_left
  · simp only [Act.put, List.setIfInBounds_toArray, List.set_cons_zero, List.set_cons_succ, i64_w, i32_w]
    rfl
  refine take_ (i := 11) (N := some 96) (v := ?_) (a' := ?_) (bs 19 8191) rfl rfl (take_ofW HT_.out HW_.out (by kernel_rfl)) (fun _ _ _ h => h) (Or.inl ⟨by rfl, ?_⟩) hHeld ?_ ?_
  rotate_left
  · rintro w' ⟨s0, s1, s2, s3, s4⟩
    go_simp
    with_reducible rfl
  rotate_left
  · simp only [Act.put, List.setIfInBounds_toArray, List.set_cons_zero, List.set_cons_succ, i64_w, i32_w]
    rfl
  refine one_ (i := 13) (N := some 98) (bs 19 16383) rfl rfl (one_of HT_.out (by kernel_rfl)) (by decide) (fun K hK => ?_)
  refine goes_ Try.func28 (by kernel_rfl) rfl #[.agg #[.slice R.aG R.G.length R.cG, .slice R.aA R.A.length R.cA, .int .i64 R.on], .int .i64 (R.n : Int), .int .i64 (i : Int), .int .i64 (j : Int)] (by rfl) rfl rfl (by (try simp only [List.map_toArray, List.map_cons, List.map_nil]); first | done | rfl) ?_
  with_reducible refine (HW.out wd3 (HBG.out wd3 HGd3.out)).mono ?_
  rintro e w4 ⟨rfl, hb4⟩
  refine ⟨_, rfl, ?_⟩
  have HT4 := Aside0.mk (Tr.below HTd3.out hb4)
  have HG4 := Aside0.mk (grown_trans HGd3.out (grown_of hb4 _))
  refine hK.out _ _ ⟨(cell_later' hb4 H0.out.1), (cell_later' hb4 H0.out.2.1), (cell_later' hb4 H0.out.2.2.1), (cell_later' hb4 H0.out.2.2.2.1), (cell_later' hb4 H0.out.2.2.2.2)⟩ (fun hHeld => ?_)
  clear hK K
  refine norm_ (a' := ?_) ?_ ?_
  rotate_left
  · show Act.put _ (some 98) _ = _
    simp only [Act.put, List.setIfInBounds_toArray, List.set_cons_zero, List.set_cons_succ, i64_w, i32_w]
    rfl
  refine pure_ (i := 14) (N := some 84) (v := ?_) (a' := ?_) (bs 19 32767) rfl rfl (any_of HT_.out (by kernel_rfl)) (fun _ _ _ h => h) (Or.inl ⟨by rfl, ?_⟩) ?_ ?_
  rotate_left
  · intro w'
    go_simp
    with_reducible rfl
  rotate_left
  · simp only [Act.put, List.setIfInBounds_toArray, List.set_cons_zero, List.set_cons_succ, i64_w, i32_w]
    rfl
  refine pure_ (i := 15) (N := some 99) (v := ?_) (a' := ?_) (bs 19 65535) rfl rfl (any_of HT_.out (by kernel_rfl)) (fun _ _ _ h => h) (Or.inl ⟨by rfl, ?_⟩) ?_ ?_
  rotate_left
  · intro w'
    go_simp
    with_reducible rfl
  rotate_left
  · simp only [Act.put, List.setIfInBounds_toArray, List.set_cons_zero, List.set_cons_succ, i64_w, i32_w]
    rfl
  refine pure_ (i := 16) (N := some 100) (v := ?_) (a' := ?_) (bs 19 131071) rfl rfl (any_of HT_.out (by kernel_rfl)) (fun _ _ _ h => h) (Or.inl ⟨by rfl, ?_⟩) ?_ ?_
  rotate_left
  · intro w'
    go_simp
    with_reducible rfl
  rotate_left
  · simp only [Act.put, List.setIfInBounds_toArray, List.set_cons_zero, List.set_cons_succ, i64_w, i32_w]
    rfl
  refine pure_ (i := 17) (N := some 7) (v := ?_) (a' := ?_) (bs 19 262143) rfl rfl (any_of HT_.out (by kernel_rfl)) (fun _ _ _ h => h) (Or.inl ⟨by rfl, ?_⟩) ?_ ?_
  rotate_left
  · intro w'
    go_simp
    with_reducible rfl
  rotate_left
  · simp only [Act.put, List.setIfInBounds_toArray, List.set_cons_zero, List.set_cons_succ, i64_w, i32_w]
    rfl
  refine pure_ (i := 18) (N := some 8) (v := ?_) (a' := ?_) (bs 19 524287) rfl rfl (any_of HT_.out (by kernel_rfl)) (fun _ _ _ h => h) (Or.inl ⟨by rfl, ?_⟩) ?_ ?_
  rotate_left
  · intro w'
    go_simp
    with_reducible rfl
  rotate_left
  · simp only [Act.put, List.setIfInBounds_toArray, List.set_cons_zero, List.set_cons_succ, i64_w, i32_w]
    rfl
  refine done_ (done_of HT_.out (by kernel_rfl)) ?_
  clear hHeld H0
  go_wp2
  obtain ⟨-, f1, -, -, -, f5, f6, -, f8, -, -, -⟩ := (show Tr w4.drew g R ⟨i, v, wt, of (p * a), false⟩ from HT4.out).cells
  rw [ET.out] at f1
  have fT := XT.out _ (below_drew1 (HBG.out w4 HG4.out))
  refine start_ (n := 30) (S := fun w' => w'.cell? ⟨g, 1, none⟩ = some (.slice (some adT) R.T.length R.cT) ∧ w'.cell? ⟨g, 5, none⟩ = some (.int .i64 (R.n : Int)) ∧ w'.cell? ⟨g, 6, none⟩ = some (.int .i64 (i : Int)) ∧ w'.cell? ⟨g, 8, none⟩ = some (.int .i64 wt) ∧ w'.cell? (adT.add ix) = some (.int .i64 c)) (ds := [29]) (bs 30 0) (by kernel_rfl) rfl (by kernel_rfl) ⟨f1, f5, f6, f8, fT⟩ (fun hHeld => ?_)
  refine with_tabW moveR.tab10 moveR.bits10 (fun HT_ HW_ => ?_)
  have H0 := Aside0.mk hHeld
  have HTd4 : Aside0 (Tr w4.drew g R ⟨i, v, wt, of (p * a), false⟩) := ⟨HT4.out⟩
  have HGd4 := Aside0.mk (grown_drew HG4.out)
  generalize w4.drew = wd4 at H0 hHeld HTd4 HGd4 ⊢
  refine pure_ (i := 0) (N := some 101) (v := ?_) (a' := ?_) (bs 30 1) rfl rfl (any_of HT_.out (by kernel_rfl)) (fun _ _ _ h => h) (Or.inl ⟨by rfl, ?_⟩) ?_ ?_
  rotate_left
  · intro w'
    go_simp
    with_reducible rfl
  rotate_left
  · simp only [Act.put, List.setIfInBounds_toArray, List.set_cons_zero, List.set_cons_succ, i64_w, i32_w]
    rfl
  refine pure_ (i := 1) (N := some 102) (v := ?_) (a' := ?_) (bs 30 3) rfl rfl (any_of HT_.out (by kernel_rfl)) (fun _ _ _ h => h) (Or.inl ⟨by rfl, ?_⟩) ?_ ?_
  rotate_left
  · intro w'
    go_simp
    with_reducible rfl
  rotate_left
  · simp only [Act.put, List.setIfInBounds_toArray, List.set_cons_zero, List.set_cons_succ, i64_w, i32_w]
    rfl
  refine pure_ (i := 2) (N := some 103) (v := ?_) (a' := ?_) (bs 30 7) rfl rfl (any_of HT_.out (by kernel_rfl)) (fun _ _ _ h => h) (Or.inl ⟨by rfl, ?_⟩) ?_ ?_
  rotate_left
  · intro w'
    go_simp
    with_reducible rfl
  rotate_left
  · simp only [Act.put, List.setIfInBounds_toArray, List.set_cons_zero, List.set_cons_succ, i64_w, i32_w]
    rfl
  refine pure_ (i := 3) (N := some 104) (v := ?_) (a' := ?_) (bs 30 15) rfl rfl (any_of HT_.out (by kernel_rfl)) (fun _ _ _ h => h) (Or.inl ⟨by rfl, ?_⟩) ?_ ?_
  rotate_left
  · intro w'
    go_simp
    with_reducible rfl
  rotate_left
  · simp only [Act.put, List.setIfInBounds_toArray, List.set_cons_zero, List.set_cons_succ, i64_w, i32_w]
    rfl
  refine pure_ (i := 5) (N := some 106) (v := ?_) (a' := ?_) (bs 30 47) rfl rfl (any_of HT_.out (by kernel_rfl)) (fun _ _ _ h => h) (Or.inl ⟨by rfl, ?_⟩) ?_ ?_
  rotate_left
  · intro w'
    go_simp
    with_reducible rfl
  rotate_left
  · simp only [Act.put, List.setIfInBounds_toArray, List.set_cons_zero, List.set_cons_succ, i64_w, i32_w]
    rfl
  refine pure_ (i := 6) (N := some 107) (v := ?_) (a' := ?_) (bs 30 111) rfl rfl (any_of HT_.out (by kernel_rfl)) (fun _ _ _ h => h) (Or.inl ⟨by rfl, ?_⟩) ?_ ?_
  rotate_left
  · intro w'
    go_simp
    with_reducible rfl
  rotate_left
  · simp only [Act.put, List.setIfInBounds_toArray, List.set_cons_zero, List.set_cons_succ, i64_w, i32_w]
    rfl
  refine pure_ (i := 7) (N := some 108) (v := ?_) (a' := ?_) (bs 30 239) rfl rfl (any_of HT_.out (by kernel_rfl)) (fun _ _ _ h => h) (Or.inl ⟨by rfl, ?_⟩) ?_ ?_
  rotate_left
  · intro w'
    go_simp
    with_reducible rfl
  rotate_left
  · simp only [Act.put, List.setIfInBounds_toArray, List.set_cons_zero, List.set_cons_succ, i64_w, i32_w]
    rfl
  refine pure_ (i := 8) (N := some 109) (v := ?_) (a' := ?_) (bs 30 495) rfl rfl (any_of HT_.out (by kernel_rfl)) (fun _ _ _ h => h) (Or.inl ⟨by rfl, ?_⟩) ?_ ?_
  rotate_left
  · intro w'
    go_simp
    with_reducible rfl
  rotate_left
  · simp only [Act.put, List.setIfInBounds_toArray, List.set_cons_zero, List.set_cons_succ, i64_w, i32_w]
    rfl
  refine pure_ (i := 10) (N := some 111) (v := ?_) (a' := ?_) (bs 30 1519) rfl rfl (any_of HT_.out (by kernel_rfl)) (fun _ _ _ h => h) (Or.inl ⟨by rfl, ?_⟩) ?_ ?_
  rotate_left
  · intro w'
    go_simp
    with_reducible rfl
  rotate_left
  · simp only [Act.put, List.setIfInBounds_toArray, List.set_cons_zero, List.set_cons_succ, i64_w, i32_w]
    rfl
  refine pure_ (i := 11) (N := some 112) (v := ?_) (a' := ?_) (bs 30 3567) rfl rfl (any_of HT_.out (by kernel_rfl)) (fun _ _ _ h => h) (Or.inl ⟨by rfl, ?_⟩) ?_ ?_
  rotate_left
  · intro w'
    go_simp
    with_reducible rfl
  rotate_left
  · simp only [Act.put, List.setIfInBounds_toArray, List.set_cons_zero, List.set_cons_succ, i64_w, i32_w]
    rfl
  refine pure_ (i := 12) (N := some 113) (v := ?_) (a' := ?_) (bs 30 7663) rfl rfl (any_of HT_.out (by kernel_rfl)) (fun _ _ _ h => h) (Or.inl ⟨by rfl, ?_⟩) ?_ ?_
  rotate_left
  · intro w'
    go_simp
    with_reducible rfl
  rotate_left
  · simp only [Act.put, List.setIfInBounds_toArray, List.set_cons_zero, List.set_cons_succ, i64_w, i32_w]
    rfl
  refine pure_ (i := 14) (N := some 115) (v := ?_) (a' := ?_) (bs 30 24047) rfl rfl (any_of HT_.out (by kernel_rfl)) (fun _ _ _ h => h) (Or.inl ⟨by rfl, ?_⟩) ?_ ?_
  rotate_left
  · intro w'
    go_simp
    with_reducible rfl
  rotate_left
  · simp only [Act.put, List.setIfInBounds_toArray, List.set_cons_zero, List.set_cons_succ, i64_w, i32_w]
    rfl
  refine pure_ (i := 15) (N := some 116) (v := ?_) (a' := ?_) (bs 30 56815) rfl rfl (any_of HT_.out (by kernel_rfl)) (fun _ _ _ h => h) (Or.inl ⟨by rfl, ?_⟩) ?_ ?_
  rotate_left
  · intro w'
    go_simp
    with_reducible rfl
  rotate_left
  · simp only [Act.put, List.setIfInBounds_toArray, List.set_cons_zero, List.set_cons_succ, i64_w, i32_w]
    rfl
  refine pure_ (i := 16) (N := some 117) (v := ?_) (a' := ?_) (bs 30 122351) rfl rfl (any_of HT_.out (by kernel_rfl)) (fun _ _ _ h => h) (Or.inl ⟨by rfl, ?_⟩) ?_ ?_
  rotate_left
  · intro w'
    go_simp
    with_reducible rfl
  rotate_left
  · simp only [Act.put, List.setIfInBounds_toArray, List.set_cons_zero, List.set_cons_succ, i64_w, i32_w]
    rfl
  refine pure_ (i := 19) (N := some 120) (v := ?_) (a' := ?_) (bs 30 646639) rfl rfl (any_of HT_.out (by kernel_rfl)) (fun _ _ _ h => h) (Or.inl ⟨by rfl, ?_⟩) ?_ ?_
  rotate_left
  · intro w'
    go_simp
    with_reducible rfl
  rotate_left
  · simp only [Act.put, List.setIfInBounds_toArray, List.set_cons_zero, List.set_cons_succ, i64_w, i32_w]
    rfl
  refine pure_ (i := 25) (N := some 126) (v := ?_) (a' := ?_) (bs 30 34201071) rfl rfl (any_of HT_.out (by kernel_rfl)) (fun _ _ _ h => h) (Or.inl ⟨by rfl, ?_⟩) ?_ ?_
  rotate_left
  · intro w'
    go_simp
    with_reducible rfl
  rotate_left
  · simp only [Act.put, List.setIfInBounds_toArray, List.set_cons_zero, List.set_cons_succ, i64_w, i32_w]
    rfl
  refine take_ (i := 4) (N := some 105) (v := ?_) (a' := ?_) (bs 30 34201087) rfl rfl (take_ofW HT_.out HW_.out (by kernel_rfl)) (fun _ _ _ h => h) (Or.inl ⟨by rfl, ?_⟩) hHeld ?_ ?_
  rotate_left
  · rintro w' ⟨s0, s1, s2, s3, s4⟩
    go_simp
    with_reducible rfl
  rotate_left
  · simp only [Act.put, List.setIfInBounds_toArray, List.set_cons_zero, List.set_cons_succ, i64_w, i32_w]
    rfl
  refine take_ (i := 9) (N := some 110) (v := ?_) (a' := ?_) (bs 30 34201599) rfl rfl (take_ofW HT_.out HW_.out (by kernel_rfl)) (fun _ _ _ h => h) (Or.inl ⟨by rfl, ?_⟩) hHeld ?_ ?_
  rotate_left
  · rintro w' ⟨s0, s1, s2, s3, s4⟩
    go_simp
    with_reducible rfl
  rotate_left
  · simp only [Act.put, List.setIfInBounds_toArray, List.set_cons_zero, List.set_cons_succ, i64_w, i32_w]
    rfl
  refine take_ (i := 13) (N := some 114) (v := ?_) (a' := ?_) (bs 30 34209791) rfl rfl (take_ofW HT_.out HW_.out (by kernel_rfl)) (fun _ _ _ h => h) (Or.inl ⟨by rfl, ?_⟩) hHeld ?_ ?_
  rotate_left
  · rintro w' ⟨s0, s1, s2, s3, s4⟩
    go_simp
    with_reducible rfl
  rotate_left
  · simp only [Act.put, List.setIfInBounds_toArray, List.set_cons_zero, List.set_cons_succ, i64_w, i32_w]
    rfl
  refine take_ (i := 17) (N := some 118) (v := ?_) (a' := ?_) (bs 30 34340863) rfl rfl (take_ofW HT_.out HW_.out (by kernel_rfl)) (fun _ _ _ h => h) (Or.inl ⟨by rfl, ?_⟩) hHeld ?_ ?_
  rotate_left
  · rintro w' ⟨s0, s1, s2, s3, s4⟩
    go_simp
    with_reducible rfl
  rotate_left
  · simp only [Act.put, List.setIfInBounds_toArray, List.set_cons_zero, List.set_cons_succ, i64_w, i32_w]
    rfl
  refine pure_ (i := 18) (N := some 119) (v := ?_) (a' := ?_) (bs 30 34603007) rfl rfl (any_of HT_.out (by kernel_rfl)) (fun _ _ _ h => h) (Or.inl ⟨by rfl, ?_⟩) ?_ ?_
  rotate_left
  · intro w'
    go_simp
    with_reducible rfl
  rotate_left
  · simp only [Act.put, List.setIfInBounds_toArray, List.set_cons_zero, List.set_cons_succ, i64_w, i32_w]
    rfl
  refine pure_ (i := 20) (N := some 121) (v := ?_) (a' := ?_) (bs 30 35651583) rfl rfl (any_of HT_.out (by kernel_rfl)) (fun _ _ _ h => h) (Or.inl ⟨by rfl, ?_⟩) ?_ ?_
  rotate_left
  · intro w'
    go_simp
    with_reducible rfl
  rotate_left
  · simp only [Act.put, List.setIfInBounds_toArray, List.set_cons_zero, List.set_cons_succ, i64_w, i32_w]
    rfl
  refine pure_ (i := 21) (N := some 122) (v := ?_) (a' := ?_) (bs 30 37748735) rfl rfl (any_of HT_.out (by kernel_rfl)) (fun _ _ _ h => h) (Or.inl ⟨by rfl, ?_⟩) ?_ ?_
  rotate_left
  · intro w'
    go_simp
    with_reducible rfl
  rotate_left
  · simp only [Act.put, List.setIfInBounds_toArray, List.set_cons_zero, List.set_cons_succ, i64_w, i32_w]
    rfl
  refine take_ (i := 22) (N := some 123) (v := ?_) (a' := ?_) (bs 30 41943039) rfl rfl (take_ofW HT_.out HW_.out (by kernel_rfl)) (fun _ _ _ h => h) (Or.inl ⟨by rfl, ?_⟩) hHeld ?_ ?_
  rotate_left
  · rintro w' ⟨s0, s1, s2, s3, s4⟩
    go_simp
    with_reducible rfl
  rotate_left
  · simp only [Act.put, List.setIfInBounds_toArray, List.set_cons_zero, List.set_cons_succ, i64_w, i32_w]
    rfl
  refine one_ (i := 23) (N := some 124) (bs 30 50331647) rfl rfl (one_of HT_.out (by kernel_rfl)) (by decide) (fun K hK => ?_)
  refine value_ (w1 := ?_) (v := ?_) (by rfl) rfl ?_ ?_
  rotate_left 2
  · go_simp
    constructor
    · rfl
    · rfl
  refine hK.out _ _ ⟨(cell_later' (Below.alloc (Below.refl _ _) (Nat.le_refl _) _) H0.out.1), (cell_later' (Below.alloc (Below.refl _ _) (Nat.le_refl _) _) H0.out.2.1), (cell_later' (Below.alloc (Below.refl _ _) (Nat.le_refl _) _) H0.out.2.2.1), (cell_later' (Below.alloc (Below.refl _ _) (Nat.le_refl _) _) H0.out.2.2.2.1), (cell_later' (Below.alloc (Below.refl _ _) (Nat.le_refl _) _) H0.out.2.2.2.2)⟩ (fun hHeld => ?_)
  clear hK K
  refine norm_ (a' := ?_) ?_ ?_
  rotate_left
  · show Act.put _ (some 124) _ = _
    simp only [Act.put, List.setIfInBounds_toArray, List.set_cons_zero, List.set_cons_succ, i64_w, i32_w]
    rfl
  refine one_ (i := 24) (N := some 125) (bs 30 67108863) rfl rfl (one_of HT_.out (by kernel_rfl)) (by decide) (fun K hK => ?_)
  refine goes_ Try.func29 (by kernel_rfl) rfl #[.slice (some ⟨wd4.heap.size, 0, none⟩) 2 2] (by rfl) rfl rfl (by (try simp only [List.map_toArray, List.map_cons, List.map_nil]); first | done | rfl) ?_
  with_reducible refine (HM.out wd4 _).mono ?_
  rintro e w5 ⟨rfl, hb5⟩
  refine ⟨_, rfl, ?_⟩
  refine hK.out _ _ ⟨(cell_later' (hb5) H0.out.1), (cell_later' (hb5) H0.out.2.1), (cell_later' (hb5) H0.out.2.2.1), (cell_later' (hb5) H0.out.2.2.2.1), (cell_later' (hb5) H0.out.2.2.2.2)⟩ (fun hHeld => ?_)
  clear hK K
  refine norm_ (a' := ?_) ?_ ?_
  rotate_left
  · show Act.put _ (some 125) _ = _
    simp only [Act.put, List.setIfInBounds_toArray, List.set_cons_zero, List.set_cons_succ, i64_w, i32_w]
    rfl
  refine one_ (i := 26) (N := some 127) (bs 30 134217727) rfl rfl (one_of HT_.out (by kernel_rfl)) (by decide) (fun K hK => ?_)
  refine goes_ Try.func38 (by kernel_rfl) rfl #[.int .i64 m, .int .i64 a] (by rfl) rfl rfl (by (try simp only [List.map_toArray, List.map_cons, List.map_nil]); first | done | rfl) ?_
  with_reducible refine (HO.out w5).mono ?_
  rintro e w6 ⟨rfl, hb6⟩
  refine ⟨_, rfl, ?_⟩
  have hb6' := below_then hb5 hb5.size hb6
  have HT6 := Aside0.mk (Tr.below HTd4.out hb6')
  have HG6 := Aside0.mk (grown_trans HGd4.out (grown_of hb6' _))
  obtain ⟨-, -, -, -, -, -, -, -, q8, -, -, qf⟩ := HT6.out.cells
  refine hK.out _ _ ⟨(cell_later' (hb6') H0.out.1), (cell_later' (hb6') H0.out.2.1), (cell_later' (hb6') H0.out.2.2.1), (cell_later' (hb6') H0.out.2.2.2.1), (cell_later' (hb6') H0.out.2.2.2.2)⟩ (fun hHeld => ?_)
  clear hK K
  refine norm_ (a' := ?_) ?_ ?_
  rotate_left
  · show Act.put _ (some 127) _ = _
    simp only [Act.put, List.setIfInBounds_toArray, List.set_cons_zero, List.set_cons_succ, i64_w, i32_w]
    rfl
  refine pure_ (i := 27) (N := some 128) (v := ?_) (a' := ?_) (bs 30 268435455) rfl rfl (any_of HT_.out (by kernel_rfl)) (fun _ _ _ h => h) (Or.inl ⟨by rfl, ?_⟩) ?_ ?_
  rotate_left
  · intro w'
    go_simp
    with_reducible rfl
  rotate_left
  · simp only [Act.put, List.setIfInBounds_toArray, List.set_cons_zero, List.set_cons_succ, i64_w, i32_w]
    rfl
  refine pure_ (i := 28) (N := some 129) (v := ?_) (a' := ?_) (bs 30 536870911) rfl rfl (any_of HT_.out (by kernel_rfl)) (fun _ _ _ h => h) (Or.inl ⟨by rfl, ?_⟩) ?_ ?_
  rotate_left
  · intro w'
    go_simp
    with_reducible rfl
  rotate_left
  · simp only [Act.put, List.setIfInBounds_toArray, List.set_cons_zero, List.set_cons_succ, i64_w, i32_w]
    rfl
  refine last_ (i := 29) (N := none) (bs 30 1073741823) rfl rfl (one_of HT_.out (by kernel_rfl)) (by decide) (fun K hK => ?_)
  refine skip_ (w1 := ?_) (by rfl) rfl ?_ ?_
  rotate_left
  · go_simp
    rfl
  refine hK.out _ _ ?_
  clear hK K
  refine done_ (done_of HT_.out (by kernel_rfl)) ?_
  clear hHeld H0 f1 f5 f6 f8 fT d2' d3 d4 d5 d6
  go_wp2
  obtain ⟨W7, hW7⟩ : ∃ W, W = w6.setCell ⟨g, 8, none⟩ (.int .i64 q) := ⟨_, rfl⟩
  rw [← hW7]
  have HT7 : Aside0 (Tr W7 g R ⟨i, v, q, of (p * a), false⟩) := ⟨by rw [hW7]; exact HT6.out.putW q⟩
  have HG7 : Aside0 (w.grownBy W7 (some g)) := ⟨by rw [hW7]; exact grown_trans HG6.out (grown_cell _ _ _ _)⟩
  clear hW7 q8 qf
  obtain ⟨f0, -, -, -, -, -, -, f7, f8, -, -, -⟩ := (show Tr W7.drew g R ⟨i, v, q, of (p * a), false⟩ from HT7.out).cells
  rw [EE'.out] at f0
  have fE := XE.out _ (below_drew1 (HBG.out W7 HG7.out))
  refine start_ (n := 25) (S := fun w' => w'.cell? ⟨g, 0, none⟩ = some (.slice (some adE) R.E.length R.cE) ∧ w'.cell? ⟨g, 7, none⟩ = some (.int .i64 v) ∧ w'.cell? ⟨g, 8, none⟩ = some (.int .i64 q) ∧ w'.cell? (adE.add j) = some (.int .i64 b)) (ds := [24]) (bs 25 0) (by kernel_rfl) rfl (by kernel_rfl) ⟨f0, f7, f8, fE⟩ (fun hHeld => ?_)
  refine with_tabW moveR.tab11 moveR.bits11 (fun HT_ HW_ => ?_)
  have H0 := Aside0.mk hHeld
  have HTd7 : Aside0 (Tr W7.drew g R ⟨i, v, q, of (p * a), false⟩) := ⟨HT7.out⟩
  have HGd7 := Aside0.mk (grown_drew HG7.out)
  generalize W7.drew = wd7 at H0 hHeld HTd7 HGd7 ⊢
  refine pure_ (i := 0) (N := some 130) (v := ?_) (a' := ?_) (bs 25 1) rfl rfl (any_of HT_.out (by kernel_rfl)) (fun _ _ _ h => h) (Or.inl ⟨by rfl, ?_⟩) ?_ ?_
  rotate_left
  · intro w'
    go_simp
    with_reducible rfl
  rotate_left
  · simp only [Act.put, List.setIfInBounds_toArray, List.set_cons_zero, List.set_cons_succ, i64_w, i32_w]
    rfl
  refine pure_ (i := 1) (N := some 131) (v := ?_) (a' := ?_) (bs 25 3) rfl rfl (any_of HT_.out (by kernel_rfl)) (fun _ _ _ h => h) (Or.inl ⟨by rfl, ?_⟩) ?_ ?_
  rotate_left
  · intro w'
    go_simp
    with_reducible rfl
  rotate_left
  · simp only [Act.put, List.setIfInBounds_toArray, List.set_cons_zero, List.set_cons_succ, i64_w, i32_w]
    rfl
  refine pure_ (i := 2) (N := some 132) (v := ?_) (a' := ?_) (bs 25 7) rfl rfl (any_of HT_.out (by kernel_rfl)) (fun _ _ _ h => h) (Or.inl ⟨by rfl, ?_⟩) ?_ ?_
  rotate_left
  · intro w'
    go_simp
    with_reducible rfl
  rotate_left
  · simp only [Act.put, List.setIfInBounds_toArray, List.set_cons_zero, List.set_cons_succ, i64_w, i32_w]
    rfl
  refine pure_ (i := 3) (N := some 133) (v := ?_) (a' := ?_) (bs 25 15) rfl rfl (any_of HT_.out (by kernel_rfl)) (fun _ _ _ h => h) (Or.inl ⟨by rfl, ?_⟩) ?_ ?_
  rotate_left
  · intro w'
    go_simp
    with_reducible rfl
  rotate_left
  · simp only [Act.put, List.setIfInBounds_toArray, List.set_cons_zero, List.set_cons_succ, i64_w, i32_w]
    rfl
  refine pure_ (i := 5) (N := some 135) (v := ?_) (a' := ?_) (bs 25 47) rfl rfl (any_of HT_.out (by kernel_rfl)) (fun _ _ _ h => h) (Or.inl ⟨by rfl, ?_⟩) ?_ ?_
  rotate_left
  · intro w'
    go_simp
    with_reducible rfl
  rotate_left
  · simp only [Act.put, List.setIfInBounds_toArray, List.set_cons_zero, List.set_cons_succ, i64_w, i32_w]
    rfl
  refine pure_ (i := 6) (N := some 136) (v := ?_) (a' := ?_) (bs 25 111) rfl rfl (any_of HT_.out (by kernel_rfl)) (fun _ _ _ h => h) (Or.inl ⟨by rfl, ?_⟩) ?_ ?_
  rotate_left
  · intro w'
    go_simp
    with_reducible rfl
  rotate_left
  · simp only [Act.put, List.setIfInBounds_toArray, List.set_cons_zero, List.set_cons_succ, i64_w, i32_w]
    rfl
  refine pure_ (i := 7) (N := some 137) (v := ?_) (a' := ?_) (bs 25 239) rfl rfl (any_of HT_.out (by kernel_rfl)) (fun _ _ _ h => h) (Or.inl ⟨by rfl, ?_⟩) ?_ ?_
  rotate_left
  · intro w'
    go_simp
    with_reducible rfl
  rotate_left
  · simp only [Act.put, List.setIfInBounds_toArray, List.set_cons_zero, List.set_cons_succ, i64_w, i32_w]
    rfl
  refine pure_ (i := 9) (N := some 139) (v := ?_) (a' := ?_) (bs 25 751) rfl rfl (any_of HT_.out (by kernel_rfl)) (fun _ _ _ h => h) (Or.inl ⟨by rfl, ?_⟩) ?_ ?_
  rotate_left
  · intro w'
    go_simp
    with_reducible rfl
  rotate_left
  · simp only [Act.put, List.setIfInBounds_toArray, List.set_cons_zero, List.set_cons_succ, i64_w, i32_w]
    rfl
  refine pure_ (i := 10) (N := some 140) (v := ?_) (a' := ?_) (bs 25 1775) rfl rfl (any_of HT_.out (by kernel_rfl)) (fun _ _ _ h => h) (Or.inl ⟨by rfl, ?_⟩) ?_ ?_
  rotate_left
  · intro w'
    go_simp
    with_reducible rfl
  rotate_left
  · simp only [Act.put, List.setIfInBounds_toArray, List.set_cons_zero, List.set_cons_succ, i64_w, i32_w]
    rfl
  refine pure_ (i := 11) (N := some 141) (v := ?_) (a' := ?_) (bs 25 3823) rfl rfl (any_of HT_.out (by kernel_rfl)) (fun _ _ _ h => h) (Or.inl ⟨by rfl, ?_⟩) ?_ ?_
  rotate_left
  · intro w'
    go_simp
    with_reducible rfl
  rotate_left
  · simp only [Act.put, List.setIfInBounds_toArray, List.set_cons_zero, List.set_cons_succ, i64_w, i32_w]
    rfl
  refine pure_ (i := 12) (N := some 142) (v := ?_) (a' := ?_) (bs 25 7919) rfl rfl (any_of HT_.out (by kernel_rfl)) (fun _ _ _ h => h) (Or.inl ⟨by rfl, ?_⟩) ?_ ?_
  rotate_left
  · intro w'
    go_simp
    with_reducible rfl
  rotate_left
  · simp only [Act.put, List.setIfInBounds_toArray, List.set_cons_zero, List.set_cons_succ, i64_w, i32_w]
    rfl
  refine pure_ (i := 14) (N := some 144) (v := ?_) (a' := ?_) (bs 25 24303) rfl rfl (any_of HT_.out (by kernel_rfl)) (fun _ _ _ h => h) (Or.inl ⟨by rfl, ?_⟩) ?_ ?_
  rotate_left
  · intro w'
    go_simp
    with_reducible rfl
  rotate_left
  · simp only [Act.put, List.setIfInBounds_toArray, List.set_cons_zero, List.set_cons_succ, i64_w, i32_w]
    rfl
  refine pure_ (i := 17) (N := some 147) (v := ?_) (a' := ?_) (bs 25 155375) rfl rfl (any_of HT_.out (by kernel_rfl)) (fun _ _ _ h => h) (Or.inl ⟨by rfl, ?_⟩) ?_ ?_
  rotate_left
  · intro w'
    go_simp
    with_reducible rfl
  rotate_left
  · simp only [Act.put, List.setIfInBounds_toArray, List.set_cons_zero, List.set_cons_succ, i64_w, i32_w]
    rfl
  refine take_ (i := 4) (N := some 134) (v := ?_) (a' := ?_) (bs 25 155391) rfl rfl (take_ofW HT_.out HW_.out (by kernel_rfl)) (fun _ _ _ h => h) (Or.inl ⟨by rfl, ?_⟩) hHeld ?_ ?_
  rotate_left
  · rintro w' ⟨s0, s1, s2, s3⟩
    go_simp
    with_reducible rfl
  rotate_left
  · simp only [Act.put, List.setIfInBounds_toArray, List.set_cons_zero, List.set_cons_succ, i64_w, i32_w]
    rfl
  refine take_ (i := 8) (N := some 138) (v := ?_) (a' := ?_) (bs 25 155647) rfl rfl (take_ofW HT_.out HW_.out (by kernel_rfl)) (fun _ _ _ h => h) (Or.inl ⟨by rfl, ?_⟩) hHeld ?_ ?_
  rotate_left
  · rintro w' ⟨s0, s1, s2, s3⟩
    go_simp
    with_reducible rfl
  rotate_left
  · simp only [Act.put, List.setIfInBounds_toArray, List.set_cons_zero, List.set_cons_succ, i64_w, i32_w]
    rfl
  refine take_ (i := 13) (N := some 143) (v := ?_) (a' := ?_) (bs 25 163839) rfl rfl (take_ofW HT_.out HW_.out (by kernel_rfl)) (fun _ _ _ h => h) (Or.inl ⟨by rfl, ?_⟩) hHeld ?_ ?_
  rotate_left
  · rintro w' ⟨s0, s1, s2, s3⟩
    go_simp
    with_reducible rfl
  rotate_left
  · simp only [Act.put, List.setIfInBounds_toArray, List.set_cons_zero, List.set_cons_succ, i64_w, i32_w]
    rfl
  refine pure_ (i := 15) (N := some 145) (v := ?_) (a' := ?_) (bs 25 196607) rfl rfl (any_of HT_.out (by kernel_rfl)) (fun _ _ _ h => h) (Or.inl ⟨by rfl, ?_⟩) ?_ ?_
  rotate_left
  · intro w'
    go_simp
    with_reducible rfl
  rotate_left
  · simp only [Act.put, List.setIfInBounds_toArray, List.set_cons_zero, List.set_cons_succ, i64_w, i32_w]
    rfl
  refine take_ (i := 16) (N := some 146) (v := ?_) (a' := ?_) (bs 25 262143) rfl rfl (take_ofW HT_.out HW_.out (by kernel_rfl)) (fun _ _ _ h => h) (Or.inl ⟨by rfl, ?_⟩) hHeld ?_ ?_
  rotate_left
  · rintro w' ⟨s0, s1, s2, s3⟩
    go_simp
    with_reducible rfl
  rotate_left
  · simp only [Act.put, List.setIfInBounds_toArray, List.set_cons_zero, List.set_cons_succ, i64_w, i32_w]
    rfl
  refine one_ (i := 18) (N := some 148) (bs 25 524287) rfl rfl (one_of HT_.out (by kernel_rfl)) (by decide) (fun K hK => ?_)
  refine value_ (w1 := ?_) (v := ?_) (by rfl) rfl ?_ ?_
  rotate_left 2
  · go_simp
    constructor
    · rfl
    · rfl
  refine hK.out _ _ ⟨(cell_later' (Below.alloc (Below.refl _ _) (Nat.le_refl _) _) H0.out.1), (cell_later' (Below.alloc (Below.refl _ _) (Nat.le_refl _) _) H0.out.2.1), (cell_later' (Below.alloc (Below.refl _ _) (Nat.le_refl _) _) H0.out.2.2.1), (cell_later' (Below.alloc (Below.refl _ _) (Nat.le_refl _) _) H0.out.2.2.2)⟩ (fun hHeld => ?_)
  clear hK K
  refine norm_ (a' := ?_) ?_ ?_
  rotate_left
  · show Act.put _ (some 148) _ = _
    simp only [Act.put, List.setIfInBounds_toArray, List.set_cons_zero, List.set_cons_succ, i64_w, i32_w]
    rfl
  refine one_ (i := 19) (N := some 149) (bs 25 1048575) rfl rfl (one_of HT_.out (by kernel_rfl)) (by decide) (fun K hK => ?_)
  refine goes_ Try.func29 (by kernel_rfl) rfl #[.slice (some ⟨wd7.heap.size, 0, none⟩) 3 3] (by rfl) rfl rfl (by (try simp only [List.map_toArray, List.map_cons, List.map_nil]); first | done | rfl) ?_
  with_reducible refine (HM3.out wd7 _).mono ?_
  rintro e w8 ⟨rfl, hb8⟩
  refine ⟨_, rfl, ?_⟩
  refine hK.out _ _ ⟨(cell_later' (hb8) H0.out.1), (cell_later' (hb8) H0.out.2.1), (cell_later' (hb8) H0.out.2.2.1), (cell_later' (hb8) H0.out.2.2.2)⟩ (fun hHeld => ?_)
  clear hK K
  refine norm_ (a' := ?_) ?_ ?_
  rotate_left
  · show Act.put _ (some 149) _ = _
    simp only [Act.put, List.setIfInBounds_toArray, List.set_cons_zero, List.set_cons_succ, i64_w, i32_w]
    rfl
  refine one_ (i := 20) (N := some 150) (bs 25 2097151) rfl rfl (one_of HT_.out (by kernel_rfl)) (by decide) (fun K hK => ?_)
  refine value_ (w1 := ?_) (v := ?_) (by rfl) rfl ?_ ?_
  rotate_left 2
  · go_simp
    constructor
    · rfl
    · rfl
  refine hK.out _ _ ⟨(cell_later' (Below.alloc hb8 hb8.size _) H0.out.1), (cell_later' (Below.alloc hb8 hb8.size _) H0.out.2.1), (cell_later' (Below.alloc hb8 hb8.size _) H0.out.2.2.1), (cell_later' (Below.alloc hb8 hb8.size _) H0.out.2.2.2)⟩ (fun hHeld => ?_)
  clear hK K
  refine norm_ (a' := ?_) ?_ ?_
  rotate_left
  · show Act.put _ (some 150) _ = _
    simp only [Act.put, List.setIfInBounds_toArray, List.set_cons_zero, List.set_cons_succ, i64_w, i32_w]
    rfl
  refine one_ (i := 21) (N := some 151) (bs 25 4194303) rfl rfl (one_of HT_.out (by kernel_rfl)) (by decide) (fun K hK => ?_)
  refine goes_ Try.func30 (by kernel_rfl) rfl #[.slice (some ⟨w8.heap.size, 0, none⟩) 2 2] (by rfl) rfl rfl (by (try simp only [List.map_toArray, List.map_cons, List.map_nil]); first | done | rfl) ?_
  with_reducible refine (HA.out w8 _).mono ?_
  rintro e w9 ⟨rfl, hb9⟩
  refine ⟨_, rfl, ?_⟩
  have hb9' := below_then hb8 hb8.size hb9
  have HT9 := Aside0.mk (Tr.below HTd7.out hb9')
  have HG9 := Aside0.mk (grown_trans HGd7.out (grown_of hb9' _))
  obtain ⟨-, -, -, -, -, -, q6, q7, -, -, -, qf⟩ := HT9.out.cells
  refine hK.out _ _ ⟨(cell_later' (hb9') H0.out.1), (cell_later' (hb9') H0.out.2.1), (cell_later' (hb9') H0.out.2.2.1), (cell_later' (hb9') H0.out.2.2.2)⟩ (fun hHeld => ?_)
  clear hK K
  refine norm_ (a' := ?_) ?_ ?_
  rotate_left
  · show Act.put _ (some 151) _ = _
    simp only [Act.put, List.setIfInBounds_toArray, List.set_cons_zero, List.set_cons_succ, i64_w, i32_w]
    rfl
  refine pure_ (i := 22) (N := some 152) (v := ?_) (a' := ?_) (bs 25 8388607) rfl rfl (any_of HT_.out (by kernel_rfl)) (fun _ _ _ h => h) (Or.inl ⟨by rfl, ?_⟩) ?_ ?_
  rotate_left
  · intro w'
    go_simp
    with_reducible rfl
  rotate_left
  · simp only [Act.put, List.setIfInBounds_toArray, List.set_cons_zero, List.set_cons_succ, i64_w, i32_w]
    rfl
  refine pure_ (i := 23) (N := some 153) (v := ?_) (a' := ?_) (bs 25 16777215) rfl rfl (any_of HT_.out (by kernel_rfl)) (fun _ _ _ h => h) (Or.inl ⟨by rfl, ?_⟩) ?_ ?_
  rotate_left
  · intro w'
    go_simp
    with_reducible rfl
  rotate_left
  · simp only [Act.put, List.setIfInBounds_toArray, List.set_cons_zero, List.set_cons_succ, i64_w, i32_w]
    rfl
  refine last_ (i := 24) (N := none) (bs 25 33554431) rfl rfl (one_of HT_.out (by kernel_rfl)) (by decide) (fun K hK => ?_)
  refine skip_ (w1 := ?_) (by rfl) rfl ?_ ?_
  rotate_left
  · go_simp
    rfl
  refine hK.out _ _ ?_
  clear hK K
  refine done_ (done_of HT_.out (by kernel_rfl)) ?_
  clear hHeld H0 f0 f7 f8 fE
  go_wp2
  go_end0
  exact ⟨rfl, (HT9.out.putV nv).putI j, grown_trans HG9.out (grown_trans (grown_cell _ _ _ _) (grown_cell _ _ _ _))⟩
end Go.Proofs.Ytgkgnihjjabapaa.Gv
