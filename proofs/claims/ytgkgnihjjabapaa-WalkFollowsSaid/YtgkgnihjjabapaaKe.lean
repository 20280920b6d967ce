/- package walk: a path, by hand. (One drawn region is printed by a program of this session over the kit's regions.py.) -/
import Derived.Test.YtgkgnihjjabapaaKd
namespace Go.Proofs.Ytgkgnihjjabapaa.Gv
open Go.RowKit Go.Proofs.Ytgkgnihjjabapaa.X Go.Proofs.Ytgkgnihjjabapaa.Pl Go.Proofs.Ytgkgnihjjabapaa.Pa Go.Proofs.YtgkgnihjjabapaaW.PrintWords Go.Proofs.YtgkgnihjjabapaaW.PrintLast
set_option linter.unusedVariables false
set_option linter.unusedSimpArgs false
theorem pw_below_drewN' {B : Nat} {w W : World} (h : Below B w W) (n : Nat) : Below B w (W.drewN n) := ⟨h.os, h.tape, h.output, h.size, h.block⟩
def runF (R : Rw) (s : TS) : List S50 → TS
  | [] => s
  | x :: l => if (stepF R s x).2 = true then runF R (stepF R s x).1 l else (stepF R s x).1
theorem check_end {G A : List Int} {on m n l : Int} {T : List Int} : ∀ {k : Nat} {i : Int}, walk_Check.l0 k m T l i G A on = some (n, 0) → m = n
  | 0, i, h => by rw [walk_Check.l0] at h; cases h
  | k + 1, i, h => by
    rw [walk_Check.l0] at h
    split at h
    · split at h
      · split at h
        · obtain ⟨t, -, h⟩ := Option.bind_eq_some_iff.mp h
          split at h
          · exact check_end h
          · split at h
            · obtain ⟨t2, -, h⟩ := Option.bind_eq_some_iff.mp h
              split at h
              · injection h with h
                injection h with _ z
                cases z
              · exact check_end h
            · cases h
        · cases h
      · cases h
    · injection h with h
      injection h with h _
theorem check_ok {k : Nat} {E T G A : List Int} {on n : Int} (h : walk_Check.f k E T G A on = some (n, 0)) : n = (E.length : Int) ∧ T.length = E.length * E.length ∧ G.length = E.length * E.length ∧ A.length = E.length ∧ 1 ≤ E.length ∧ E.length ≤ 12 := by
  unfold walk_Check.f at h
  obtain ⟨⟨m, e⟩, h1, h2⟩ := Option.bind_eq_some_iff.mp h
  have hj (b : Bool) (hb : b = true) : walk_Check.j0 k m b E T G A on ≠ some (n, 0) := by
    subst hb
    cases k with
    | zero => rw [walk_Check.j0]; exact fun z => by cases z
    | succ k => rw [walk_Check.j0, if_pos rfl]; exact fun z => by injection z with z; injection z with _ z; cases z
  simp only at h2
  unfold graph_Check.f at h1
  by_cases c0 : (E.length : Int) = 0
  · rw [if_pos c0] at h1
    injection h1 with h1
    injection h1 with h1 h3
    subst h3
    rw [if_neg (by decide)] at h2
    exact absurd h2 (hj _ rfl)
  · rw [if_neg c0] at h1
    by_cases c1 : (E.length : Int) > 12
    · rw [if_pos c1] at h1
      injection h1 with h1
      injection h1 with h1 h3
      subst h3
      rw [if_neg (by decide)] at h2
      exact absurd h2 (hj _ rfl)
    · rw [if_neg c1] at h1
      have g1 : (if (sideOf T.length : Int) = (E.length : Int) then (some ((E.length : Int), 0)) else (some (0, 14))) = some (m, e) := h1
      clear h1
      by_cases c2 : (sideOf T.length : Int) = (E.length : Int)
      · rw [if_pos c2] at g1
        injection g1 with g1
        injection g1 with h1 h3
        subst h3
        subst h1
        rw [if_pos rfl] at h2
        have hs := sideOf_sq T.length (by omega)
        have e2 : sideOf T.length = E.length := by omega
        rw [e2] at hs
        have h12 := Nat.mul_le_mul (show E.length ≤ 12 by omega) (show E.length ≤ 12 by omega)
        have hw : wrap64 ((E.length : Int) * (E.length : Int)) = ((E.length * E.length : Nat) : Int) := by
          have e : (E.length : Int) * (E.length : Int) = ((E.length * E.length : Nat) : Int) := by simp
          rw [e, wrap_id (by omega) (by omega)]
        rw [hw] at h2
        by_cases c3 : (G.length : Int) = ((E.length * E.length : Nat) : Int)
        · rw [if_pos c3] at h2
          by_cases c4 : ((A.length : Int) != (E.length : Int)) = true
          · exact absurd h2 (hj _ c4)
          · have c5 : ((A.length : Int) != (E.length : Int)) = false := by simpa using c4
            have c6 : (A.length : Int) = (E.length : Int) := by simpa using c5
            rw [c5] at h2
            refine ⟨?_, by omega, by omega, by omega, by omega, by omega⟩
            cases k with
            | zero => rw [walk_Check.j0] at h2; cases h2
            | succ k =>
              rw [walk_Check.j0, if_neg (by decide)] at h2
              obtain ⟨t, -, h2⟩ := Option.bind_eq_some_iff.mp h2
              by_cases c7 : t = 0
              · rw [if_pos c7] at h2
                injection h2 with h2
                injection h2 with _ z
                cases z
              · rw [if_neg c7] at h2
                exact (check_end h2).symm
        · rw [if_neg c3] at h2
          exact absurd h2 (hj _ rfl)
      · rw [if_neg c2] at g1
        injection g1 with g1
        injection g1 with h1 h3
        subst h3
        rw [if_neg (by decide)] at h2
        exact absurd h2 (hj _ rfl)

set_option maxHeartbeats 4000000 in
theorem follow_err (k : Nat) (AE AT AG AA AL : Option Addr) (cE cT cG cA cL : Nat) (E T G A : List Int) (on fr : Int) (l : List S50) (n e : Int) (he : e ≠ 0) (w : World) (hE : Kd.C (Kd.int .i64) w AE E.length E) (cEl : E.length ≤ cE) (hT : Kd.C (Kd.int .i64) w AT T.length T) (cTl : T.length ≤ cT) (hG : Kd.C (Kd.int .i64) w AG G.length G) (cGl : G.length ≤ cG) (hA : Kd.C (Kd.int .i64) w AA A.length A) (cAl : A.length ≤ cA) (hL : Kd.C k50 w AL l.length l) (cLl : l.length ≤ cL) (h : walk_Check.f k E T G A on = some (n, e)) :
    Calls Try.prog 9 #[.agg #[.slice AE E.length cE, .slice AT T.length cT], .agg #[.slice AG G.length cG, .slice AA A.length cA, .int .i64 on], .int .i64 fr, .slice AL l.length cL] w fun r w' => r = .returned (.tuple #[.int .i64 0, .int .i64 0, .int .i64 e]) ∧ Below w.heap.size w w' := by
  have hbw : Below w.heap.size w ((w.alloc (.cells #[.slice AE E.length cE, .slice AT T.length cT] 24 (0, 0))).alloc (.cells #[.slice AG G.length cG, .slice AA A.length cA, .int .i64 on] 26 (0, 0))) := Below.alloc (Below.alloc (Below.refl _ _) (Nat.le_refl _) _) (by simp) _
  have HCk := Aside0.mk (walk_Check.calls k AE cE E AT cT T AG cG G AA cA A on n e _ (Kd.C_below hE hbw) cEl (Kd.C_below hT hbw) cTl (Kd.C_below hG hbw) cGl (Kd.C_below hA hbw) cAl h)
  have heb : (e != 0) = true := by simpa using he
  have HB := Aside0.mk hbw
  clear hE hT hG hA hL h he hbw
  go_enter Try.func9, Try.ntmps9
  go_wp2_with (go_at_call 17; refine HCk.out.mono ?_; rintro x w1 ⟨rfl, hb1⟩)
  go_ret3
  exact ⟨rfl, below_then HB.out HB.out.size hb1⟩
set_option maxHeartbeats 4000000 in
theorem follow_far (k : Nat) (AE AT AG AA AL : Option Addr) (cE cT cG cA cL : Nat) (E T G A : List Int) (on fr : Int) (l : List S50) (n : Int) (hf : fr < 0 ∨ n ≤ fr) (w : World) (hE : Kd.C (Kd.int .i64) w AE E.length E) (cEl : E.length ≤ cE) (hT : Kd.C (Kd.int .i64) w AT T.length T) (cTl : T.length ≤ cT) (hG : Kd.C (Kd.int .i64) w AG G.length G) (cGl : G.length ≤ cG) (hA : Kd.C (Kd.int .i64) w AA A.length A) (cAl : A.length ≤ cA) (hL : Kd.C k50 w AL l.length l) (cLl : l.length ≤ cL) (h : walk_Check.f k E T G A on = some (n, 0)) :
    Calls Try.prog 9 #[.agg #[.slice AE E.length cE, .slice AT T.length cT], .agg #[.slice AG G.length cG, .slice AA A.length cA, .int .i64 on], .int .i64 fr, .slice AL l.length cL] w fun r w' => r = .returned (.tuple #[.int .i64 0, .int .i64 0, .int .i64 3]) ∧ Below w.heap.size w w' := by
  have hbw : Below w.heap.size w ((w.alloc (.cells #[.slice AE E.length cE, .slice AT T.length cT] 24 (0, 0))).alloc (.cells #[.slice AG G.length cG, .slice AA A.length cA, .int .i64 on] 26 (0, 0))) := Below.alloc (Below.alloc (Below.refl _ _) (Nat.le_refl _) _) (by simp) _
  have HCk := Aside0.mk (walk_Check.calls k AE cE E AT cT T AG cG G AA cA A on n 0 _ (Kd.C_below hE hbw) cEl (Kd.C_below hT hbw) cTl (Kd.C_below hG hbw) cGl (Kd.C_below hA hbw) cAl h)
  have HB := Aside0.mk hbw
  clear hE hT hG hA hL h hbw
  by_cases c : fr < 0
  · clear hf
    go_enter Try.func9, Try.ntmps9
    go_wp2_with (go_at_call 17; refine HCk.out.mono ?_; rintro x w1 ⟨rfl, hb1⟩)
    go_ret3
    exact ⟨rfl, below_then HB.out HB.out.size hb1⟩
  · have c2 : n ≤ fr := by omega
    clear hf
    go_enter Try.func9, Try.ntmps9
    go_wp2_with (go_at_call 17; refine HCk.out.mono ?_; rintro x w1 ⟨rfl, hb1⟩)
    go_ret3
    exact ⟨rfl, below_then HB.out HB.out.size hb1⟩
def followR.T6 : Bool × List (List Nat × List Nat) := (true, [([], []), ([], []), ([], []), ([], []), ([], []), ([4], [4]), ([], []), ([5, 6], [5, 6]), ([7], [7]), ([8], [8]), ([0, 1, 2, 3, 9], [0, 1, 2, 3, 9]), ([10], [10]), ([11, 9, 0, 1, 2, 3, 4, 5, 6, 7, 8, 9, 10, 11], [11])])
def followR.B6 : List Nat := [0, 0, 0, 0, 0, 16, 0, 112, 240, 496, 1023, 2047, 4095]
theorem followR.tab6 : rtab .any (opsOf Try.f9 6) = followR.T6 := by kernel_rfl
theorem followR.bits6 : waitsOk followR.T6.2 followR.B6 = true := by kernel_rfl
theorem runF_drop (R : Rw) (s : TS) (l : List S50) (i : Nat) (h : i < l.length) : runF R s (l.drop i) = if (stepF R s (rd_T50 l i)).2 = true then runF R (stepF R s (rd_T50 l i)).1 (l.drop (i + 1)) else (stepF R s (rd_T50 l i)).1 := by
  rw [List.drop_eq_getElem_cons h, runF]
  have e : rd_T50 l i = l[i] := by
    unfold rd_T50
    rw [Int.toNat_natCast, List.getD_eq_getElem?_getD, List.getElem?_eq_getElem h]
    rfl
  rw [e]
set_option maxHeartbeats 16000000 in
set_option maxRecDepth 100000 in
theorem follow_ok (k : Nat) (AE AT AG AA AL : Option Addr) (cE cT cG cA cL : Nat) (E T G A : List Int) (on fr : Int) (l : List S50) (n : Int) (f0 : Nat) (hfr : fr = (f0 : Int)) (hf1 : fr < n) (w : World) (hE : Kd.C (Kd.int .i64) w AE E.length E) (cEl : E.length ≤ cE) (hT : Kd.C (Kd.int .i64) w AT T.length T) (cTl : T.length ≤ cT) (hG : Kd.C (Kd.int .i64) w AG G.length G) (cGl : G.length ≤ cG) (hA : Kd.C (Kd.int .i64) w AA A.length A) (cAl : A.length ≤ cA) (hL : Kd.C k50 w AL l.length l) (cLl : l.length ≤ cL) (h : walk_Check.f k E T G A on = some (n, 0)) (z : TS) (hz : runF ⟨AE, AT, AG, AA, cE, cT, cG, cA, E, T, G, A, on, E.length⟩ ⟨f0, of (E.getD f0 0), 1, 1, false⟩ l = z) :
    Calls Try.prog 9 #[.agg #[.slice AE E.length cE, .slice AT T.length cT], .agg #[.slice AG G.length cG, .slice AA A.length cA, .int .i64 on], .int .i64 fr, .slice AL l.length cL] w fun r w' => r = .returned (.tuple #[.int .i64 z.v, .int .i64 z.p, .int .i64 0]) ∧ Below w.heap.size w w' := by
  have hbw : Below w.heap.size w ((w.alloc (.cells #[.slice AE E.length cE, .slice AT T.length cT] 24 (0, 0))).alloc (.cells #[.slice AG G.length cG, .slice AA A.length cA, .int .i64 on] 26 (0, 0))) := Below.alloc (Below.alloc (Below.refl _ _) (Nat.le_refl _) _) (by simp) _
  have HCk := Aside0.mk (walk_Check.calls k AE cE E AT cT T AG cG G AA cA A on n 0 _ (Kd.C_below hE hbw) cEl (Kd.C_below hT hbw) cTl (Kd.C_below hG hbw) cGl (Kd.C_below hA hbw) cAl h)
  obtain ⟨en, lT, lG, lA, n1, n12⟩ := check_ok h
  subst en
  subst hfr
  have hok : RwOk ⟨AE, AT, AG, AA, cE, cT, cG, cA, E, T, G, A, on, E.length⟩ w := ⟨hE, hT, hG, hA, cEl, cTl, cGl, cAl, rfl, lT, lG, lA, n1, n12⟩
  obtain ⟨adE, eE, hxE⟩ := Kd.at_int hE (f0 : Int) (by omega) hf1
  rw [rd_eq, Int.toNat_natCast] at hxE
  subst eE
  have HB := Aside0.mk hbw
  have OK := Aside0.mk hok
  have HL := Aside0.mk hL
  have hLm : l.length ≤ 9223372036854775807 := hL.2.1
  have HX := Aside0.mk (fun W (hW : Below w.heap.size w W) => cell_later' hW hxE)
  have hi0 : f0 < E.length := by omega
  have z0 : (0 : Int) ≤ (f0 : Int) := by omega
  have y8 : decide (E.length ≤ f0) = false := decide_eq_false (by omega)
  have y9 : decide ((f0 : Int) < 0) = false := decide_eq_false (by omega)
  have HOf := Aside0.mk (fun W => field_Of.calls (E.getD f0 0) (of (E.getD f0 0)) W (Of_eq _))
  have HZ := Aside0.mk hz
  generalize E.getD f0 0 = a at *
  generalize of a = oa at *
  clear hE hT hG hA hL h hbw hok cEl cTl cGl cAl lT lG lA hxE hz
  go_enter Try.func9, Try.ntmps9
  go_wp2_with (go_at_call 17; refine HCk.out.mono ?_; rintro x w1 ⟨rfl, hb1⟩; have HB1 := Aside0.mk hb1; clear hb1)
  have h0 := blk_alloc (blk_new w (.cells #[.slice (some adE) E.length cE, .slice AT T.length cT] 24 (0, 0))) (.cells #[.slice AG G.length cG, .slice AA A.length cA, .int .i64 on] 26 (0, 0))
  have h1 := blk_new (w.alloc (.cells #[.slice (some adE) E.length cE, .slice AT T.length cT] 24 (0, 0))) (.cells #[.slice AG G.length cG, .slice AA A.length cA, .int .i64 on] 26 (0, 0))
  have es : (w.alloc (.cells #[.slice (some adE) E.length cE, .slice AT T.length cT] 24 (0, 0))).heap.size = w.heap.size + 1 := by simp
  rw [es] at h1
  have g0 := blk_below h0 HB1.out
  have g1 := blk_below h1 HB1.out
  have m0 := (blk_cell g0 0).trans rfl
  have m1 := (blk_cell g0 1).trans rfl
  have c0 := (blk_cell g1 0).trans rfl
  have c1 := (blk_cell g1 1).trans rfl
  have c2 := (blk_cell g1 2).trans rfl
  have HB2 := Aside0.mk (below_drew1 (below_then HB.out HB.out.size HB1.out))
  have hx := HX.out _ HB2.out
  clear h0 h1 es g0 g1
  refine start_ (n := 13) (S := fun w' => w'.cell? ⟨w.heap.size, 0, none⟩ = some (.slice (some adE) E.length cE) ∧ w'.cell? ⟨w.heap.size, 1, none⟩ = some (.slice AT T.length cT) ∧ w'.cell? ⟨w.heap.size + 1, 0, none⟩ = some (.slice AG G.length cG) ∧ w'.cell? ⟨w.heap.size + 1, 1, none⟩ = some (.slice AA A.length cA) ∧ w'.cell? ⟨w.heap.size + 1, 2, none⟩ = some (.int .i64 on) ∧ w'.cell? (adE.add f0) = some (.int .i64 a)) (ds := []) (bs 13 0) (by kernel_rfl) rfl (by kernel_rfl) ⟨m0, m1, c0, c1, c2, hx⟩ (fun hHeld => ?_)
  refine with_tabW followR.tab6 followR.bits6 (fun HT_ HW_ => ?_)
  have H0 := Aside0.mk hHeld
  generalize w1.drew = wd at H0 hHeld HB2 hx ⊢
  refine pure_ (i := 2) (N := some 34) (v := ?_) (a' := ?_) (bs 13 4) rfl rfl (any_of HT_.out (by kernel_rfl)) (fun _ _ _ h => h) (Or.inl ⟨by rfl, ?_⟩) ?_ ?_
  rotate_left
  · intro w'
    go_simp
    with_reducible rfl
  rotate_left
  · simp only [Act.put, List.setIfInBounds_toArray, List.set_cons_zero, List.set_cons_succ, i64_w, i32_w]
    rfl
  refine pure_ (i := 3) (N := some 35) (v := ?_) (a' := ?_) (bs 13 12) rfl rfl (any_of HT_.out (by kernel_rfl)) (fun _ _ _ h => h) (Or.inl ⟨by rfl, ?_⟩) ?_ ?_
  rotate_left
  · intro w'
    go_simp
    with_reducible rfl
  rotate_left
  · simp only [Act.put, List.setIfInBounds_toArray, List.set_cons_zero, List.set_cons_succ, i64_w, i32_w]
    rfl
  refine pure_ (i := 4) (N := some 36) (v := ?_) (a' := ?_) (bs 13 28) rfl rfl (any_of HT_.out (by kernel_rfl)) (fun _ _ _ h => h) (Or.inl ⟨by rfl, ?_⟩) ?_ ?_
  rotate_left
  · intro w'
    go_simp
    with_reducible rfl
  rotate_left
  · simp only [Act.put, List.setIfInBounds_toArray, List.set_cons_zero, List.set_cons_succ, i64_w, i32_w]
    rfl
  refine pure_ (i := 6) (N := some 38) (v := ?_) (a' := ?_) (bs 13 92) rfl rfl (any_of HT_.out (by kernel_rfl)) (fun _ _ _ h => h) (Or.inl ⟨by rfl, ?_⟩) ?_ ?_
  rotate_left
  · intro w'
    go_simp
    with_reducible rfl
  rotate_left
  · simp only [Act.put, List.setIfInBounds_toArray, List.set_cons_zero, List.set_cons_succ, i64_w, i32_w]
    rfl
  refine take_ (i := 0) (N := some 32) (v := ?_) (a' := ?_) (bs 13 93) rfl rfl (take_ofW HT_.out HW_.out (by kernel_rfl)) (fun _ _ _ h => h) (Or.inl ⟨by rfl, ?_⟩) hHeld ?_ ?_
  rotate_left
  · rintro w' ⟨s0, s1, s2, s3, s4, s5⟩
    go_simp
    with_reducible rfl
  rotate_left
  · simp only [Act.put, List.setIfInBounds_toArray, List.set_cons_zero, List.set_cons_succ, i64_w, i32_w]
    rfl
  refine take_ (i := 1) (N := some 33) (v := ?_) (a' := ?_) (bs 13 95) rfl rfl (take_ofW HT_.out HW_.out (by kernel_rfl)) (fun _ _ _ h => h) (Or.inl ⟨by rfl, ?_⟩) hHeld ?_ ?_
  rotate_left
  · rintro w' ⟨s0, s1, s2, s3, s4, s5⟩
    go_simp
    with_reducible rfl
  rotate_left
  · simp only [Act.put, List.setIfInBounds_toArray, List.set_cons_zero, List.set_cons_succ, i64_w, i32_w]
    rfl
  refine take_ (i := 5) (N := some 37) (v := ?_) (a' := ?_) (bs 13 127) rfl rfl (take_ofW HT_.out HW_.out (by kernel_rfl)) (fun _ _ _ h => h) (Or.inl ⟨by rfl, ?_⟩) hHeld ?_ ?_
  rotate_left
  · rintro w' ⟨s0, s1, s2, s3, s4, s5⟩
    go_simp
    with_reducible rfl
  rotate_left
  · simp only [Act.put, List.setIfInBounds_toArray, List.set_cons_zero, List.set_cons_succ, i64_w, i32_w]
    rfl
  refine pure_ (i := 7) (N := some 39) (v := ?_) (a' := ?_) (bs 13 255) rfl rfl (any_of HT_.out (by kernel_rfl)) (fun _ _ _ h => h) (Or.inl ⟨by rfl, ?_⟩) ?_ ?_
  rotate_left
  · intro w'
    go_simp
    with_reducible rfl
  rotate_left
  · simp only [Act.put, List.setIfInBounds_toArray, List.set_cons_zero, List.set_cons_succ, i64_w, i32_w]
    rfl
  refine take_ (i := 8) (N := some 40) (v := ?_) (a' := ?_) (bs 13 511) rfl rfl (take_ofW HT_.out HW_.out (by kernel_rfl)) (fun _ _ _ h => h) (Or.inl ⟨by rfl, ?_⟩) hHeld ?_ ?_
  rotate_left
  · rintro w' ⟨s0, s1, s2, s3, s4, s5⟩
    go_simp
    with_reducible rfl
  rotate_left
  · simp only [Act.put, List.setIfInBounds_toArray, List.set_cons_zero, List.set_cons_succ, i64_w, i32_w]
    rfl
  refine one_ (i := 9) (N := some 41) (bs 13 1023) rfl rfl (one_of HT_.out (by kernel_rfl)) (by decide) (fun K hK => ?_)
  refine goes_ Try.func20 (by kernel_rfl) rfl #[.int .i64 a] (by rfl) rfl rfl (by (try simp only [List.map_toArray, List.map_cons, List.map_nil]); first | done | rfl) ?_
  with_reducible refine (HOf.out wd).mono ?_
  rintro e w2 ⟨rfl, m9, rfl⟩
  refine ⟨_, rfl, ?_⟩
  refine hK.out _ _ ⟨H0.out.1, H0.out.2.1, H0.out.2.2.1, H0.out.2.2.2.1, H0.out.2.2.2.2.1, H0.out.2.2.2.2.2⟩ (fun hHeld => ?_)
  clear hK K
  refine norm_ (a' := ?_) ?_ ?_
  rotate_left
  · show Act.put _ (some 41) _ = _
    simp only [Act.put, List.setIfInBounds_toArray, List.set_cons_zero, List.set_cons_succ, i64_w, i32_w]
    rfl
  refine pure_ (i := 10) (N := some 42) (v := ?_) (a' := ?_) (bs 13 2047) rfl rfl (any_of HT_.out (by kernel_rfl)) (fun _ _ _ h => h) (Or.inl ⟨by rfl, ?_⟩) ?_ ?_
  rotate_left
  · intro w'
    go_simp
    with_reducible rfl
  rotate_left
  · simp only [Act.put, List.setIfInBounds_toArray, List.set_cons_zero, List.set_cons_succ, i64_w, i32_w]
    rfl
  refine one_ (i := 11) (N := some 43) (bs 13 4095) rfl rfl (one_of HT_.out (by kernel_rfl)) (by decide) (fun K hK => ?_)
  refine value_ (w1 := ?_) (v := ?_) (by rfl) rfl ?_ ?_
  rotate_left 2
  · go_simp
    constructor
    · rfl
    · rfl
  refine hK.out _ _ ⟨(cell_later' (Below.alloc (pw_below_drewN (Below.refl _ _) m9) (Nat.le_refl _) _) H0.out.1), (cell_later' (Below.alloc (pw_below_drewN (Below.refl _ _) m9) (Nat.le_refl _) _) H0.out.2.1), (cell_later' (Below.alloc (pw_below_drewN (Below.refl _ _) m9) (Nat.le_refl _) _) H0.out.2.2.1), (cell_later' (Below.alloc (pw_below_drewN (Below.refl _ _) m9) (Nat.le_refl _) _) H0.out.2.2.2.1), (cell_later' (Below.alloc (pw_below_drewN (Below.refl _ _) m9) (Nat.le_refl _) _) H0.out.2.2.2.2.1), (cell_later' (Below.alloc (pw_below_drewN (Below.refl _ _) m9) (Nat.le_refl _) _) H0.out.2.2.2.2.2)⟩ (fun hHeld => ?_)
  clear hK K
  refine norm_ (a' := ?_) ?_ ?_
  rotate_left
  · show Act.put _ (some 43) _ = _
    simp only [Act.put, List.setIfInBounds_toArray, List.set_cons_zero, List.set_cons_succ, i64_w, i32_w]
    rfl
  refine pure_ (i := 12) (N := some 13) (v := ?_) (a' := ?_) (bs 13 8191) rfl rfl (any_of HT_.out (by kernel_rfl)) (fun _ _ _ h => h) (Or.inl ⟨by rfl, ?_⟩) ?_ ?_
  rotate_left
  · intro w'
    go_simp
    with_reducible rfl
  rotate_left
  · simp only [Act.put, List.setIfInBounds_toArray, List.set_cons_zero, List.set_cons_succ, i64_w, i32_w]
    rfl
  refine done_ (done_of HT_.out (by kernel_rfl)) ?_
  have HT : Aside0 (Tr ((wd.drewN m9).alloc (trO ⟨some adE, AT, AG, AA, cE, cT, cG, cA, E, T, G, A, on, E.length⟩ ⟨f0, oa, 1, 1, false⟩)) wd.heap.size ⟨some adE, AT, AG, AA, cE, cT, cG, cA, E, T, G, A, on, E.length⟩ ⟨f0, oa, 1, 1, false⟩) := ⟨blk_new (wd.drewN m9) _⟩
  have HB3 : Aside0 (Below w.heap.size w ((wd.drewN m9).alloc (trO ⟨some adE, AT, AG, AA, cE, cT, cG, cA, E, T, G, A, on, E.length⟩ ⟨f0, oa, 1, 1, false⟩))) := ⟨Below.alloc (pw_below_drewN' HB2.out m9) HB2.out.size _⟩
  have hgw : w.heap.size ≤ wd.heap.size := HB2.out.size
  generalize wd.heap.size = g at *
  clear hHeld H0 m0 m1 c0 c1 c2 hx
  go_wp2
  have HI0 := Aside0.mk hi0
  clear hi0 hf1 z0
  go_loopw [46] (fun i wr => ∃ (q : Nat) (s : TS), q ≤ l.length ∧ i = .int .i64 (q : Int) ∧ s.i < E.length ∧ Aside0 (Tr wr g ⟨some adE, AT, AG, AA, cE, cT, cG, cA, E, T, G, A, on, E.length⟩ s) ∧ Aside0 (runF ⟨some adE, AT, AG, AA, cE, cT, cG, cA, E, T, G, A, on, E.length⟩ s (l.drop q) = z) ∧ Aside0 (Below w.heap.size w wr)) (fun i _ => l.length - (intOf i).toNat)
  case atStart => exact ⟨0, _, Nat.zero_le _, rfl, HI0.out, HT, HZ, HB3⟩
  case round =>
    obtain ⟨q, s, hq, rfl, hsi, HTr, HRun, HBr⟩ := hrel
    by_cases hql : q < l.length
    · have y0 : (0 : Int) ≤ (q : Int) := by omega
      have y1 : (q : Int) < (l.length : Int) := by omega
      obtain ⟨ad, rfl, t0, t1, t2⟩ := at_T50 (Kd.C_below HL.out HBr.out) (q : Int) y0 y1
      rw [Int.toNat_natCast] at t0 t1 t2
      have hr := runF_drop ⟨some adE, AT, AG, AA, cE, cT, cG, cA, E, T, G, A, on, E.length⟩ s l q hql
      rw [HRun.out] at hr
      have HR2 := Aside0.mk hr
      generalize rd_T50 l (q : Int) = x at *
      clear hr
      have HTx := Aside0.mk (Tr.below HTr.out (Below.alloc (Below.refl _ _) (Nat.le_refl _) (.cells #[.int .i64 x.f0, .int .i64 x.f1, .bool x.f2] 50 (0, 0))))
      have HBx := Aside0.mk (Below.alloc HBr.out HBr.out.size (.cells #[.int .i64 x.f0, .int .i64 x.f1, .bool x.f2] 50 (0, 0)))
      have HS := Aside0.mk (step_any ⟨some adE, AT, AG, AA, cE, cT, cG, cA, E, T, G, A, on, E.length⟩ w OK.out g s x hsi _ HBx.out hgw HTx.out)
      have hsi2 := stepF_i ⟨some adE, AT, AG, AA, cE, cT, cG, cA, E, T, G, A, on, E.length⟩ s x hsi
      cases hst : (stepF ⟨some adE, AT, AG, AA, cE, cT, cG, cA, E, T, G, A, on, E.length⟩ s x).2 with
      | true =>
        rw [hst, if_pos rfl] at HR2
        rw [hst] at HS
        clear hst
        generalize (stepF ⟨some adE, AT, AG, AA, cE, cT, cG, cA, E, T, G, A, on, E.length⟩ s x).1 = s2 at *
        go_wp2_with (go_at_call 21; with_reducible refine HS.out.mono ?_; rintro y w3 ⟨rfl, hT3, hg3⟩; have HT3 := Aside0.mk hT3; have HB3 := Aside0.mk (grown_below HBx.out hg3 HBx.out.size hgw); clear hT3 hg3)
        go_roundw
        case rel => exact ⟨q + 1, s2, by omega, by go_num, hsi2, HT3, ⟨HR2.out.symm⟩, HB3⟩
        case measure => simp [intOf]; omega
      | false =>
        rw [hst, if_neg (by decide)] at HR2
        rw [hst] at HS
        clear hst
        generalize (stepF ⟨some adE, AT, AG, AA, cE, cT, cG, cA, E, T, G, A, on, E.length⟩ s x).1 = s2 at *
        go_wp2_with (go_at_call 21; with_reducible refine HS.out.mono ?_; rintro y w3 ⟨rfl, hT3, hg3⟩; have HT3 := Aside0.mk hT3; have HB3 := Aside0.mk (grown_below HBx.out hg3 HBx.out.size hgw); obtain ⟨-, -, -, -, -, -, -, r7, -, r9, -, -⟩ := HT3.out.cells; clear hT3 hg3)
        go_quiet (fail)
        go_wp2
        go_ret3
        rw [HR2.out]
        exact ⟨rfl, pw_below_drewN' HB3.out _⟩
    · have hql2 : ¬ (q : Int) < (l.length : Int) := by omega
      have hqe : q = l.length := by omega
      have HR2 := HRun.out
      rw [hqe, List.drop_length, runF] at HR2
      have HR3 := Aside0.mk HR2
      obtain ⟨-, -, -, -, -, -, -, r7, -, r9, -, -⟩ := HTr.out.cells
      clear HR2 hqe
      go_wp2
      go_quiet (fail)
      go_wp2
      go_ret3
      rw [← HR3.out]
      exact ⟨rfl, pw_below_drewN' HBr.out _⟩
/-- the same path, wherever its rows lie -/
def Rn (E T G A : List Int) (on : Int) : Rw := ⟨none, none, none, none, 0, 0, 0, 0, E, T, G, A, on, E.length⟩
theorem stepF_addr (a b c d : Option Addr) (p q r t n : Nat) (E T G A : List Int) (on : Int) (s : TS) (x : S50) : stepF ⟨a, b, c, d, p, q, r, t, E, T, G, A, on, n⟩ s x = stepF ⟨none, none, none, none, 0, 0, 0, 0, E, T, G, A, on, n⟩ s x := rfl
theorem runF_addr (a b c d : Option Addr) (p q r t n : Nat) (E T G A : List Int) (on : Int) : ∀ (l : List S50) (s : TS), runF ⟨a, b, c, d, p, q, r, t, E, T, G, A, on, n⟩ s l = runF ⟨none, none, none, none, 0, 0, 0, 0, E, T, G, A, on, n⟩ s l
  | [], s => rfl
  | x :: l, s => by
    rw [runF, runF, stepF_addr, runF_addr a b c d p q r t n E T G A on l]
def folV (E T G A : List Int) (on : Int) (f : Nat) (l : List S50) : TS := runF (Rn E T G A on) ⟨f, of (E.getD f 0), 1, 1, false⟩ l
def folF (k : Nat) (E T G A : List Int) (on fr : Int) (l : List S50) : Option (Int × Int × Int) := (walk_Check.f k E T G A on).bind fun b => if b.2 = 0 then (if 0 ≤ fr ∧ fr < b.1 then some ((folV E T G A on fr.toNat l).v, (folV E T G A on fr.toNat l).p, 0) else some (0, 0, 3)) else some (0, 0, b.2)
theorem folF_mono (E T G A : List Int) (on fr : Int) (l : List S50) (k : Nat) : LeO (folF k E T G A on fr l) (folF (k + 1) E T G A on fr l) := LeO.bind (walk_Check.mono _ _ _ _ _ _) (fun _ => LeO.refl _)
theorem follow_any (k : Nat) (AE AT AG AA AL : Option Addr) (cE cT cG cA cL : Nat) (E T G A : List Int) (on fr : Int) (l : List S50) (r1 r2 r3 : Int) (w : World) (hE : Kd.C (Kd.int .i64) w AE E.length E) (cEl : E.length ≤ cE) (hT : Kd.C (Kd.int .i64) w AT T.length T) (cTl : T.length ≤ cT) (hG : Kd.C (Kd.int .i64) w AG G.length G) (cGl : G.length ≤ cG) (hA : Kd.C (Kd.int .i64) w AA A.length A) (cAl : A.length ≤ cA) (hL : Kd.C k50 w AL l.length l) (cLl : l.length ≤ cL) (h : folF k E T G A on fr l = some (r1, r2, r3)) :
    Calls Try.prog 9 #[.agg #[.slice AE E.length cE, .slice AT T.length cT], .agg #[.slice AG G.length cG, .slice AA A.length cA, .int .i64 on], .int .i64 fr, .slice AL l.length cL] w fun r w' => r = .returned (.tuple #[.int .i64 r1, .int .i64 r2, .int .i64 r3]) ∧ Below w.heap.size w w' := by
  unfold folF at h
  obtain ⟨⟨n, e⟩, h1, h2⟩ := Option.bind_eq_some_iff.mp h
  simp only at h2
  by_cases c : e = 0
  · rw [if_pos c] at h2
    subst c
    by_cases d : 0 ≤ fr ∧ fr < n
    · rw [if_pos d] at h2
      obtain ⟨f, rfl⟩ := Int.eq_ofNat_of_zero_le d.1
      rw [Int.toNat_natCast] at h2
      injection h2 with h2
      injection h2 with e1 h2
      injection h2 with e2 e3
      subst e1 e2 e3
      have hz := runF_addr AE AT AG AA cE cT cG cA E.length E T G A on l ⟨f, of (E.getD f 0), 1, 1, false⟩
      exact follow_ok k AE AT AG AA AL cE cT cG cA cL E T G A on _ l n f rfl d.2 w hE cEl hT cTl hG cGl hA cAl hL cLl h1 _ hz
    · rw [if_neg d] at h2
      injection h2 with h2
      injection h2 with e1 h2
      injection h2 with e2 e3
      subst e1 e2 e3
      exact follow_far k AE AT AG AA AL cE cT cG cA cL E T G A on fr l n (by omega) w hE cEl hT cTl hG cGl hA cAl hL cLl h1
  · rw [if_neg c] at h2
    injection h2 with h2
    injection h2 with e1 h2
    injection h2 with e2 e3
    subst e1 e2 e3
    exact follow_err k AE AT AG AA AL cE cT cG cA cL E T G A on fr l n e c w hE cEl hT cTl hG cGl hA cAl hL cLl h1
end Go.Proofs.Ytgkgnihjjabapaa.Gv
