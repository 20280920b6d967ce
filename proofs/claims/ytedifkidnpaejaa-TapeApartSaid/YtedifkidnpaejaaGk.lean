/- Contracts of package tape's functions of draws. -/
import Derived.Test.YtedifkidnpaejaaGj
import Derived.WalkLawsBesides
namespace Go.Proofs.Ytedifkidnpaejaa.Gv
open Go.RowKit Go.Proofs.YtedifkidnpaejaaW.PrintWords Go.Proofs.YtedifkidnpaejaaW.PrintLast

/-- a row of floats, by their bits -/
def FK : Kd Nat := Kd.scalar (Value.float .f64) (fun _ => rfl)
theorem ret_f {a b : Nat} (h : a = b) : Ending.returned (.float .f64 a) = .returned (.float .f64 b) := by rw [h]
def fge (a b : Nat) : Bool := FloatKind.f64.format.order a b == some .gt || FloatKind.f64.format.order a b == some .eq
def flt (a b : Nat) : Bool := FloatKind.f64.format.order a b == some .lt
/-- what a draw counts as -/
def cleanF (b : Nat) : Nat := if fge b 0 = true ∧ flt b 4607182418800017408 = true then b else 0
theorem clean_any (b : Nat) (w : World) : Calls Try.prog 14 #[.float .f64 b] w fun e w' => e = .returned (.float .f64 (cleanF b)) ∧ w = w' := by
  cases c : fge b 0 with
  | false =>
    have c1 : (FloatKind.f64.format.order b 0 == some .gt || FloatKind.f64.format.order b 0 == some .eq) = false := c
    have H := Aside0.mk (show cleanF b = 0 from if_neg (by rw [c]; simp))
    clear c
    go_enter Try.func14, Try.ntmps14
    go_wp2
    go_ret
    exact ⟨ret_f H.out.symm, rfl⟩
  | true =>
    have c1 : (FloatKind.f64.format.order b 0 == some .gt || FloatKind.f64.format.order b 0 == some .eq) = true := c
    cases d : flt b 4607182418800017408 with
    | false =>
      have d1 : (FloatKind.f64.format.order b 4607182418800017408 == some .lt) = false := d
      have H := Aside0.mk (show cleanF b = 0 from if_neg (by rw [d]; simp))
      clear c d
      go_enter Try.func14, Try.ntmps14
      go_wp2
      go_ret
      exact ⟨ret_f H.out.symm, rfl⟩
    | true =>
      have d1 : (FloatKind.f64.format.order b 4607182418800017408 == some .lt) = true := d
      have H := Aside0.mk (show cleanF b = b from if_pos ⟨c, d⟩)
      clear c d
      go_enter Try.func14, Try.ntmps14
      go_wp2
      go_ret
      exact ⟨ret_f H.out.symm, rfl⟩
/-- a tape's draw at a place; how many were asked for behind it -/
def atF (xs : List Nat) (i : Int) : Nat := if 0 ≤ i ∧ i < xs.length then cleanF (xs.getD i.toNat 0) else 0
def readTo (r i : Int) : Int := if 0 ≤ i then (if r ≤ i then wrap64 (i + 1) else r) else r
theorem tape_read (b : Nat) (v : Value) (r : Int) (w : World) (hb : w.heap[b]? = some (.cells #[v, .int .i64 r] 47 (0, 0))) : Calls Try.prog 12 #[.pointer (some ⟨b, 0, none⟩)] w fun e w' => e = .returned (.int .i64 r) ∧ w = w' := by
  have h1 : w.cell? ⟨b, 1, none⟩ = some (.int .i64 r) := (blk_cell hb 1).trans rfl
  clear hb
  go_enter Try.func12, Try.ntmps12
  go_wp2
  go_ret
  exact ⟨rfl, rfl⟩
theorem tape_len (b n : Nat) (A : Option Addr) (c : Nat) (r : Int) (w : World) (hb : w.heap[b]? = some (.cells #[.slice A n c, .int .i64 r] 47 (0, 0))) : Calls Try.prog 13 #[.pointer (some ⟨b, 0, none⟩)] w fun e w' => e = .returned (.int .i64 n) ∧ w = w' := by
  have h1 : w.cell? ⟨b, 0, none⟩ = some (.slice A n c) := (blk_cell hb 0).trans rfl
  clear hb
  go_enter Try.func13, Try.ntmps13
  go_wp2
  go_ret
  exact ⟨rfl, rfl⟩
theorem nil_read (w : World) : Calls Try.prog 12 #[.pointer none] w fun e w' => e = .returned (.int .i64 0) ∧ w = w' := by
  go_enter Try.func12, Try.ntmps12
  go_wp2
  go_ret
  exact ⟨rfl, rfl⟩
theorem nil_len (w : World) : Calls Try.prog 13 #[.pointer none] w fun e w' => e = .returned (.int .i64 0) ∧ w = w' := by
  go_enter Try.func13, Try.ntmps13
  go_wp2
  go_ret
  exact ⟨rfl, rfl⟩
theorem nil_at (i : Int) (w : World) : Calls Try.prog 8 #[.pointer none, .int .i64 i] w fun e w' => e = .returned (.float .f64 0) ∧ w = w' := by
  go_enter Try.func8, Try.ntmps8
  go_wp2
  go_ret
  exact ⟨rfl, rfl⟩
theorem infoF : (Try.prog.info? 26).map (fun i => (i.zero, i.size, i.bytes)) = some (some (.float .f64 0), 1, 8) := by kernel_rfl
/-- the tape: its block, and its row -/
structure Tape (w : World) (base b : Nat) (xs : List Nat) (r : Int) : Prop where
  row : ∃ A c, w.heap[b]? = some (.cells #[.slice A xs.length c, .int .i64 r] 47 (0, 0)) ∧ FK.R 26 w base (fun j => j ≠ b) (.slice A xs.length c) xs
theorem Tape.below {w w1 : World} {base b : Nat} {xs : List Nat} {r : Int} (h : Tape w base b xs r) (hb : Below w.heap.size w w1) : Tape w1 base b xs r := by
  obtain ⟨A, c, h1, h2⟩ := h.row
  exact ⟨A, c, blk_below h1 hb, Kd.R_below h2 hb⟩
theorem Tape.put {w : World} {base b : Nat} {xs : List Nat} {r : Int} (h : Tape w base b xs r) (q : Int) : Tape (w.setCell ⟨b, 1, none⟩ (.int .i64 q)) base b xs q ∧ w.grownBy (w.setCell ⟨b, 1, none⟩ (.int .i64 q)) (some b) := by
  obtain ⟨A, c, h1, h2⟩ := h.row
  refine ⟨⟨A, c, blk_put h1 1 _ rfl, Kd.R_far h2 (fun k hk => hk) _⟩, ?_⟩
  exact ⟨rfl, rfl, rfl, by simp [World.setCell], fun i hi hne => Below.heap_setCell w _ _ i (by rintro rfl; exact hne rfl)⟩
set_option maxHeartbeats 1000000 in
theorem over_any (A : Option Addr) (c : Nat) (xs : List Nat) (w : World) (hr : FK.C w A xs.length xs) (hl : xs.length ≤ 1000000) :
    Calls Try.prog 7 #[.slice A xs.length c] w fun e w' => ∃ b : Nat, e = .returned (.pointer (some ⟨b, 0, none⟩)) ∧ Tape w' w.heap.size b xs 0 ∧ w.heap.size ≤ b ∧ b < w'.heap.size ∧ Below w.heap.size w w' := by
  have HR := Aside0.mk hr
  clear hr
  go_enter Try.func7, Try.ntmps7
  go_wp2_with (at_builtin; refine Kd.R_append_row (w0 := w) (Value.float .f64) 0 (h1 := fun _ => rfl) w.heap.size rfl (.const (.slice none 0 0)) (.tmp 3) 22 26 (.float .f64 0) 8 rfl Try.underlying22 infoF rfl (by decide) (.slice none 0 0) [] xs A xs.length c (fun _ => True) rfl rfl (fun _ _ => trivial) (Kd.R_nil _ _ _ _ _) HR.out (Below.refl _ _) (Nat.le_refl _) (by simp; omega) ?_; intro v1 w1 ho hb hg hat; rw [List.nil_append] at ho; obtain ⟨A1, c1, rfl⟩ := Kd.R_slice ho; have HO := Aside0.mk ho; have HB := Aside0.mk hb; clear ho hb hg hat)
  go_ret
  have ho := HO.out
  refine ⟨w1.heap.size, rfl, ⟨A1, c1, ?_, ?_⟩, HB.out.size, by simp, HB.out.alloc HB.out.size _⟩
  · have h := blk_new w1 (.cells #[.slice A1 xs.length c1, .int .i64 0] 47 (0, 0))
    simpa using h
  · exact Kd.R_alloc (Kd.R_mono (Kd.R_bound ho) (fun k hk => Nat.ne_of_lt hk.2.2.1)) _
theorem at_neg (b : Nat) (i : Int) (w : World) (hi : i < 0) : Calls Try.prog 8 #[.pointer (some ⟨b, 0, none⟩), .int .i64 i] w fun e w' => e = .returned (.float .f64 0) ∧ w = w' := by
  go_enter Try.func8, Try.ntmps8
  go_wp2
  go_ret
  exact ⟨rfl, rfl⟩
theorem at_old_far (base b : Nat) (xs : List Nat) (r i : Int) (w : World) (hT : Tape w base b xs r) (hi : 0 ≤ i) (h1 : i < r) (h2 : (xs.length : Int) ≤ i) :
    Calls Try.prog 8 #[.pointer (some ⟨b, 0, none⟩), .int .i64 i] w fun e w' => e = .returned (.float .f64 (0)) ∧ w' = w := by
  obtain ⟨A, c, hb, hR⟩ := hT.row
  have k0 : w.cell? ⟨b, 0, none⟩ = some (.slice A xs.length c) := (blk_cell hb 0).trans rfl
  have k1 : w.cell? ⟨b, 1, none⟩ = some (.int .i64 r) := (blk_cell hb 1).trans rfl
  have k2 := blk_frozen hb 1
  go_enter Try.func8, Try.ntmps8
  clear hb hR
  go_wp2
  go_ret
  exact ⟨rfl, rfl⟩
theorem at_old (base b : Nat) (xs : List Nat) (r i : Int) (w : World) (hT : Tape w base b xs r) (hi : 0 ≤ i) (h1 : i < r) (h2 : i < (xs.length : Int)) :
    Calls Try.prog 8 #[.pointer (some ⟨b, 0, none⟩), .int .i64 i] w fun e w' => e = .returned (.float .f64 (cleanF (xs.getD i.toNat 0))) ∧ w' = w := by
  obtain ⟨A, c, hb, hR⟩ := hT.row
  have k0 : w.cell? ⟨b, 0, none⟩ = some (.slice A xs.length c) := (blk_cell hb 0).trans rfl
  have k1 : w.cell? ⟨b, 1, none⟩ = some (.int .i64 r) := (blk_cell hb 1).trans rfl
  have k2 := blk_frozen hb 1
  obtain ⟨ad, hA, hx⟩ : ∃ ad, A = some ad ∧ w.cell? (ad.add i.toNat) = some (.float .f64 (xs.getD i.toNat 0)) := by
    have h := Kd.reads_of_C (enc := Value.float .f64) (d := (0 : Nat)) (h1 := fun _ => rfl) (Kd.R_reads' hR).2.2
    obtain ⟨ad, e, hc⟩ := h.2.2 (by omega)
    exact ⟨ad, e, hc _ (by omega)⟩
  subst hA
  have hadb : (ad.add i.toNat).block ≠ b := by
    rw [add_block]
    obtain ⟨g', cap, e, _⟩ := Kd.R_form hR (by omega)
    injection e with e1
    injection e1 with e1
    subst e1
    exact hR.1 g' rfl
  have hadb2 : ¬ b = (ad.add i.toNat).block := fun e => hadb e.symm
  generalize xs.getD i.toNat 0 = x at *
  go_enter Try.func8, Try.ntmps8
  clear hb hR
  go_wp2_with (go_at_call 14; refine (clean_any _ _).mono ?_; rintro e w' ⟨rfl, rfl⟩)
  go_ret
  exact ⟨rfl, rfl⟩
theorem at_new_far (base b : Nat) (xs : List Nat) (r i : Int) (w : World) (hT : Tape w base b xs r) (hi : 0 ≤ i) (h1 : r ≤ i) (h2 : (xs.length : Int) ≤ i) :
    Calls Try.prog 8 #[.pointer (some ⟨b, 0, none⟩), .int .i64 i] w fun e w' => e = .returned (.float .f64 (0)) ∧ w' = (w.setCell ⟨b, 1, none⟩ (.int .i64 i)).setCell ⟨b, 1, none⟩ (.int .i64 (wrap64 (i + 1))) := by
  obtain ⟨A, c, hb, hR⟩ := hT.row
  have k0 : w.cell? ⟨b, 0, none⟩ = some (.slice A xs.length c) := (blk_cell hb 0).trans rfl
  have k1 : w.cell? ⟨b, 1, none⟩ = some (.int .i64 r) := (blk_cell hb 1).trans rfl
  have k2 := blk_frozen hb 1
  go_enter Try.func8, Try.ntmps8
  clear hb hR
  go_wp2
  go_ret
  exact ⟨rfl, rfl⟩
theorem at_new (base b : Nat) (xs : List Nat) (r i : Int) (w : World) (hT : Tape w base b xs r) (hi : 0 ≤ i) (h1 : r ≤ i) (h2 : i < (xs.length : Int)) :
    Calls Try.prog 8 #[.pointer (some ⟨b, 0, none⟩), .int .i64 i] w fun e w' => e = .returned (.float .f64 (cleanF (xs.getD i.toNat 0))) ∧ w' = (w.setCell ⟨b, 1, none⟩ (.int .i64 i)).setCell ⟨b, 1, none⟩ (.int .i64 (wrap64 (i + 1))) := by
  obtain ⟨A, c, hb, hR⟩ := hT.row
  have k0 : w.cell? ⟨b, 0, none⟩ = some (.slice A xs.length c) := (blk_cell hb 0).trans rfl
  have k1 : w.cell? ⟨b, 1, none⟩ = some (.int .i64 r) := (blk_cell hb 1).trans rfl
  have k2 := blk_frozen hb 1
  obtain ⟨ad, hA, hx⟩ : ∃ ad, A = some ad ∧ w.cell? (ad.add i.toNat) = some (.float .f64 (xs.getD i.toNat 0)) := by
    have h := Kd.reads_of_C (enc := Value.float .f64) (d := (0 : Nat)) (h1 := fun _ => rfl) (Kd.R_reads' hR).2.2
    obtain ⟨ad, e, hc⟩ := h.2.2 (by omega)
    exact ⟨ad, e, hc _ (by omega)⟩
  subst hA
  have hadb : (ad.add i.toNat).block ≠ b := by
    rw [add_block]
    obtain ⟨g', cap, e, _⟩ := Kd.R_form hR (by omega)
    injection e with e1
    injection e1 with e1
    subst e1
    exact hR.1 g' rfl
  have hadb2 : ¬ b = (ad.add i.toNat).block := fun e => hadb e.symm
  have hx2 : ((w.setCell ⟨b, 1, none⟩ (.int .i64 i)).setCell ⟨b, 1, none⟩ (.int .i64 (wrap64 (i + 1)))).cell? (ad.add i.toNat) = some (.float .f64 (xs.getD i.toNat 0)) := by rw [cell_far hadb, cell_far hadb]; exact hx
  generalize xs.getD i.toNat 0 = x at *
  go_enter Try.func8, Try.ntmps8
  clear hb hR
  go_wp2_with (go_at_call 14; refine (clean_any _ _).mono ?_; rintro e w' ⟨rfl, rfl⟩)
  go_ret
  exact ⟨rfl, rfl⟩
theorem tape_at (base b : Nat) (xs : List Nat) (r i : Int) (w : World) (hT : Tape w base b xs r) :
    Calls Try.prog 8 #[.pointer (some ⟨b, 0, none⟩), .int .i64 i] w fun e w' => e = .returned (.float .f64 (atF xs i)) ∧ Tape w' base b xs (readTo r i) ∧ w.grownBy w' (some b) := by
  by_cases hi : i < 0
  · refine (at_neg b i w hi).mono fun e w' ⟨he, hw⟩ => ?_
    subst hw
    refine ⟨he.trans (ret_f ?_), ?_, World.grownBy.refl _ _⟩
    · unfold atF; rw [if_neg (by omega)]
    · unfold readTo; rw [if_neg (by omega)]; exact hT
  · have h0 : 0 ≤ i := by omega
    by_cases h1 : i < r
    · by_cases h2 : i < (xs.length : Int)
      · refine (at_old base b xs r i w hT h0 h1 h2).mono fun e w' ⟨he, hw⟩ => ?_
        subst hw
        refine ⟨he.trans (ret_f ?_), ?_, World.grownBy.refl _ _⟩
        · unfold atF; rw [if_pos ⟨h0, h2⟩]
        · unfold readTo; rw [if_pos h0, if_neg (by omega)]; exact hT
      · refine (at_old_far base b xs r i w hT h0 h1 (by omega)).mono fun e w' ⟨he, hw⟩ => ?_
        subst hw
        refine ⟨he.trans (ret_f ?_), ?_, World.grownBy.refl _ _⟩
        · unfold atF; rw [if_neg (fun z => h2 z.2)]
        · unfold readTo; rw [if_pos h0, if_neg (by omega)]; exact hT
    · have hp := (hT.put i)
      have hq := (hp.1.put (wrap64 (i + 1)))
      have hr : readTo r i = wrap64 (i + 1) := by unfold readTo; rw [if_pos h0, if_pos (by omega)]
      by_cases h2 : i < (xs.length : Int)
      · refine (at_new base b xs r i w hT h0 (by omega) h2).mono fun e w' ⟨he, hw⟩ => ?_
        subst hw
        refine ⟨he.trans (ret_f ?_), by rw [hr]; exact hq.1, World.grownBy.trans hp.2 hq.2⟩
        unfold atF; rw [if_pos ⟨h0, h2⟩]
      · refine (at_new_far base b xs r i w hT h0 (by omega) (by omega)).mono fun e w' ⟨he, hw⟩ => ?_
        subst hw
        refine ⟨he.trans (ret_f ?_), by rw [hr]; exact hq.1, World.grownBy.trans hp.2 hq.2⟩
        unfold atF; rw [if_neg (fun z => h2 z.2)]
theorem tape_at' (base b : Nat) (xs : List Nat) (r i : Int) (v : Nat) (q : Int) (w : World) (hT : Tape w base b xs r) (hv : atF xs i = v) (hq : readTo r i = q) :
    Calls Try.prog 8 #[.pointer (some ⟨b, 0, none⟩), .int .i64 i] w fun e w' => e = .returned (.float .f64 v) ∧ Tape w' base b xs q ∧ w.grownBy w' (some b) := by
  subst hv hq
  exact tape_at base b xs r i w hT
theorem reads_f3 {w : World} {b : Nat} {x y z : Nat} (h : w.heap[b]? = some (.cells #[.float .f64 x, .float .f64 y, .float .f64 z] 26 (0, 0))) : FK.C w (some ⟨b, 0, none⟩) [x, y, z].length [x, y, z] := by
  refine Kd.C_of_reads (enc := Value.float .f64) (d := (0 : Nat)) (h1 := fun _ => rfl) ⟨rfl, by simp, fun _ => ⟨_, rfl, fun j hj => ?_⟩⟩
  simp at hj
  rw [add_plain]
  match j, hj with
  | 0, _ => simp [World.cell?, h]
  | 1, _ => simp [World.cell?, h]
  | 2, _ => simp [World.cell?, h]
theorem grown_below {w W w1 : World} {b : Nat} (h : Below w.heap.size w W) (hg : W.grownBy w1 (some b)) (hb : w.heap.size ≤ b) : Below w.heap.size w w1 :=
  Below.grown h hg h.size (fun k hk => by injection hk with hk; omega)
def XS : List Nat := [4602678819172646912, 4607182418800017408, 4598175219545276416]
set_option maxHeartbeats 4000000 in
theorem awake06 (w : World) : Calls Try.prog 11 #[] w fun e w' => e = .returned (.bool true) ∧ Below w.heap.size w w' := by
  have o1 : (FloatKind.f64.format.order 4602678819172646912 4602678819172646912 == some .eq) = true := by decide +kernel
  have o2 : (FloatKind.f64.format.order 0 0 == some .eq) = true := by decide +kernel
  have o3 : (FloatKind.f64.format.order 4598175219545276416 4598175219545276416 == some .eq) = true := by decide +kernel
  go_enter Try.func11, Try.ntmps11
  go_wp2_with (first
    | (go_at_call 7; refine (over_any (some ⟨_, 0, none⟩) 3 XS _ ?hc (by decide)).mono ?_; (case hc => exact reads_f3 (by first | exact blk_new _ _ | exact blk_drew (blk_new _ _))); rintro e w1 ⟨b, rfl, hT1, hb0, hb00, hB1⟩; have T1 := Aside0.mk hT1; clear hT1)
    | (go_at_call 16; (with_reducible refine (need_any 2 3 4 0 288 0 _ (by decide +kernel)).mono ?_); rintro e w2 ⟨rfl, hB2⟩; have T2 := Aside0.mk (T1.out.below hB2))
    | (go_at_call 8; (with_reducible refine (tape_at' _ b XS 0 0 4602678819172646912 1 w2 T2.out (by decide +kernel) (by decide +kernel)).mono ?_); rintro e w3 ⟨rfl, hT3, hG3⟩; have T3 := Aside0.mk hT3; clear hT3)
    | (go_at_call 8; (with_reducible refine (tape_at' _ b XS 1 1 0 2 w3 T3.out (by decide +kernel) (by decide +kernel)).mono ?_); rintro e w4 ⟨rfl, hT4, hG4⟩; have T4 := Aside0.mk hT4; clear hT4)
    | (go_at_call 8; (with_reducible refine (tape_at' _ b XS 2 2 4598175219545276416 3 w4 T4.out (by decide +kernel) (by decide +kernel)).mono ?_); rintro e w5 ⟨rfl, hT5, hG5⟩; have T5 := Aside0.mk hT5; clear hT5)
    | (go_at_call 8; (with_reducible refine (tape_at' _ b XS 3 9 0 10 w5 T5.out (by decide +kernel) (by decide +kernel)).mono ?_); rintro e w6 ⟨rfl, hT6, hG6⟩; obtain ⟨A6, c6, hb6, _⟩ := hT6.row; have T6 := Aside0.mk hb6; clear hT6 hb6)
    | (go_at_call 12; (with_reducible refine (tape_read b _ 10 w6 T6.out).mono ?_); rintro e w' ⟨rfl, rfl⟩)
    | (go_at_call 13; (with_reducible refine (tape_len b _ _ _ 10 w6 T6.out).mono ?_); rintro e w' ⟨rfl, rfl⟩)
    | (go_at_call 20; (with_reducible refine (slot_any 2 4 0 1 1 2 3 171 w6 (by decide +kernel)).mono ?_); rintro e w7 ⟨rfl, hB7⟩))
  go_ret
  have hbw : w.heap.size ≤ b := Nat.le_trans (by simp) hb0
  exact ⟨rfl, below_thru (grown_below (grown_below (grown_below (grown_below (below_thru (below_thru (by go_grown) hB1) hB2) hG3 hbw) hG4 hbw) hG5 hbw) hG6 hbw) hB7⟩
end Go.Proofs.Ytedifkidnpaejaa.Gv
