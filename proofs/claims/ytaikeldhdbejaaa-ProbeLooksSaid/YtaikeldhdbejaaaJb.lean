/- package probe: count and what it counts, by hand. -/
import Derived.Test.YtaikeldhdbejaaaJa
namespace Go.Proofs.Ytaikeldhdbejaaa.Gv
open Go.RowKit Go.Proofs.YtaikeldhdbejaaaW.PrintWords Go.Proofs.YtaikeldhdbejaaaW.PrintLast Go.Proofs.YtaikeldhdbejaaaW.PrintMore
def cnt (P : Nat → Bool) : Nat → Nat
  | 0 => 0
  | j + 1 => cnt P j + (if P j = true then 1 else 0)
theorem cnt_le (P : Nat → Bool) : ∀ j, cnt P j ≤ j
  | 0 => Nat.le_refl _
  | j + 1 => by
    have := cnt_le P j
    rw [cnt]
    split <;> omega
theorem at_float {w : World} {A : Option Addr} {n : Nat} {xs : List Nat} (h : FK.C w A n xs) (i : Nat) (h1 : i < n) : ∃ ad, A = some ad ∧ w.cell? (ad.add i) = some (.float .f64 (xs.getD i 0)) := by
  obtain ⟨ad, e, hx⟩ := ReadsOf.at_ (Kd.reads_of_C (enc := Value.float .f64) (d := (0 : Nat)) (h1 := fun _ => rfl) h) (i : Int) (by omega) (by omega)
  rw [Int.toNat_natCast] at hx
  have e2 : rdOf 0 xs (i : Int) = xs.getD i 0 := by simp [rdOf]
  rw [e2] at hx
  exact ⟨ad, e, hx⟩
theorem at_i64 {w : World} {A : Option Addr} {n : Nat} {xs : List Int} (h : (Kd.int .i64).C w A n xs) (i : Nat) (h1 : i < n) : ∃ ad, A = some ad ∧ w.cell? (ad.add i) = some (.int .i64 (xs.getD i 0)) := by
  obtain ⟨ad, e, hx⟩ := Kd.at_int h (i : Int) (by omega) (by omega)
  rw [Int.toNat_natCast] at hx
  have e2 : rd xs (i : Int) = xs.getD i 0 := by simp [rd]
  rw [e2] at hx
  exact ⟨ad, e, hx⟩
set_option maxHeartbeats 2000000 in
theorem countD (P : Nat → Bool) (xs : List Nat) (A : Option Addr) (c : Nat) (p : Addr) (w : World) (hr : FK.C w A xs.length xs) (hl : xs.length ≤ 1000000) (hc : ∀ j, j < xs.length → Calls Try.prog 28 #[.int .i64 (j : Int), .float .f64 (xs.getD j 0), .pointer (some p)] w fun e w' => e = .returned (.bool (P j)) ∧ w = w') :
    Calls Try.prog 23 #[.slice A xs.length c, .func (.func 28) #[] #[.pointer (some p)]] w fun e w' => e = .returned (.int .i64 (cnt P xs.length : Int)) ∧ w = w' := by
  have HR := Aside0.mk hr
  have HC := Aside0.mk hc
  clear hr hc
  go_enter Try.func23, Try.ntmps23
  go_wp2
  go_loop [5, 10] (fun m i => ∃ j : Nat, j ≤ xs.length ∧ i = .int .i64 (j : Int) ∧ m = .int .i64 (cnt P j : Int)) (fun _ i => xs.length - (intOf i).toNat)
  case atStart => exact ⟨0, Nat.zero_le _, rfl, rfl⟩
  case round =>
    obtain ⟨j, hj, rfl, rfl⟩ := hrel
    have hcj := cnt_le P j
    by_cases hlt : j < xs.length
    · have z1 : (j : Int) < (xs.length : Int) := by omega
      obtain ⟨ad, rfl, hx⟩ := at_float HR.out j hlt
      have HCj := Aside0.mk (HC.out j hlt)
      have HS := Aside0.mk (show cnt P (j + 1) = cnt P j + (if P j = true then 1 else 0) from rfl)
      generalize xs.getD j 0 = x at *
      generalize cnt P j = q at *
      cases hP : P j with
      | true =>
        rw [hP] at HCj HS
        go_wp2_with (go_at_call 28; refine HCj.out.mono ?_; rintro y w1 ⟨rfl, rfl⟩)
        go_round
        case rel => exact ⟨j + 1, by omega, by go_num, by rw [HS.out]; go_num⟩
        case measure => simp [intOf]; omega
      | false =>
        rw [hP] at HCj HS
        go_wp2_with (go_at_call 28; refine HCj.out.mono ?_; rintro y w1 ⟨rfl, rfl⟩)
        go_round
        case rel => exact ⟨j + 1, by omega, by go_num, by rw [HS.out]; go_num⟩
        case measure => simp [intOf]; omega
    · have e : j = xs.length := by omega
      subst e
      go_wp2
      go_ret
      exact ⟨rfl, rfl⟩
set_option maxHeartbeats 2000000 in
theorem countG (P : Nat → Bool) (xs : List Nat) (A : Option Addr) (c : Nat) (w : World) (hr : FK.C w A xs.length xs) (hl : xs.length ≤ 1000000) (hc : ∀ j, j < xs.length → Calls Try.prog 24 #[.int .i64 (j : Int), .float .f64 (xs.getD j 0)] w fun e w' => e = .returned (.bool (P j)) ∧ w = w') :
    Calls Try.prog 23 #[.slice A xs.length c, .func (.func 24) #[] #[]] w fun e w' => e = .returned (.int .i64 (cnt P xs.length : Int)) ∧ w = w' := by
  have HR := Aside0.mk hr
  have HC := Aside0.mk hc
  clear hr hc
  go_enter Try.func23, Try.ntmps23
  go_wp2
  go_loop [5, 10] (fun m i => ∃ j : Nat, j ≤ xs.length ∧ i = .int .i64 (j : Int) ∧ m = .int .i64 (cnt P j : Int)) (fun _ i => xs.length - (intOf i).toNat)
  case atStart => exact ⟨0, Nat.zero_le _, rfl, rfl⟩
  case round =>
    obtain ⟨j, hj, rfl, rfl⟩ := hrel
    have hcj := cnt_le P j
    by_cases hlt : j < xs.length
    · have z1 : (j : Int) < (xs.length : Int) := by omega
      obtain ⟨ad, rfl, hx⟩ := at_float HR.out j hlt
      have HCj := Aside0.mk (HC.out j hlt)
      have HS := Aside0.mk (show cnt P (j + 1) = cnt P j + (if P j = true then 1 else 0) from rfl)
      generalize xs.getD j 0 = x at *
      generalize cnt P j = q at *
      cases hP : P j with
      | true =>
        rw [hP] at HCj HS
        go_wp2_with (go_at_call 24; refine HCj.out.mono ?_; rintro y w1 ⟨rfl, rfl⟩)
        go_round
        case rel => exact ⟨j + 1, by omega, by go_num, by rw [HS.out]; go_num⟩
        case measure => simp [intOf]; omega
      | false =>
        rw [hP] at HCj HS
        go_wp2_with (go_at_call 24; refine HCj.out.mono ?_; rintro y w1 ⟨rfl, rfl⟩)
        go_round
        case rel => exact ⟨j + 1, by omega, by go_num, by rw [HS.out]; go_num⟩
        case measure => simp [intOf]; omega
    · have e : j = xs.length := by omega
      subst e
      go_wp2
      go_ret
      exact ⟨rfl, rfl⟩
set_option maxHeartbeats 2000000 in
theorem countI (P : Nat → Bool) (xs : List Int) (A : Option Addr) (c : Nat) (w : World) (hr : (Kd.int .i64).C w A xs.length xs) (hl : xs.length ≤ 1000000) (hc : ∀ j, j < xs.length → Calls Try.prog 26 #[.int .i64 (j : Int), .int .i64 (xs.getD j 0)] w fun e w' => e = .returned (.bool (P j)) ∧ w = w') :
    Calls Try.prog 25 #[.slice A xs.length c, .func (.func 26) #[] #[]] w fun e w' => e = .returned (.int .i64 (cnt P xs.length : Int)) ∧ w = w' := by
  have HR := Aside0.mk hr
  have HC := Aside0.mk hc
  clear hr hc
  go_enter Try.func25, Try.ntmps25
  go_wp2
  go_loop [5, 10] (fun m i => ∃ j : Nat, j ≤ xs.length ∧ i = .int .i64 (j : Int) ∧ m = .int .i64 (cnt P j : Int)) (fun _ i => xs.length - (intOf i).toNat)
  case atStart => exact ⟨0, Nat.zero_le _, rfl, rfl⟩
  case round =>
    obtain ⟨j, hj, rfl, rfl⟩ := hrel
    have hcj := cnt_le P j
    by_cases hlt : j < xs.length
    · have z1 : (j : Int) < (xs.length : Int) := by omega
      obtain ⟨ad, rfl, hx⟩ := at_i64 HR.out j hlt
      have HCj := Aside0.mk (HC.out j hlt)
      have HS := Aside0.mk (show cnt P (j + 1) = cnt P j + (if P j = true then 1 else 0) from rfl)
      generalize xs.getD j 0 = x at *
      generalize cnt P j = q at *
      cases hP : P j with
      | true =>
        rw [hP] at HCj HS
        go_wp2_with (go_at_call 26; refine HCj.out.mono ?_; rintro y w1 ⟨rfl, rfl⟩)
        go_round
        case rel => exact ⟨j + 1, by omega, by go_num, by rw [HS.out]; go_num⟩
        case measure => simp [intOf]; omega
      | false =>
        rw [hP] at HCj HS
        go_wp2_with (go_at_call 26; refine HCj.out.mono ?_; rintro y w1 ⟨rfl, rfl⟩)
        go_round
        case rel => exact ⟨j + 1, by omega, by go_num, by rw [HS.out]; go_num⟩
        case measure => simp [intOf]; omega
    · have e : j = xs.length := by omega
      subst e
      go_wp2
      go_ret
      exact ⟨rfl, rfl⟩
theorem differ1_any (g : Nat) (W H : Int) (A : Option Addr) (c : Nat) (ys : List Nat) (AD : Option Addr) (nD cD : Nat) (i x : Nat) (w : World) (hb : w.heap[g]? = some (.cells #[.int .i64 W, .int .i64 H, .slice A ys.length c, .slice AD nD cD] 25 (0, 0))) (hr : FK.C w A ys.length ys) (hi : i < ys.length) :
    Calls Try.prog 28 #[.int .i64 (i : Int), .float .f64 x, .pointer (some ⟨g, 0, none⟩)] w fun e w' => e = .returned (.bool (FloatKind.f64.format.order x (ys.getD i 0) != some .eq)) ∧ w = w' := by
  obtain ⟨k0, k1, k2, k3⟩ := pic_cells hb
  obtain ⟨ad, rfl, hx⟩ := at_float hr i hi
  have z1 : (i : Int) < (ys.length : Int) := by omega
  generalize ys.getD i 0 = y at *
  clear hb hr
  go_enter Try.func28, Try.ntmps28
  go_wp2
  go_ret
  exact ⟨rfl, rfl⟩
def badX (x : Nat) : Bool := !(FloatKind.f64.format.order x 0 == some .gt || FloatKind.f64.format.order x 0 == some .eq) || !isNum x
theorem good1_any (i : Int) (x : Nat) (w : World) :
    Calls Try.prog 24 #[.int .i64 i, .float .f64 x] w fun e w' => e = .returned (.bool (badX x)) ∧ w = w' := by
  have HN := Aside0.mk (vnum_any x)
  unfold badX
  cases c1 : (FloatKind.f64.format.order x 0 == some .gt || FloatKind.f64.format.order x 0 == some .eq) with
  | false =>
    go_enter Try.func24, Try.ntmps24
    go_wp2
    go_ret
    exact ⟨rfl, rfl⟩
  | true =>
    generalize isNum x = b at *
    go_enter Try.func24, Try.ntmps24
    go_wp2_with (go_at_call 20; refine (HN.out _).mono ?_; rintro y w1 ⟨rfl, rfl⟩)
    go_ret
    exact ⟨by first | rfl | simp, rfl⟩
theorem good2_any (i k : Int) (w : World) :
    Calls Try.prog 26 #[.int .i64 i, .int .i64 k] w fun e w' => e = .returned (.bool (decide (k < 0))) ∧ w = w' := by
  go_enter Try.func26, Try.ntmps26
  go_wp2
  go_ret
  exact ⟨rfl, rfl⟩
def difP (xs ys : List Nat) (j : Nat) : Bool := FloatKind.f64.format.order (xs.getD j 0) (ys.getD j 0) != some .eq
/-- what probe.Differ answers -/
def difV (W H W2 H2 : Int) (xs ys : List Nat) : Int × Int := if W = W2 ∧ H = H2 ∧ xs.length = ys.length then ((cnt (difP xs ys) xs.length : Int), 0) else (0, 14)
set_option maxHeartbeats 2000000 in
theorem differ_any (W H : Int) (xs : List Nat) (AL : Option Addr) (cL : Nat) (AD : Option Addr) (nD cD : Nat) (W2 H2 : Int) (ys : List Nat) (AL2 : Option Addr) (cL2 : Nat) (AD2 : Option Addr) (nD2 cD2 : Nat) (w : World) (hr : FK.C w AL xs.length xs) (hr2 : FK.C w AL2 ys.length ys) (hl : xs.length ≤ 1000000) :
    Calls Try.prog 14 #[.agg #[.int .i64 W, .int .i64 H, .slice AL xs.length cL, .slice AD nD cD], .agg #[.int .i64 W2, .int .i64 H2, .slice AL2 ys.length cL2, .slice AD2 nD2 cD2]] w fun e w' => e = .returned (.tuple #[.int .i64 (difV W H W2 H2 xs ys).1, .int .i64 (difV W H W2 H2 xs ys).2]) ∧ Below w.heap.size w w' := by
  have hu := Try.underlying25
  have b1 := blk_new w (.cells #[.int .i64 W, .int .i64 H, .slice AL xs.length cL, .slice AD nD cD] 25)
  have hB := Below.alloc (Below.refl w.heap.size w) (Nat.le_refl _) (.cells #[.int .i64 W, .int .i64 H, .slice AL xs.length cL, .slice AD nD cD] 25)
  have b2 := blk_new (w.alloc (.cells #[.int .i64 W, .int .i64 H, .slice AL xs.length cL, .slice AD nD cD] 25)) (.cells #[.int .i64 W2, .int .i64 H2, .slice AL2 ys.length cL2, .slice AD2 nD2 cD2] 25)
  have b3 := blk_alloc b1 (.cells #[.int .i64 W2, .int .i64 H2, .slice AL2 ys.length cL2, .slice AD2 nD2 cD2] 25)
  have hB2 := Below.alloc hB hB.size (.cells #[.int .i64 W2, .int .i64 H2, .slice AL2 ys.length cL2, .slice AD2 nD2 cD2] 25)
  have hsz : (w.alloc (.cells #[.int .i64 W, .int .i64 H, .slice AL xs.length cL, .slice AD nD cD] 25)).heap.size = w.heap.size + 1 := by simp
  rw [hsz] at b2
  have HB2 := Aside0.mk b2
  have HB3 := Aside0.mk b3
  have HBel := Aside0.mk hB2
  have HR := Aside0.mk hr
  have HR2 := Aside0.mk hr2
  obtain ⟨k0, k1, k2, k3⟩ := pic_cells b3
  obtain ⟨j0, j1, j2, j3⟩ := pic_cells b2
  clear b1 b2 b3 hB hsz hB2 hr hr2
  by_cases hc : W = W2 ∧ H = H2 ∧ xs.length = ys.length
  · have HV := Aside0.mk (show difV W H W2 H2 xs ys = ((cnt (difP xs ys) xs.length : Int), 0) from if_pos hc)
    have HA := Aside0.mk (alike_any W H AL xs.length cL AD nD cD W2 H2 AL2 ys.length cL2 AD2 nD2 cD2)
    rw [decide_eq_true hc] at HA
    have HL := Aside0.mk hc.2.2
    clear hc
    go_enter Try.func14, Try.ntmps14
    go_wp2_with (first
      | (go_at_call 27; refine (HA.out _).mono ?_; rintro x w1 ⟨rfl, hb1⟩; have HB4 := Aside0.mk (blk_below HB2.out hb1); have HBel1 := Aside0.mk (below_then HBel.out HBel.out.size hb1); obtain ⟨k0, k1, k2, k3⟩ := pic_cells (blk_below HB3.out hb1); clear hb1)
      | (go_at_call 23; refine (countD (difP xs ys) xs AL cL ⟨w.heap.size + 1, 0, none⟩ _ (Kd.C_below HR.out HBel1.out) hl (fun j hj => differ1_any _ W2 H2 AL2 cL2 ys AD2 nD2 cD2 j _ _ HB4.out (Kd.C_below HR2.out HBel1.out) (by have h := HL.out; omega))).mono ?_; rintro x w2 ⟨rfl, rfl⟩))
    go_ret2
    exact ⟨by rw [HV.out]; rfl, HBel1.out⟩
  · have HV := Aside0.mk (show difV W H W2 H2 xs ys = (0, 14) from if_neg hc)
    have HA := Aside0.mk (alike_any W H AL xs.length cL AD nD cD W2 H2 AL2 ys.length cL2 AD2 nD2 cD2)
    rw [decide_eq_false hc] at HA
    clear hc
    go_enter Try.func14, Try.ntmps14
    go_wp2_with (first
      | (go_at_call 27; refine (HA.out _).mono ?_; rintro x w1 ⟨rfl, hb1⟩; have HBel1 := Aside0.mk (below_then HBel.out HBel.out.size hb1); clear hb1))
    go_ret2
    exact ⟨by rw [HV.out]; rfl, HBel1.out⟩
end Go.Proofs.Ytaikeldhdbejaaa.Gv
