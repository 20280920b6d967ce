/- package probe: Apart, Look, by hand. -/
import Derived.Test.YtaikeldhdbejaaaJc
import Derived.Test.YtaikeldhdbejaaaIn
namespace Go.Proofs.Ytaikeldhdbejaaa.Gv
open Go.RowKit Go.Proofs.YtaikeldhdbejaaaW.PrintWords Go.Proofs.YtaikeldhdbejaaaW.PrintLast Go.Proofs.YtaikeldhdbejaaaW.PrintMore
attribute [local go_sem] max2_int min2_int max_two min_two max_three min_three
/-- how far the first j numbers are apart -/
def amx (xs ys : List Nat) : Nat → Nat
  | 0 => 0
  | j + 1 => if isNum (xs.getD j 0) && isNum (ys.getD j 0) then fmax (fmax (amx xs ys j) (sb (xs.getD j 0) (ys.getD j 0))) (sb (ys.getD j 0) (xs.getD j 0)) else amx xs ys j
theorem amx_not (xs ys : List Nat) : ∀ j, notNan (amx xs ys j)
  | 0 => zero_not
  | j + 1 => by
    rw [amx]
    cases h1 : isNum (xs.getD j 0) with
    | false => exact amx_not xs ys j
    | true =>
      cases h2 : isNum (ys.getD j 0) with
      | false => exact amx_not xs ys j
      | true => exact fmax_not (fmax_not (amx_not xs ys j) (sub_ok h1 h2).2) (sub_ok h2 h1).2
def apV (W H W2 H2 : Int) (xs ys : List Nat) : Nat × Int := if W = W2 ∧ H = H2 ∧ xs.length = ys.length then (amx xs ys xs.length, 0) else (0, 14)
set_option maxHeartbeats 8000000 in
theorem apart_any (W H : Int) (xs : List Nat) (AL : Option Addr) (cL : Nat) (AD : Option Addr) (nD cD : Nat) (W2 H2 : Int) (ys : List Nat) (AL2 : Option Addr) (cL2 : Nat) (AD2 : Option Addr) (nD2 cD2 : Nat) (w : World) (hr : FK.C w AL xs.length xs) (hr2 : FK.C w AL2 ys.length ys) (hl : xs.length ≤ 1000000) :
    Calls Try.prog 15 #[.agg #[.int .i64 W, .int .i64 H, .slice AL xs.length cL, .slice AD nD cD], .agg #[.int .i64 W2, .int .i64 H2, .slice AL2 ys.length cL2, .slice AD2 nD2 cD2]] w fun e w' => e = .returned (.tuple #[.float .f64 (apV W H W2 H2 xs ys).1, .int .i64 (apV W H W2 H2 xs ys).2]) ∧ Below w.heap.size w w' := by
  have hu := Try.underlying25
  have b1 := blk_new w (.cells #[.int .i64 W, .int .i64 H, .slice AL xs.length cL, .slice AD nD cD] 25)
  have hB := Below.alloc (Below.refl w.heap.size w) (Nat.le_refl _) (.cells #[.int .i64 W, .int .i64 H, .slice AL xs.length cL, .slice AD nD cD] 25)
  have b2 := blk_new (w.alloc (.cells #[.int .i64 W, .int .i64 H, .slice AL xs.length cL, .slice AD nD cD] 25)) (.cells #[.int .i64 W2, .int .i64 H2, .slice AL2 ys.length cL2, .slice AD2 nD2 cD2] 25)
  have b3 := blk_alloc b1 (.cells #[.int .i64 W2, .int .i64 H2, .slice AL2 ys.length cL2, .slice AD2 nD2 cD2] 25)
  have hB2 := Below.alloc hB hB.size (.cells #[.int .i64 W2, .int .i64 H2, .slice AL2 ys.length cL2, .slice AD2 nD2 cD2] 25)
  have hsz : (w.alloc (.cells #[.int .i64 W, .int .i64 H, .slice AL xs.length cL, .slice AD nD cD] 25)).heap.size = w.heap.size + 1 := by simp
  rw [hsz] at b2
  have HB2 := Aside0.mk b2
  have HB3 := Aside0.mk b3
  have HBel := Aside0.mk hB2
  have HR := Aside0.mk hr
  have HR2 := Aside0.mk hr2
  obtain ⟨k0, k1, k2, k3⟩ := pic_cells b3
  obtain ⟨j0, j1, j2, j3⟩ := pic_cells b2
  clear b1 b2 b3 hB hsz hB2 hr hr2
  by_cases hc : W = W2 ∧ H = H2 ∧ xs.length = ys.length
  · have HV := Aside0.mk (show apV W H W2 H2 xs ys = (amx xs ys xs.length, 0) from if_pos hc)
    have HA := Aside0.mk (alike_any W H AL xs.length cL AD nD cD W2 H2 AL2 ys.length cL2 AD2 nD2 cD2)
    rw [decide_eq_true hc] at HA
    have HL := Aside0.mk hc.2.2
    clear hc
    go_enter Try.func15, Try.ntmps15
    go_wp2_with (first
      | (go_at_call 27; refine (HA.out _).mono ?_; rintro x w1 ⟨rfl, hb1⟩; have HB4 := Aside0.mk (blk_below HB2.out hb1); have HBel1 := Aside0.mk (below_then HBel.out HBel.out.size hb1); have hp1 := pic_cells (blk_below HB3.out hb1); obtain ⟨k0, k1, k2, k3⟩ := hp1; obtain ⟨j0, j1, j2, j3⟩ := pic_cells HB4.out; clear hb1))
    go_loop [6, 17] (fun m i => ∃ j : Nat, j ≤ xs.length ∧ i = .int .i64 (j : Int) ∧ m = .float .f64 (amx xs ys j)) (fun _ i => xs.length - (intOf i).toNat)
    case atStart => exact ⟨0, Nat.zero_le _, rfl, rfl⟩
    case round =>
      obtain ⟨j, hj, rfl, rfl⟩ := hrel
      by_cases hlt : j < xs.length
      · have z1 : (j : Int) < (xs.length : Int) := by omega
        have z2 : (j : Int) < (ys.length : Int) := by have h := HL.out; omega
        obtain ⟨ad, rfl, hx⟩ := at_float (Kd.C_below HR.out HBel1.out) j hlt
        obtain ⟨ae, rfl, hy⟩ := at_float (Kd.C_below HR2.out HBel1.out) j (by have h := HL.out; omega)
        have hn := amx_not xs ys j
        have HS := Aside0.mk (show amx xs ys (j + 1) = if isNum (xs.getD j 0) && isNum (ys.getD j 0) then fmax (fmax (amx xs ys j) (sb (xs.getD j 0) (ys.getD j 0))) (sb (ys.getD j 0) (xs.getD j 0)) else amx xs ys j from rfl)
        generalize xs.getD j 0 = x at *
        generalize ys.getD j 0 = y at *
        generalize amx xs ys j = m at *
        have HNx := Aside0.mk (vnum_any x)
        have HNy := Aside0.mk (vnum_any y)
        cases h1 : isNum x with
        | false =>
          rw [h1] at HNx HS
          clear h1 hn
          go_wp2_with (first
            | (go_at_call 20; with_reducible refine (HNx.out _).mono ?_; rintro q w2 ⟨rfl, rfl⟩)
            | (go_at_call 20; with_reducible refine (HNy.out _).mono ?_; rintro q w2 ⟨rfl, rfl⟩))
          go_round
          case rel => exact ⟨j + 1, by omega, by go_num, by rw [HS.out]; rfl⟩
          case measure => simp [intOf]; omega
        | true =>
          cases h2 : isNum y with
          | false =>
            rw [h1] at HNx HS
            rw [h2] at HNy HS
            clear h1 h2 hn
            go_wp2_with (first
              | (go_at_call 20; with_reducible refine (HNx.out _).mono ?_; rintro q w2 ⟨rfl, rfl⟩)
              | (go_at_call 20; with_reducible refine (HNy.out _).mono ?_; rintro q w2 ⟨rfl, rfl⟩))
            go_round
            case rel => exact ⟨j + 1, by omega, by go_num, by rw [HS.out]; rfl⟩
            case measure => simp [intOf]; omega
          | true =>
            have s1 := fun w => run_float_arith (P := Try.prog) w .sub 26 .f64 x y _ (sub_ok h1 h2).1
            have s2 := fun w => run_float_arith (P := Try.prog) w .sub 26 .f64 y x _ (sub_ok h2 h1).1
            have f1 := fmax_run (order_not hn (sub_ok h1 h2).2)
            have f2 := fmax_run (order_not (fmax_not hn (sub_ok h1 h2).2) (sub_ok h2 h1).2)
            rw [h1] at HNx HS
            rw [h2] at HNy HS
            clear h1 h2 hn
            go_wp2_with (first
              | (go_at_call 20; with_reducible refine (HNx.out _).mono ?_; rintro q w2 ⟨rfl, rfl⟩)
              | (go_at_call 20; with_reducible refine (HNy.out _).mono ?_; rintro q w2 ⟨rfl, rfl⟩))
            go_round
            case rel => exact ⟨j + 1, by omega, by go_num, by rw [HS.out]; rfl⟩
            case measure => simp [intOf]; omega
      · have e : j = xs.length := by omega
        subst e
        go_wp2
        go_ret2
        exact ⟨by rw [HV.out]; rfl, HBel1.out⟩
  · have HV := Aside0.mk (show apV W H W2 H2 xs ys = (0, 14) from if_neg hc)
    have HA := Aside0.mk (alike_any W H AL xs.length cL AD nD cD W2 H2 AL2 ys.length cL2 AD2 nD2 cD2)
    rw [decide_eq_false hc] at HA
    clear hc
    go_enter Try.func15, Try.ntmps15
    go_wp2_with (first
      | (go_at_call 27; refine (HA.out _).mono ?_; rintro x w1 ⟨rfl, hb1⟩; have HBel1 := Aside0.mk (below_then HBel.out HBel.out.size hb1); clear hb1))
    go_ret2
    exact ⟨by rw [HV.out]; rfl, HBel1.out⟩
end Go.Proofs.Ytaikeldhdbejaaa.Gv
