/- the document's Apart, by hand. -/
import Derived.Test.YtaikeldhdbejaaaJh
import Derived.Test.YtaikeldhdbejaaaFu
namespace Go.Proofs.Ytaikeldhdbejaaa.Gv
open Go.RowKit Go.Proofs.YtaikeldhdbejaaaW.PrintWords Go.Proofs.YtaikeldhdbejaaaW.PrintLast Go.Proofs.YtaikeldhdbejaaaW.PrintMore
theorem amx_le (xs ys : List Nat) : ∀ j, amx xs ys j ≤ 9218868437227405312
  | 0 => by rw [amx]; omega
  | j + 1 => by
    rw [amx]
    cases h1 : isNum (xs.getD j 0) with
    | false => exact amx_le xs ys j
    | true =>
      cases h2 : isNum (ys.getD j 0) with
      | false => exact amx_le xs ys j
      | true => exact (dist_max h1 h2 (amx_le xs ys j)).2.1
theorem sub_some_not {x y r : Nat} (h : FloatKind.f64.format.sub x y = some r) : notNan r := by
  unfold Ieee.Format.sub at h
  cases e : FloatKind.f64.format.read x with
  | nan => rw [e] at h; cases e2 : FloatKind.f64.format.read y <;> rw [e2] at h <;> cases h
  | infinity s =>
    rw [e] at h
    cases e2 : FloatKind.f64.format.read y with
    | nan => rw [e2] at h; cases h
    | infinity t => 
      rw [e2] at h
      cases s <;> cases t <;> simp [Ieee.Datum.opposite, Ieee.Datum.sum] at h <;> (rw [← h]; exact write_inf _)
    | number t n j =>
      rw [e2] at h
      simp only [Ieee.Datum.opposite, Ieee.Datum.sum, Option.map_some] at h
      injection h with h
      rw [← h]
      exact write_inf _
  | number s m i =>
    rw [e] at h
    cases e2 : FloatKind.f64.format.read y with
    | nan => rw [e2] at h; cases h
    | infinity t =>
      rw [e2] at h
      simp only [Ieee.Datum.opposite, Ieee.Datum.sum, Option.map_some] at h
      injection h with h
      rw [← h]
      exact write_inf _
    | number t n j =>
      rw [e2] at h
      simp only [Ieee.Datum.opposite, Ieee.Datum.sum, Option.map_some] at h
      injection h with h
      rw [← h]
      exact write_ok _ rfl
theorem sub0_some {r : Nat} (h : notNan r) : ∃ z, FloatKind.f64.format.sub 0 r = some z := by
  unfold notNan at h
  unfold Ieee.Format.sub
  rw [read_zero]
  cases e : FloatKind.f64.format.read r with
  | nan => rw [e] at h; cases h
  | infinity s => exact ⟨_, rfl⟩
  | number s m i => exact ⟨_, rfl⟩
set_option maxHeartbeats 16000000 in
theorem rapart_any (xs ys : List Nat) (AL : Option Addr) (cL : Nat) (AL2 : Option Addr) (cL2 : Nat) (w : World) (hr : FK.C w AL xs.length xs) (hr2 : FK.C w AL2 ys.length ys) (he : xs.length = ys.length) (hl : xs.length ≤ 1000000) :
    Calls Try.prog 16 #[.slice AL xs.length cL, .slice AL2 ys.length cL2] w fun e w' => e = .returned (.tuple #[.int .i64 (cnt (difP xs ys) xs.length : Int), .float .f64 (amx xs ys xs.length)]) ∧ Below w.heap.size w w' := by
  have HR := Aside0.mk hr
  have HR2 := Aside0.mk hr2
  have HL := Aside0.mk he
  clear hr hr2 he
  go_enter Try.func16, Try.ntmps16
  go_wp2
  go_loopw [6, 7, 8] (fun n m i wr => ∃ j : Nat, j ≤ xs.length ∧ i = .int .i64 (j : Int) ∧ n = .int .i64 (cnt (difP xs ys) j : Int) ∧ m = .float .f64 (amx xs ys j) ∧ Aside0 (Below w.heap.size w wr)) (fun _ _ i _ => xs.length - (intOf i).toNat)
  case atStart => exact ⟨0, Nat.zero_le _, rfl, rfl, rfl, ⟨Below.refl _ _⟩⟩
  case round =>
    obtain ⟨j, hj, rfl, rfl, rfl, HB⟩ := hrel
    by_cases hlt : j < xs.length
    · have z1 : (j : Int) < (xs.length : Int) := by omega
      have z2 : (j : Int) < (ys.length : Int) := by have h := HL.out; omega
      obtain ⟨ad, rfl, hx⟩ := at_float (Kd.C_below HR.out HB.out) j hlt
      obtain ⟨ae, rfl, hy⟩ := at_float (Kd.C_below HR2.out HB.out) j (by have h := HL.out; omega)
      have hcj := cnt_le (difP xs ys) j
      have HM := Aside0.mk (amx_le xs ys j)
      have HC := Aside0.mk (show cnt (difP xs ys) (j + 1) = cnt (difP xs ys) j + (if difP xs ys j = true then 1 else 0) from rfl)
      have HD := Aside0.mk (show difP xs ys j = (FloatKind.f64.format.order (xs.getD j 0) (ys.getD j 0) != some .eq) from rfl)
      have HS := Aside0.mk (show amx xs ys (j + 1) = if isNum (xs.getD j 0) && isNum (ys.getD j 0) then fmax (fmax (amx xs ys j) (sb (xs.getD j 0) (ys.getD j 0))) (sb (ys.getD j 0) (xs.getD j 0)) else amx xs ys j from rfl)
      generalize xs.getD j 0 = x at *
      generalize ys.getD j 0 = y at *
      generalize amx xs ys j = m at *
      generalize cnt (difP xs ys) j = k at *
      rw [HD.out] at HC
      have HNx := Aside0.mk (rnum_any x)
      have HNy := Aside0.mk (rnum_any y)
      clear HD
      have hbne (a b : Option Ordering) : (a != b) = !(a == b) := rfl
      rw [hbne] at HC
      clear hbne
      cases hq : (FloatKind.f64.format.order x y == some .eq) with
      | true =>
        rw [hq] at HC
        cases h1 : isNum x with
        | true =>
          cases h2 : isNum y with
          | true =>
            have s1 := fun w => run_float_arith (P := Try.prog) w .sub 26 .f64 x y _ (sub_ok h1 h2).1
            have hD := (dist_max h1 h2 HM.out).1
            rw [h1, h2, Bool.and_self, if_pos rfl, hD] at HS
            rw [h1] at HNx
            rw [h2] at HNy
            have hn := (sub_ok h1 h2).2
            unfold dist at HS
            clear h1 h2 hD
            generalize sb x y = d at *
            cases h3 : flt d 0 with
            | true =>
              obtain ⟨z, hz⟩ := sub0_some hn
              have s2 := fun w => run_float_arith (P := Try.prog) w .sub 26 .f64 0 d _ hz
              rw [h3, if_pos rfl, hz, Option.getD_some] at HS
              have d1 : (FloatKind.f64.format.order d 0 == some .lt) = true := h3
              clear h3 hz hn
              cases h4 : fgt z m with
              | true =>
                have d2 : (FloatKind.f64.format.order z m == some .gt) = true := h4
                rw [h4, if_pos rfl] at HS
                clear h4
                go_wp2
                go_region
                go_wp2
                go_region
                go_wp2_with (first
                  | (go_at_call 10; with_reducible refine (HNx.out _).mono ?_; rintro q w2 ⟨rfl, m2, rfl⟩)
                  | (go_at_call 10; with_reducible refine (HNy.out _).mono ?_; rintro q w3 ⟨rfl, m3, rfl⟩))
                go_roundw
                case rel => exact ⟨j + 1, by omega, by go_num, by rw [HC.out]; go_num, by rw [HS.out], ⟨by first | exact below_drew HB.out | (refine pw_below_drewN ?_ _; exact below_drew HB.out) | (repeat (first | exact HB.out | apply pw_below_drewN | apply below_drew))⟩⟩
                case measure => simp [intOf]; omega
              | false =>
                have d2 : (FloatKind.f64.format.order z m == some .gt) = false := h4
                rw [h4, if_neg Bool.false_ne_true] at HS
                clear h4
                go_wp2
                go_region
                go_wp2
                go_region
                go_wp2_with (first
                  | (go_at_call 10; with_reducible refine (HNx.out _).mono ?_; rintro q w2 ⟨rfl, m2, rfl⟩)
                  | (go_at_call 10; with_reducible refine (HNy.out _).mono ?_; rintro q w3 ⟨rfl, m3, rfl⟩))
                go_roundw
                case rel => exact ⟨j + 1, by omega, by go_num, by rw [HC.out]; go_num, by rw [HS.out], ⟨by first | exact below_drew HB.out | (refine pw_below_drewN ?_ _; exact below_drew HB.out) | (repeat (first | exact HB.out | apply pw_below_drewN | apply below_drew))⟩⟩
                case measure => simp [intOf]; omega
            | false =>
              rw [h3, if_neg Bool.false_ne_true] at HS
              have d1 : (FloatKind.f64.format.order d 0 == some .lt) = false := h3
              clear h3 hn
              cases h4 : fgt d m with
              | true =>
                have d2 : (FloatKind.f64.format.order d m == some .gt) = true := h4
                rw [h4, if_pos rfl] at HS
                clear h4
                go_wp2
                go_region
                go_wp2
                go_region
                go_wp2_with (first
                  | (go_at_call 10; with_reducible refine (HNx.out _).mono ?_; rintro q w2 ⟨rfl, m2, rfl⟩)
                  | (go_at_call 10; with_reducible refine (HNy.out _).mono ?_; rintro q w3 ⟨rfl, m3, rfl⟩))
                go_roundw
                case rel => exact ⟨j + 1, by omega, by go_num, by rw [HC.out]; go_num, by rw [HS.out], ⟨by first | exact below_drew HB.out | (refine pw_below_drewN ?_ _; exact below_drew HB.out) | (repeat (first | exact HB.out | apply pw_below_drewN | apply below_drew))⟩⟩
                case measure => simp [intOf]; omega
              | false =>
                have d2 : (FloatKind.f64.format.order d m == some .gt) = false := h4
                rw [h4, if_neg Bool.false_ne_true] at HS
                clear h4
                go_wp2
                go_region
                go_wp2
                go_region
                go_wp2_with (first
                  | (go_at_call 10; with_reducible refine (HNx.out _).mono ?_; rintro q w2 ⟨rfl, m2, rfl⟩)
                  | (go_at_call 10; with_reducible refine (HNy.out _).mono ?_; rintro q w3 ⟨rfl, m3, rfl⟩))
                go_roundw
                case rel => exact ⟨j + 1, by omega, by go_num, by rw [HC.out]; go_num, by rw [HS.out], ⟨by first | exact below_drew HB.out | (refine pw_below_drewN ?_ _; exact below_drew HB.out) | (repeat (first | exact HB.out | apply pw_below_drewN | apply below_drew))⟩⟩
                case measure => simp [intOf]; omega
          | false =>
            rw [h1, h2, Bool.and_false, if_neg Bool.false_ne_true] at HS
            rw [h1] at HNx
            rw [h2] at HNy
            clear h1 h2
            cases hs : FloatKind.f64.format.sub x y with
            | none =>
              have s1 := fun w => run_nan (P := Try.prog) .sub 26 x y hs (.inr (.inl rfl)) w
              have d1 : ∀ w, (FloatKind.f64.format.order (nanv (.nanBits .f64 x y) w) 0 == some .lt) = false := fun w => by rw [nanv_order]; rfl
              clear hs
              go_wp2
              go_region
              go_wp2
              go_region
              go_wp2_with (first
                | (go_at_call 10; with_reducible refine (HNx.out _).mono ?_; rintro q w2 ⟨rfl, m2, rfl⟩)
                | (go_at_call 10; with_reducible refine (HNy.out _).mono ?_; rintro q w3 ⟨rfl, m3, rfl⟩))
              go_roundw
              case rel => exact ⟨j + 1, by omega, by go_num, by rw [HC.out]; go_num, by rw [HS.out], ⟨by first | exact below_drew HB.out | (refine pw_below_drewN ?_ _; exact below_drew HB.out) | (repeat (first | exact HB.out | apply pw_below_drewN | apply below_drew))⟩⟩
              case measure => simp [intOf]; omega
            | some d =>
              have s1 := fun w => run_float_arith (P := Try.prog) w .sub 26 .f64 x y _ hs
              have hn := sub_some_not hs
              clear hs
              cases h3 : flt d 0 with
              | true =>
                obtain ⟨z, hz⟩ := sub0_some hn
                have s2 := fun w => run_float_arith (P := Try.prog) w .sub 26 .f64 0 d _ hz
                have d1 : (FloatKind.f64.format.order d 0 == some .lt) = true := h3
                clear h3 hz hn
                go_wp2
                go_region
                go_wp2
                go_region
                go_wp2_with (first
                  | (go_at_call 10; with_reducible refine (HNx.out _).mono ?_; rintro q w2 ⟨rfl, m2, rfl⟩)
                  | (go_at_call 10; with_reducible refine (HNy.out _).mono ?_; rintro q w3 ⟨rfl, m3, rfl⟩))
                go_roundw
                case rel => exact ⟨j + 1, by omega, by go_num, by rw [HC.out]; go_num, by rw [HS.out], ⟨by first | exact below_drew HB.out | (refine pw_below_drewN ?_ _; exact below_drew HB.out) | (repeat (first | exact HB.out | apply pw_below_drewN | apply below_drew))⟩⟩
                case measure => simp [intOf]; omega
              | false =>
                have d1 : (FloatKind.f64.format.order d 0 == some .lt) = false := h3
                clear h3 hn
                go_wp2
                go_region
                go_wp2
                go_region
                go_wp2_with (first
                  | (go_at_call 10; with_reducible refine (HNx.out _).mono ?_; rintro q w2 ⟨rfl, m2, rfl⟩)
                  | (go_at_call 10; with_reducible refine (HNy.out _).mono ?_; rintro q w3 ⟨rfl, m3, rfl⟩))
                go_roundw
                case rel => exact ⟨j + 1, by omega, by go_num, by rw [HC.out]; go_num, by rw [HS.out], ⟨by first | exact below_drew HB.out | (refine pw_below_drewN ?_ _; exact below_drew HB.out) | (repeat (first | exact HB.out | apply pw_below_drewN | apply below_drew))⟩⟩
                case measure => simp [intOf]; omega
        | false =>
          rw [h1, Bool.false_and, if_neg Bool.false_ne_true] at HS
          rw [h1] at HNx
          clear h1
          cases hs : FloatKind.f64.format.sub x y with
          | none =>
            have s1 := fun w => run_nan (P := Try.prog) .sub 26 x y hs (.inr (.inl rfl)) w
            have d1 : ∀ w, (FloatKind.f64.format.order (nanv (.nanBits .f64 x y) w) 0 == some .lt) = false := fun w => by rw [nanv_order]; rfl
            clear hs
            go_wp2
            go_region
            go_wp2
            go_region
            go_wp2_with (first
              | (go_at_call 10; with_reducible refine (HNx.out _).mono ?_; rintro q w2 ⟨rfl, m2, rfl⟩)
              | (go_at_call 10; with_reducible refine (HNy.out _).mono ?_; rintro q w3 ⟨rfl, m3, rfl⟩))
            go_roundw
            case rel => exact ⟨j + 1, by omega, by go_num, by rw [HC.out]; go_num, by rw [HS.out], ⟨by first | exact below_drew HB.out | (refine pw_below_drewN ?_ _; exact below_drew HB.out) | (repeat (first | exact HB.out | apply pw_below_drewN | apply below_drew))⟩⟩
            case measure => simp [intOf]; omega
          | some d =>
            have s1 := fun w => run_float_arith (P := Try.prog) w .sub 26 .f64 x y _ hs
            have hn := sub_some_not hs
            clear hs
            cases h3 : flt d 0 with
            | true =>
              obtain ⟨z, hz⟩ := sub0_some hn
              have s2 := fun w => run_float_arith (P := Try.prog) w .sub 26 .f64 0 d _ hz
              have d1 : (FloatKind.f64.format.order d 0 == some .lt) = true := h3
              clear h3 hz hn
              go_wp2
              go_region
              go_wp2
              go_region
              go_wp2_with (first
                | (go_at_call 10; with_reducible refine (HNx.out _).mono ?_; rintro q w2 ⟨rfl, m2, rfl⟩)
                | (go_at_call 10; with_reducible refine (HNy.out _).mono ?_; rintro q w3 ⟨rfl, m3, rfl⟩))
              go_roundw
              case rel => exact ⟨j + 1, by omega, by go_num, by rw [HC.out]; go_num, by rw [HS.out], ⟨by first | exact below_drew HB.out | (refine pw_below_drewN ?_ _; exact below_drew HB.out) | (repeat (first | exact HB.out | apply pw_below_drewN | apply below_drew))⟩⟩
              case measure => simp [intOf]; omega
            | false =>
              have d1 : (FloatKind.f64.format.order d 0 == some .lt) = false := h3
              clear h3 hn
              go_wp2
              go_region
              go_wp2
              go_region
              go_wp2_with (first
                | (go_at_call 10; with_reducible refine (HNx.out _).mono ?_; rintro q w2 ⟨rfl, m2, rfl⟩)
                | (go_at_call 10; with_reducible refine (HNy.out _).mono ?_; rintro q w3 ⟨rfl, m3, rfl⟩))
              go_roundw
              case rel => exact ⟨j + 1, by omega, by go_num, by rw [HC.out]; go_num, by rw [HS.out], ⟨by first | exact below_drew HB.out | (refine pw_below_drewN ?_ _; exact below_drew HB.out) | (repeat (first | exact HB.out | apply pw_below_drewN | apply below_drew))⟩⟩
              case measure => simp [intOf]; omega
      | false =>
        rw [hq] at HC
        cases h1 : isNum x with
        | true =>
          cases h2 : isNum y with
          | true =>
            have s1 := fun w => run_float_arith (P := Try.prog) w .sub 26 .f64 x y _ (sub_ok h1 h2).1
            have hD := (dist_max h1 h2 HM.out).1
            rw [h1, h2, Bool.and_self, if_pos rfl, hD] at HS
            rw [h1] at HNx
            rw [h2] at HNy
            have hn := (sub_ok h1 h2).2
            unfold dist at HS
            clear h1 h2 hD
            generalize sb x y = d at *
            cases h3 : flt d 0 with
            | true =>
              obtain ⟨z, hz⟩ := sub0_some hn
              have s2 := fun w => run_float_arith (P := Try.prog) w .sub 26 .f64 0 d _ hz
              rw [h3, if_pos rfl, hz, Option.getD_some] at HS
              have d1 : (FloatKind.f64.format.order d 0 == some .lt) = true := h3
              clear h3 hz hn
              cases h4 : fgt z m with
              | true =>
                have d2 : (FloatKind.f64.format.order z m == some .gt) = true := h4
                rw [h4, if_pos rfl] at HS
                clear h4
                go_wp2
                go_region
                go_wp2
                go_region
                go_wp2_with (first
                  | (go_at_call 10; with_reducible refine (HNx.out _).mono ?_; rintro q w2 ⟨rfl, m2, rfl⟩)
                  | (go_at_call 10; with_reducible refine (HNy.out _).mono ?_; rintro q w3 ⟨rfl, m3, rfl⟩))
                go_roundw
                case rel => exact ⟨j + 1, by omega, by go_num, by rw [HC.out]; go_num, by rw [HS.out], ⟨by first | exact below_drew HB.out | (refine pw_below_drewN ?_ _; exact below_drew HB.out) | (repeat (first | exact HB.out | apply pw_below_drewN | apply below_drew))⟩⟩
                case measure => simp [intOf]; omega
              | false =>
                have d2 : (FloatKind.f64.format.order z m == some .gt) = false := h4
                rw [h4, if_neg Bool.false_ne_true] at HS
                clear h4
                go_wp2
                go_region
                go_wp2
                go_region
                go_wp2_with (first
                  | (go_at_call 10; with_reducible refine (HNx.out _).mono ?_; rintro q w2 ⟨rfl, m2, rfl⟩)
                  | (go_at_call 10; with_reducible refine (HNy.out _).mono ?_; rintro q w3 ⟨rfl, m3, rfl⟩))
                go_roundw
                case rel => exact ⟨j + 1, by omega, by go_num, by rw [HC.out]; go_num, by rw [HS.out], ⟨by first | exact below_drew HB.out | (refine pw_below_drewN ?_ _; exact below_drew HB.out) | (repeat (first | exact HB.out | apply pw_below_drewN | apply below_drew))⟩⟩
                case measure => simp [intOf]; omega
            | false =>
              rw [h3, if_neg Bool.false_ne_true] at HS
              have d1 : (FloatKind.f64.format.order d 0 == some .lt) = false := h3
              clear h3 hn
              cases h4 : fgt d m with
              | true =>
                have d2 : (FloatKind.f64.format.order d m == some .gt) = true := h4
                rw [h4, if_pos rfl] at HS
                clear h4
                go_wp2
                go_region
                go_wp2
                go_region
                go_wp2_with (first
                  | (go_at_call 10; with_reducible refine (HNx.out _).mono ?_; rintro q w2 ⟨rfl, m2, rfl⟩)
                  | (go_at_call 10; with_reducible refine (HNy.out _).mono ?_; rintro q w3 ⟨rfl, m3, rfl⟩))
                go_roundw
                case rel => exact ⟨j + 1, by omega, by go_num, by rw [HC.out]; go_num, by rw [HS.out], ⟨by first | exact below_drew HB.out | (refine pw_below_drewN ?_ _; exact below_drew HB.out) | (repeat (first | exact HB.out | apply pw_below_drewN | apply below_drew))⟩⟩
                case measure => simp [intOf]; omega
              | false =>
                have d2 : (FloatKind.f64.format.order d m == some .gt) = false := h4
                rw [h4, if_neg Bool.false_ne_true] at HS
                clear h4
                go_wp2
                go_region
                go_wp2
                go_region
                go_wp2_with (first
                  | (go_at_call 10; with_reducible refine (HNx.out _).mono ?_; rintro q w2 ⟨rfl, m2, rfl⟩)
                  | (go_at_call 10; with_reducible refine (HNy.out _).mono ?_; rintro q w3 ⟨rfl, m3, rfl⟩))
                go_roundw
                case rel => exact ⟨j + 1, by omega, by go_num, by rw [HC.out]; go_num, by rw [HS.out], ⟨by first | exact below_drew HB.out | (refine pw_below_drewN ?_ _; exact below_drew HB.out) | (repeat (first | exact HB.out | apply pw_below_drewN | apply below_drew))⟩⟩
                case measure => simp [intOf]; omega
          | false =>
            rw [h1, h2, Bool.and_false, if_neg Bool.false_ne_true] at HS
            rw [h1] at HNx
            rw [h2] at HNy
            clear h1 h2
            cases hs : FloatKind.f64.format.sub x y with
            | none =>
              have s1 := fun w => run_nan (P := Try.prog) .sub 26 x y hs (.inr (.inl rfl)) w
              have d1 : ∀ w, (FloatKind.f64.format.order (nanv (.nanBits .f64 x y) w) 0 == some .lt) = false := fun w => by rw [nanv_order]; rfl
              clear hs
              go_wp2
              go_region
              go_wp2
              go_region
              go_wp2_with (first
                | (go_at_call 10; with_reducible refine (HNx.out _).mono ?_; rintro q w2 ⟨rfl, m2, rfl⟩)
                | (go_at_call 10; with_reducible refine (HNy.out _).mono ?_; rintro q w3 ⟨rfl, m3, rfl⟩))
              go_roundw
              case rel => exact ⟨j + 1, by omega, by go_num, by rw [HC.out]; go_num, by rw [HS.out], ⟨by first | exact below_drew HB.out | (refine pw_below_drewN ?_ _; exact below_drew HB.out) | (repeat (first | exact HB.out | apply pw_below_drewN | apply below_drew))⟩⟩
              case measure => simp [intOf]; omega
            | some d =>
              have s1 := fun w => run_float_arith (P := Try.prog) w .sub 26 .f64 x y _ hs
              have hn := sub_some_not hs
              clear hs
              cases h3 : flt d 0 with
              | true =>
                obtain ⟨z, hz⟩ := sub0_some hn
                have s2 := fun w => run_float_arith (P := Try.prog) w .sub 26 .f64 0 d _ hz
                have d1 : (FloatKind.f64.format.order d 0 == some .lt) = true := h3
                clear h3 hz hn
                go_wp2
                go_region
                go_wp2
                go_region
                go_wp2_with (first
                  | (go_at_call 10; with_reducible refine (HNx.out _).mono ?_; rintro q w2 ⟨rfl, m2, rfl⟩)
                  | (go_at_call 10; with_reducible refine (HNy.out _).mono ?_; rintro q w3 ⟨rfl, m3, rfl⟩))
                go_roundw
                case rel => exact ⟨j + 1, by omega, by go_num, by rw [HC.out]; go_num, by rw [HS.out], ⟨by first | exact below_drew HB.out | (refine pw_below_drewN ?_ _; exact below_drew HB.out) | (repeat (first | exact HB.out | apply pw_below_drewN | apply below_drew))⟩⟩
                case measure => simp [intOf]; omega
              | false =>
                have d1 : (FloatKind.f64.format.order d 0 == some .lt) = false := h3
                clear h3 hn
                go_wp2
                go_region
                go_wp2
                go_region
                go_wp2_with (first
                  | (go_at_call 10; with_reducible refine (HNx.out _).mono ?_; rintro q w2 ⟨rfl, m2, rfl⟩)
                  | (go_at_call 10; with_reducible refine (HNy.out _).mono ?_; rintro q w3 ⟨rfl, m3, rfl⟩))
                go_roundw
                case rel => exact ⟨j + 1, by omega, by go_num, by rw [HC.out]; go_num, by rw [HS.out], ⟨by first | exact below_drew HB.out | (refine pw_below_drewN ?_ _; exact below_drew HB.out) | (repeat (first | exact HB.out | apply pw_below_drewN | apply below_drew))⟩⟩
                case measure => simp [intOf]; omega
        | false =>
          rw [h1, Bool.false_and, if_neg Bool.false_ne_true] at HS
          rw [h1] at HNx
          clear h1
          cases hs : FloatKind.f64.format.sub x y with
          | none =>
            have s1 := fun w => run_nan (P := Try.prog) .sub 26 x y hs (.inr (.inl rfl)) w
            have d1 : ∀ w, (FloatKind.f64.format.order (nanv (.nanBits .f64 x y) w) 0 == some .lt) = false := fun w => by rw [nanv_order]; rfl
            clear hs
            go_wp2
            go_region
            go_wp2
            go_region
            go_wp2_with (first
              | (go_at_call 10; with_reducible refine (HNx.out _).mono ?_; rintro q w2 ⟨rfl, m2, rfl⟩)
              | (go_at_call 10; with_reducible refine (HNy.out _).mono ?_; rintro q w3 ⟨rfl, m3, rfl⟩))
            go_roundw
            case rel => exact ⟨j + 1, by omega, by go_num, by rw [HC.out]; go_num, by rw [HS.out], ⟨by first | exact below_drew HB.out | (refine pw_below_drewN ?_ _; exact below_drew HB.out) | (repeat (first | exact HB.out | apply pw_below_drewN | apply below_drew))⟩⟩
            case measure => simp [intOf]; omega
          | some d =>
            have s1 := fun w => run_float_arith (P := Try.prog) w .sub 26 .f64 x y _ hs
            have hn := sub_some_not hs
            clear hs
            cases h3 : flt d 0 with
            | true =>
              obtain ⟨z, hz⟩ := sub0_some hn
              have s2 := fun w => run_float_arith (P := Try.prog) w .sub 26 .f64 0 d _ hz
              have d1 : (FloatKind.f64.format.order d 0 == some .lt) = true := h3
              clear h3 hz hn
              go_wp2
              go_region
              go_wp2
              go_region
              go_wp2_with (first
                | (go_at_call 10; with_reducible refine (HNx.out _).mono ?_; rintro q w2 ⟨rfl, m2, rfl⟩)
                | (go_at_call 10; with_reducible refine (HNy.out _).mono ?_; rintro q w3 ⟨rfl, m3, rfl⟩))
              go_roundw
              case rel => exact ⟨j + 1, by omega, by go_num, by rw [HC.out]; go_num, by rw [HS.out], ⟨by first | exact below_drew HB.out | (refine pw_below_drewN ?_ _; exact below_drew HB.out) | (repeat (first | exact HB.out | apply pw_below_drewN | apply below_drew))⟩⟩
              case measure => simp [intOf]; omega
            | false =>
              have d1 : (FloatKind.f64.format.order d 0 == some .lt) = false := h3
              clear h3 hn
              go_wp2
              go_region
              go_wp2
              go_region
              go_wp2_with (first
                | (go_at_call 10; with_reducible refine (HNx.out _).mono ?_; rintro q w2 ⟨rfl, m2, rfl⟩)
                | (go_at_call 10; with_reducible refine (HNy.out _).mono ?_; rintro q w3 ⟨rfl, m3, rfl⟩))
              go_roundw
              case rel => exact ⟨j + 1, by omega, by go_num, by rw [HC.out]; go_num, by rw [HS.out], ⟨by first | exact below_drew HB.out | (refine pw_below_drewN ?_ _; exact below_drew HB.out) | (repeat (first | exact HB.out | apply pw_below_drewN | apply below_drew))⟩⟩
              case measure => simp [intOf]; omega
    · have e : j = xs.length := by omega
      subst e
      go_wp2
      go_ret2
      exact ⟨rfl, HB.out⟩
end Go.Proofs.Ytaikeldhdbejaaa.Gv
