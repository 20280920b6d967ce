/- the document's Look, by hand. -/
import Derived.Test.YtaikeldhdbejaaaJi
namespace Go.Proofs.Ytaikeldhdbejaaa.Gv
open Go.RowKit Go.Proofs.YtaikeldhdbejaaaW.PrintWords Go.Proofs.YtaikeldhdbejaaaW.PrintLast Go.Proofs.YtaikeldhdbejaaaW.PrintMore
/-- a word of a number that is not below 0 -/
def nonneg (m : Nat) : Prop := ∃ r, r < 9218868437227405312 ∧ FloatKind.f64.format.read m = FloatKind.f64.format.read r
theorem order_read {a b c d : Nat} (h1 : FloatKind.f64.format.read a = FloatKind.f64.format.read c) (h2 : FloatKind.f64.format.read b = FloatKind.f64.format.read d) : FloatKind.f64.format.order a b = FloatKind.f64.format.order c d := by
  unfold Ieee.Format.order
  rw [h1, h2]
theorem num_read {x : Nat} (h : isNum x = true) : ∃ r, r < 9218868437227405312 ∧ (FloatKind.f64.format.read x = FloatKind.f64.format.read r ∨ FloatKind.f64.format.read x = FloatKind.f64.format.read (9223372036854775808 + r)) := by
  have hr : FloatKind.f64.format.read x = FloatKind.f64.format.read (x % 18446744073709551616) := by
    unfold Ieee.Format.read
    have hs : FloatKind.f64.format.signWeight = 9223372036854775808 := rfl
    simp only [hs]
    have e1 : x % 18446744073709551616 % 9223372036854775808 = x % 9223372036854775808 := by omega
    have e2 : x % 18446744073709551616 / 9223372036854775808 % 2 = x / 9223372036854775808 % 2 := by omega
    rw [e1, e2]
  have hn : isNum (x % 18446744073709551616) = true := by
    unfold isNum at h ⊢
    rw [← hr]
    exact h
  have hlt : x % 18446744073709551616 < 18446744073709551616 := Nat.mod_lt _ (by omega)
  generalize x % 18446744073709551616 = y at *
  have hm : y % 9223372036854775808 < 9218868437227405312 := by
    have hn2 := hn
    unfold isNum Ieee.Format.read at hn2
    have hb : FloatKind.f64.format.binade = 4503599627370496 := rfl
    have hi : FloatKind.f64.format.infRung = 9218868437227405312 := rfl
    have hs : FloatKind.f64.format.signWeight = 9223372036854775808 := rfl
    simp only [hb, hi, hs] at hn2
    by_cases c : y % 9223372036854775808 < 9218868437227405312
    · exact c
    · exfalso
      rw [if_neg (by omega), if_neg c] at hn2
      by_cases d : y % 9223372036854775808 = 9218868437227405312
      · rw [if_pos d] at hn2; cases hn2
      · rw [if_neg d] at hn2; cases hn2
  rcases Nat.lt_or_ge y 9223372036854775808 with c | c
  · exact ⟨y, by omega, .inl hr⟩
  · refine ⟨y - 9223372036854775808, by omega, .inr ?_⟩
    rw [hr, show 9223372036854775808 + (y - 9223372036854775808) = y by omega]
theorem mst_same {m x : Nat} (hm : nonneg m) : (if gt0 x && isNum x then fmax m x else m) = (if (FloatKind.f64.format.order x m == some .gt) && isNum x then x else m) ∧ nonneg (if gt0 x && isNum x then fmax m x else m) := by
  cases hx : isNum x with
  | false => rw [Bool.and_false, Bool.and_false]; exact ⟨rfl, hm⟩
  | true =>
    rw [Bool.and_true, Bool.and_true]
    have hm0 := hm
    obtain ⟨q, hq, em⟩ := hm
    obtain ⟨r, hr, e | e⟩ := num_read hx
    · have g1 : gt0 x = decide (0 < r) := by
        unfold gt0
        rw [order_read e (show FloatKind.f64.format.read 0 = FloatKind.f64.format.read 0 from rfl), order_le r 0 (by omega) (by omega), if_neg (by omega)]
        by_cases c : r = 0
        · rw [if_pos c, decide_eq_false (by omega)]; rfl
        · rw [if_neg c, decide_eq_true (by omega)]; rfl
      have g2 : (FloatKind.f64.format.order x m == some .gt) = decide (q < r) := by
        rw [order_read e em, order_le r q (by omega) (by omega)]
        by_cases c : r < q
        · rw [if_pos c, decide_eq_false (by omega)]; rfl
        · rw [if_neg c]
          by_cases d : r = q
          · rw [if_pos d, decide_eq_false (by omega)]; rfl
          · rw [if_neg d, decide_eq_true (by omega)]; rfl
      have g3 : fmax m x = if q < r then x else m := by
        unfold fmax
        have hd : (FloatKind.f64.decode m).neg = false := by
          show (FloatKind.f64.format.read m).neg = false
          rw [em]
          exact dec_neg q (by omega)
        rw [order_read em e, order_le q r (by omega) (by omega), hd]
        by_cases c : q < r
        · rw [if_pos c, if_pos c]
        · rw [if_neg c, if_neg c]
          by_cases d : q = r
          · rw [if_pos d]; rfl
          · rw [if_neg d]
      rw [g1, g2, g3]
      by_cases c : q < r
      · rw [if_pos c, decide_eq_true (show 0 < r by omega), decide_eq_true c, if_pos rfl]
        exact ⟨rfl, r, hr, e⟩
      · rw [if_neg c, decide_eq_false c, if_neg Bool.false_ne_true]
        split <;> exact ⟨rfl, hm0⟩
    · have g1 : gt0 x = false := by
        unfold gt0
        rw [order_read e (show FloatKind.f64.format.read 0 = FloatKind.f64.format.read 0 from rfl), (order_negw 0 r (by omega) (by omega)).2]
        split <;> rfl
      have g2 : (FloatKind.f64.format.order x m == some .gt) = false := by
        rw [order_read e em, (order_negw q r (by omega) (by omega)).2]
        split <;> rfl
      rw [g1, g2]
      exact ⟨rfl, hm0⟩
theorem mst_nonneg (xs : List Nat) : ∀ j, nonneg (mstN xs j)
  | 0 => ⟨0, by omega, rfl⟩
  | j + 1 => by
    rw [mstN]
    exact (mst_same (mst_nonneg xs j)).2
theorem mst_next (xs : List Nat) (j : Nat) : mstN xs (j + 1) = if (FloatKind.f64.format.order (xs.getD j 0) (mstN xs j) == some .gt) && isNum (xs.getD j 0) then xs.getD j 0 else mstN xs j := by
  rw [mstN]
  exact (mst_same (mst_nonneg xs j)).1
theorem clamp_in (d : Int) : 0 ≤ clampD d ∧ clampD d ≤ 2147483647 := by
  unfold clampD
  split <;> split <;> omega
theorem drp_in (ds : List Int) : ∀ j, j ≤ 1000000 → 0 ≤ drpN ds j ∧ drpN ds j ≤ 2147483647 * (j : Int)
  | 0, _ => ⟨by rw [drpN]; omega, by rw [drpN]; omega⟩
  | j + 1, h => by
    obtain ⟨a, b⟩ := drp_in ds j (by omega)
    obtain ⟨c, d⟩ := clamp_in (ds.getD j 0)
    rw [drpN]
    have e : wrap64 (drpN ds j + clampD (ds.getD j 0)) = drpN ds j + clampD (ds.getD j 0) := by
      rw [← IntWalk.i64_left]
      exact IntWalk.i64_in _ (by omega)
    rw [e]
    omega
theorem low_any (a b : Int) (w : World) : Calls Try.prog 21 #[.int .i64 a, .int .i64 b] w fun e w' => e = .returned (.int .i64 (if a < b then a else b)) ∧ w = w' := by
  by_cases c : a < b
  · rw [if_pos c]
    go_enter Try.func21, Try.ntmps21
    go_wp2
    go_ret
    exact ⟨rfl, rfl⟩
  · rw [if_neg c]
    go_enter Try.func21, Try.ntmps21
    go_wp2
    go_ret
    exact ⟨rfl, rfl⟩
theorem two_newK {w : World} (o1 o2 : Obj) : ((w.alloc o1).alloc o2).heap[w.heap.size]? = some o1 ∧ ((w.alloc o1).alloc o2).heap[w.heap.size + 1]? = some o2 ∧ Below w.heap.size w ((w.alloc o1).alloc o2) := by
  have s1 : (w.alloc o1).heap.size = w.heap.size + 1 := by simp
  have h2 := blk_new (w.alloc o1) o2
  rw [s1] at h2
  have b1 := Below.alloc (Below.refl w.heap.size w) (Nat.le_refl _) o1
  exact ⟨blk_alloc (blk_new w o1) o2, h2, Below.alloc b1 b1.size o2⟩
attribute [local go_sem] run_store_float
set_option maxHeartbeats 16000000 in
theorem rlook_any (W H : Int) (xs : List Nat) (AL : Option Addr) (cL : Nat) (ds : List Int) (AD : Option Addr) (cD : Nat) (w : World) (hr : FK.C w AL xs.length xs) (hr2 : (Kd.int .i64).C w AD ds.length ds) (hl : xs.length ≤ 1000) (hl2 : ds.length ≤ 1000) :
    Calls Try.prog 11 #[.agg #[.int .i64 W, .int .i64 H, .slice AL xs.length cL, .slice AD ds.length cD]] w fun e w' => e = .returned (.agg #[.int .i64 (litN xs xs.length : Int), .float .f64 (mstN xs xs.length), .int .i64 (drpN ds ds.length)]) ∧ Below w.heap.size w w' := by
  have hu := Try.underlying25
  have hu2 := Try.underlying28
  have HR := Aside0.mk hr
  have HR2 := Aside0.mk hr2
  obtain ⟨o1, ho1⟩ : ∃ o, o = Obj.cells #[.int .i64 W, .int .i64 H, .slice AL xs.length cL, .slice AD ds.length cD] 25 (0, 0) := ⟨_, rfl⟩
  obtain ⟨o2, ho2⟩ : ∃ o, o = Obj.cells #[.int .i64 0, .float .f64 0, .int .i64 0] 28 (0, 0) := ⟨_, rfl⟩
  obtain ⟨b1, b2, hB⟩ := two_newK (w := w) o1 o2
  rw [ho1, ho2] at b1 b2 hB
  clear ho1 ho2 hr hr2
  have HB1 := Aside0.mk b1
  have HB2 := Aside0.mk b2
  have HBel := Aside0.mk hB
  obtain ⟨k0, k1, k2, k3⟩ := pic_cells b1
  clear b1 b2 hB
  go_enter Try.func11, Try.ntmps11
  go_wp2
  go_loopw [3, 4, 6] (fun l m i wr => ∃ j : Nat, j ≤ xs.length ∧ i = .int .i64 (j : Int) ∧ l = .int .i64 (litN xs j : Int) ∧ m = .float .f64 (mstN xs j) ∧ Aside0 (wr.heap[w.heap.size]? = some (.cells #[.int .i64 W, .int .i64 H, .slice AL xs.length cL, .slice AD ds.length cD] 25 (0, 0))) ∧ Aside0 (wr.heap[w.heap.size + 1]? = some (.cells #[.int .i64 0, .float .f64 0, .int .i64 0] 28 (0, 0))) ∧ Aside0 (Below w.heap.size w wr)) (fun _ _ i _ => xs.length - (intOf i).toNat)
  case atStart => exact ⟨0, Nat.zero_le _, rfl, rfl, rfl, HB1, HB2, HBel⟩
  case round =>
    obtain ⟨j, hj, rfl, rfl, rfl, HP, HZ, HBl⟩ := hrel
    obtain ⟨k0, k1, k2, k3⟩ := pic_cells HP.out
    by_cases hlt : j < xs.length
    · have z1 : (j : Int) < (xs.length : Int) := by omega
      obtain ⟨ad, rfl, hx⟩ := at_float (Kd.C_below HR.out HBl.out) j hlt
      have hlj := litN_le xs j
      have HS1 := Aside0.mk (show litN xs (j + 1) = litN xs j + (if gt0 (xs.getD j 0) = true then 1 else 0) from rfl)
      have HS2 := Aside0.mk (mst_next xs j)
      generalize xs.getD j 0 = x at *
      generalize litN xs j = l at *
      generalize mstN xs j = m at *
      have HNx := Aside0.mk (rnum_any x)
      generalize isNum x = b at *
      cases c1 : gt0 x with
      | true =>
        rw [c1, if_pos rfl] at HS1
        have d1 : (FloatKind.f64.format.order x 0 == some .gt) = true := c1
        clear c1
        cases c2 : (FloatKind.f64.format.order x m == some .gt) with
        | true =>
          rw [c2, Bool.true_and] at HS2
          cases b with
          | true =>
            rw [if_pos rfl] at HS2
            go_wp2_with (go_at_call 10; with_reducible refine (HNx.out _).mono ?_; rintro q w2 ⟨rfl, m2, rfl⟩)
            go_roundw
            case rel => exact ⟨j + 1, by omega, by go_num, by rw [HS1.out]; go_num, by rw [HS2.out], ⟨blk_below HP.out (pw_below_drewN (Below.refl _ _) _)⟩, ⟨blk_below HZ.out (pw_below_drewN (Below.refl _ _) _)⟩, ⟨pw_below_drewN HBl.out _⟩⟩
            case measure => simp [intOf]; omega
          | false =>
            rw [if_neg Bool.false_ne_true] at HS2
            go_wp2_with (go_at_call 10; with_reducible refine (HNx.out _).mono ?_; rintro q w2 ⟨rfl, m2, rfl⟩)
            go_roundw
            case rel => exact ⟨j + 1, by omega, by go_num, by rw [HS1.out]; go_num, by rw [HS2.out], ⟨blk_below HP.out (pw_below_drewN (Below.refl _ _) _)⟩, ⟨blk_below HZ.out (pw_below_drewN (Below.refl _ _) _)⟩, ⟨pw_below_drewN HBl.out _⟩⟩
            case measure => simp [intOf]; omega
        | false =>
          rw [c2, Bool.false_and, if_neg Bool.false_ne_true] at HS2
          go_wp2
          go_roundw
          case rel => exact ⟨j + 1, by omega, by go_num, by rw [HS1.out]; go_num, by rw [HS2.out], HP, HZ, HBl⟩
          case measure => simp [intOf]; omega
      | false =>
        rw [c1, if_neg Bool.false_ne_true] at HS1
        have d1 : (FloatKind.f64.format.order x 0 == some .gt) = false := c1
        clear c1
        cases c2 : (FloatKind.f64.format.order x m == some .gt) with
        | true =>
          rw [c2, Bool.true_and] at HS2
          cases b with
          | true =>
            rw [if_pos rfl] at HS2
            go_wp2_with (go_at_call 10; with_reducible refine (HNx.out _).mono ?_; rintro q w2 ⟨rfl, m2, rfl⟩)
            go_roundw
            case rel => exact ⟨j + 1, by omega, by go_num, by rw [HS1.out]; go_num, by rw [HS2.out], ⟨blk_below HP.out (pw_below_drewN (Below.refl _ _) _)⟩, ⟨blk_below HZ.out (pw_below_drewN (Below.refl _ _) _)⟩, ⟨pw_below_drewN HBl.out _⟩⟩
            case measure => simp [intOf]; omega
          | false =>
            rw [if_neg Bool.false_ne_true] at HS2
            go_wp2_with (go_at_call 10; with_reducible refine (HNx.out _).mono ?_; rintro q w2 ⟨rfl, m2, rfl⟩)
            go_roundw
            case rel => exact ⟨j + 1, by omega, by go_num, by rw [HS1.out]; go_num, by rw [HS2.out], ⟨blk_below HP.out (pw_below_drewN (Below.refl _ _) _)⟩, ⟨blk_below HZ.out (pw_below_drewN (Below.refl _ _) _)⟩, ⟨pw_below_drewN HBl.out _⟩⟩
            case measure => simp [intOf]; omega
        | false =>
          rw [c2, Bool.false_and, if_neg Bool.false_ne_true] at HS2
          go_wp2
          go_roundw
          case rel => exact ⟨j + 1, by omega, by go_num, by rw [HS1.out]; go_num, by rw [HS2.out], HP, HZ, HBl⟩
          case measure => simp [intOf]; omega
    · have e : j = xs.length := by omega
      subst e
      generalize hE1 : litN xs xs.length = lt at *
      generalize hE2 : mstN xs xs.length = mm at *
      have HE1 := Aside0.mk hE1
      have HE2 := Aside0.mk hE2
      clear hE1 hE2
      go_wp2
      go_loopw [5, 7] (fun s i wq => ∃ q : Nat, q ≤ ds.length ∧ i = .int .i64 (q : Int) ∧ s = .int .i64 (drpN ds q) ∧ Aside0 (wq.heap[w.heap.size]? = some (.cells #[.int .i64 W, .int .i64 H, .slice AL xs.length cL, .slice AD ds.length cD] 25 (0, 0))) ∧ Aside0 (wq.heap[w.heap.size + 1]? = some (.cells #[.int .i64 0, .float .f64 0, .int .i64 0] 28 (0, 0))) ∧ Aside0 (Below w.heap.size w wq)) (fun _ i _ => ds.length - (intOf i).toNat)
      case atStart => exact ⟨0, Nat.zero_le _, rfl, rfl, HP, HZ, HBl⟩
      case round =>
        obtain ⟨q, hq, rfl, rfl, HPq, HZq, HBq⟩ := hrel
        obtain ⟨k0, k1, k2, k3⟩ := pic_cells HPq.out
        by_cases hlt : q < ds.length
        · have z1 : (q : Int) < (ds.length : Int) := by omega
          obtain ⟨ad, rfl, hx⟩ := at_i64 (Kd.C_below HR2.out HBq.out) q hlt
          have HS := Aside0.mk (show drpN ds (q + 1) = wrap64 (drpN ds q + clampD (ds.getD q 0)) from rfl)
          obtain ⟨n1, n2⟩ := drp_in ds q (by omega)
          generalize ds.getD q 0 = d at *
          generalize drpN ds q = s at *
          by_cases hd : 0 < d
          · obtain ⟨z, hz⟩ : ∃ z : Int, (if d < 2147483647 then d else 2147483647) = z := ⟨_, rfl⟩
            have hz2 : clampD d = z := by
              rw [← hz]
              unfold clampD
              split <;> split <;> split <;> omega
            have hzb : 0 < z ∧ z ≤ 2147483647 := by
              rw [← hz]
              split <;> omega
            have HL := Aside0.mk (low_any d 2147483647)
            rw [hz] at HL
            rw [hz2] at HS
            have hw : wrap64 (s + z) = s + z := by
              rw [← IntWalk.i64_left]
              exact IntWalk.i64_in _ (by omega)
            rw [hw] at HS
            clear hz hz2
            go_wp2_with (go_at_call 21; with_reducible refine (HL.out _).mono ?_; rintro y w3 ⟨rfl, rfl⟩)
            go_roundw
            case rel => exact ⟨q + 1, by omega, by go_num, by rw [HS.out], HPq, HZq, HBq⟩
            case measure => simp [intOf]; omega
          · have hz2 : clampD d = 0 := by
              unfold clampD
              split <;> split <;> omega
            have hw : wrap64 (s + 0) = s := by
              rw [← IntWalk.i64_left, Int.add_zero]
              exact IntWalk.i64_in _ (by omega)
            rw [hz2, hw] at HS
            have hd2 : d ≤ 0 := by omega
            clear hz2 hw hd
            go_wp2
            go_roundw
            case rel => exact ⟨q + 1, by omega, by go_num, by rw [HS.out], HPq, HZq, HBq⟩
            case measure => simp [intOf]; omega
        · have e : q = ds.length := by omega
          subst e
          obtain ⟨c0, c1, c2, e0, e1, e2⟩ := pr_cells HZq.out
          generalize hE3 : drpN ds ds.length = dd at *
          have HE3 := Aside0.mk hE3
          clear hE3
          have hG := blk_put (blk_put (blk_put HZq.out 0 (.int .i64 (lt : Int)) (cs' := #[.int .i64 (lt : Int), .float .f64 0, .int .i64 0]) rfl) 1 (.float .f64 mm) (cs' := #[.int .i64 (lt : Int), .float .f64 mm, .int .i64 0]) rfl) 2 (.int .i64 dd) (cs' := #[.int .i64 (lt : Int), .float .f64 mm, .int .i64 dd]) rfl
          have HG := Aside0.mk hG
          clear hG
          go_wp2
          refine bodyPost_ret (results_cell_row rfl _ _ (w.heap.size + 1) 28 #[.int .i64 (lt : Int), .float .f64 mm, .int .i64 dd] (0, 0) _ rfl HG.out hu2 rfl (by kernel_rfl)) rfl ?_
          refine ⟨by rw [HE1.out, HE2.out, HE3.out], ?_⟩
          have g1 := grown_belowJ HBq.out (set_grown wr (w.heap.size + 1) 0 (.int .i64 (lt : Int))) HBq.out.size (by omega)
          have g2 := grown_belowJ g1 (set_grown _ (w.heap.size + 1) 1 (.float .f64 mm)) g1.size (by omega)
          exact grown_belowJ g2 (set_grown _ (w.heap.size + 1) 2 (.int .i64 dd)) g2.size (by omega)
end Go.Proofs.Ytaikeldhdbejaaa.Gv
