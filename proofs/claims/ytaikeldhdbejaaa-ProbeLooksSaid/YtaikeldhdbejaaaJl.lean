/- ProbeLooks: the law, by hand. -/
import Derived.Test.YtaikeldhdbejaaaJk
import Derived.Deep.RegionHeld3
namespace Go.Proofs.Ytaikeldhdbejaaa.Gv
open Go.RowKit Go.Proofs.YtaikeldhdbejaaaW.PrintWords Go.Proofs.YtaikeldhdbejaaaW.PrintLast Go.Proofs.YtaikeldhdbejaaaW.PrintMore
attribute [local go_sem] run_store_float
def ge0 (x : Nat) : Bool := FloatKind.f64.format.order x 0 == some .gt || FloatKind.f64.format.order x 0 == some .eq
def gN (g : Bool) (xs : List Nat) : Nat → Bool
  | 0 => g
  | j + 1 => gN g xs j && (isNum (xs.getD j 0) && ge0 (xs.getD j 0))
def hN (g : Bool) (ds : List Int) : Nat → Bool
  | 0 => g
  | j + 1 => hN g ds j && decide (0 ≤ ds.getD j 0)
theorem gN_eq (g : Bool) (xs : List Nat) : ∀ j, gN g xs j = (g && decide (cnt (fun j => badX (xs.getD j 0)) j = 0))
  | 0 => by simp [gN, cnt]
  | j + 1 => by
    rw [gN, gN_eq g xs j, cnt]
    have hb : badX (xs.getD j 0) = !(isNum (xs.getD j 0) && ge0 (xs.getD j 0)) := by
      unfold badX ge0
      cases isNum (xs.getD j 0) <;> cases (FloatKind.f64.format.order (xs.getD j 0) 0 == some .gt || FloatKind.f64.format.order (xs.getD j 0) 0 == some .eq) <;> rfl
    rw [hb]
    cases (isNum (xs.getD j 0) && ge0 (xs.getD j 0)) with
    | true => rw [Bool.and_true, Bool.not_true, if_neg Bool.false_ne_true, Nat.add_zero]
    | false => rw [Bool.and_false, Bool.not_false, if_pos rfl, decide_eq_false (by omega), Bool.and_false]
theorem hN_eq (g : Bool) (ds : List Int) : ∀ j, hN g ds j = (g && decide (cnt (fun j => decide (ds.getD j 0 < 0)) j = 0))
  | 0 => by simp [hN, cnt]
  | j + 1 => by
    rw [hN, hN_eq g ds j, cnt]
    by_cases c : 0 ≤ ds.getD j 0
    · rw [decide_eq_true c, Bool.and_true, if_neg (show ¬ decide (ds.getD j 0 < 0) = true from fun h => by have := of_decide_eq_true h; omega), Nat.add_zero]
    · rw [decide_eq_false c, Bool.and_false, if_pos (show decide (ds.getD j 0 < 0) = true from decide_eq_true (by omega)), decide_eq_false (by omega), Bool.and_false]
theorem good_eq (W H : Int) (xs : List Nat) (ds : List Int) : goodV W H xs ds = hN (gN (sidesB W H && (decide ((xs.length : Int) = 3 * W * H) && decide ((ds.length : Int) = W * H))) xs xs.length) ds ds.length := by
  rw [hN_eq, gN_eq]
  unfold goodV
  have e : decide (badN xs + negN ds = 0) = (decide (badN xs = 0) && decide (negN ds = 0)) := by
    by_cases a : badN xs = 0
    · by_cases b : negN ds = 0
      · rw [a, b]; rfl
      · rw [decide_eq_false b, Bool.and_false, decide_eq_false (by omega)]
    · rw [decide_eq_false a, Bool.false_and, decide_eq_false (by omega)]
  rw [e]
  unfold badN negN
  cases sidesB W H <;> cases decide ((xs.length : Int) = 3 * W * H) <;> cases decide ((ds.length : Int) = W * H) <;> simp
theorem eqp_run (l1 : Int) (m1 : Nat) (d1 : Int) (l2 : Int) (m2 : Nat) (d2 : Int) (w : World) : (binOp .eql 28 (.agg #[.int .i64 l1, .float .f64 m1, .int .i64 d1]) (.agg #[.int .i64 l2, .float .f64 m2, .int .i64 d2])).run Try.prog w = .ok (.bool (peq l1 m1 d1 l2 m2 d2)) w := by
  have hu := Try.underlying28
  have he := eqf_run m1 m2
  unfold peq
  generalize feq m1 m2 = f at *
  by_cases c1 : l1 = l2
  · subst c1
    cases f with
    | true =>
      by_cases c2 : d1 = d2
      · subst c2
        simp [go_sem, hu, he]
      · have c3 : (d1 == d2) = false := beq_eq_false_iff_ne.mpr c2
        simp [go_sem, hu, he, c2, c3]
    | false => simp [go_sem, hu, he]
  · have c3 : (l1 == l2) = false := beq_eq_false_iff_ne.mpr c1
    simp [go_sem, hu, he, c1, c3]
structure KW (W H : Int) (xs : List Nat) (AL : Option Addr) (cL : Nat) (ds : List Int) (AD : Option Addr) (cD : Nat) (l1 : Int) (m1 : Nat) (d1 : Int) (w V : World) : Prop where
  px : V.heap[w.heap.size]? = some (.cells #[.int .i64 W, .int .i64 H, .slice AL xs.length cL, .slice AD ds.length cD] 25 (0, 0))
  pa : V.heap[w.heap.size + 1]? = some (.cells #[.int .i64 l1, .float .f64 m1, .int .i64 d1] 28 (0, 0))
  fx : FK.C V AL xs.length xs
  fd : (Kd.int .i64).C V AD ds.length ds
  bel : Below w.heap.size w V
section
variable {W H : Int} {xs : List Nat} {AL : Option Addr} {cL : Nat} {ds : List Int} {AD : Option Addr} {cD : Nat} {l1 : Int} {m1 : Nat} {d1 : Int} {w V V1 : World}
theorem KW.next (h : KW W H xs AL cL ds AD cD l1 m1 d1 w V) (hb : Below V.heap.size V V1) : KW W H xs AL cL ds AD cD l1 m1 d1 w V1 :=
  ⟨blk_below h.px hb, blk_below h.pa hb, Kd.C_below h.fx hb, Kd.C_below h.fd hb, below_then h.bel h.bel.size hb⟩
theorem KW.start (hr : FK.C w AL xs.length xs) (hr2 : (Kd.int .i64).C w AD ds.length ds) : KW W H xs AL cL ds AD cD l1 m1 d1 w ((w.alloc (.cells #[.int .i64 W, .int .i64 H, .slice AL xs.length cL, .slice AD ds.length cD] 25 (0, 0))).alloc (.cells #[.int .i64 l1, .float .f64 m1, .int .i64 d1] 28 (0, 0))) := by
  obtain ⟨h1, h2, hb⟩ := two_newK (w := w) (.cells #[.int .i64 W, .int .i64 H, .slice AL xs.length cL, .slice AD ds.length cD] 25 (0, 0)) (.cells #[.int .i64 l1, .float .f64 m1, .int .i64 d1] 28 (0, 0))
  exact ⟨h1, h2, Kd.C_below hr hb, Kd.C_below hr2 hb, hb⟩
end
/-- and the finding that was laid -/
structure KZ (W H : Int) (xs : List Nat) (AL : Option Addr) (cL : Nat) (ds : List Int) (AD : Option Addr) (cD : Nat) (l1 : Int) (m1 : Nat) (d1 : Int) (g : Nat) (lt : Int) (mm : Nat) (dd : Int) (w V : World) : Prop where
  k : KW W H xs AL cL ds AD cD l1 m1 d1 w V
  pz : V.heap[g]? = some (.cells #[.int .i64 lt, .float .f64 mm, .int .i64 dd] 28 (0, 0))
section
variable {W H : Int} {xs : List Nat} {AL : Option Addr} {cL : Nat} {ds : List Int} {AD : Option Addr} {cD : Nat} {l1 : Int} {m1 : Nat} {d1 : Int} {g : Nat} {lt : Int} {mm : Nat} {dd : Int} {w V V1 : World}
theorem KZ.next (h : KZ W H xs AL cL ds AD cD l1 m1 d1 g lt mm dd w V) (hb : Below V.heap.size V V1) : KZ W H xs AL cL ds AD cD l1 m1 d1 g lt mm dd w V1 :=
  ⟨h.k.next hb, blk_below h.pz hb⟩
theorem KZ.drew (h : KZ W H xs AL cL ds AD cD l1 m1 d1 g lt mm dd w V) (m : Nat) : KZ W H xs AL cL ds AD cD l1 m1 d1 g lt mm dd w (V.drewN m) :=
  h.next (pw_below_drewN (Below.refl _ _) m)
theorem KZ.start (h : KW W H xs AL cL ds AD cD l1 m1 d1 w V) : KZ W H xs AL cL ds AD cD l1 m1 d1 V.heap.size lt mm dd w (V.alloc (.cells #[.int .i64 lt, .float .f64 mm, .int .i64 dd] 28 (0, 0))) :=
  ⟨h.next (Below.alloc (Below.refl V.heap.size V) (Nat.le_refl _) _), blk_new V _⟩
theorem KZ.all (h : Aside0 (KZ W H xs AL cL ds AD cD l1 m1 d1 g lt mm dd w V)) : V.cell? ⟨w.heap.size, 0, none⟩ = some (.int .i64 W) ∧ V.cell? ⟨w.heap.size, 1, none⟩ = some (.int .i64 H) ∧ V.cell? ⟨w.heap.size, 2, none⟩ = some (.slice AL xs.length cL) ∧ V.cell? ⟨w.heap.size, 3, none⟩ = some (.slice AD ds.length cD) ∧ V.cell? ⟨w.heap.size + 1, 0, none⟩ = some (.int .i64 l1) ∧ V.cell? ⟨w.heap.size + 1, 1, none⟩ = some (.float .f64 m1) ∧ V.cell? ⟨w.heap.size + 1, 2, none⟩ = some (.int .i64 d1) ∧ V.cell? ⟨g, 0, none⟩ = some (.int .i64 lt) ∧ V.cell? ⟨g, 1, none⟩ = some (.float .f64 mm) ∧ V.cell? ⟨g, 2, none⟩ = some (.int .i64 dd) ∧ Aside0 (KZ W H xs AL cL ds AD cD l1 m1 d1 g lt mm dd w V) := by
  obtain ⟨k0, k1, k2, k3⟩ := pic_cells h.out.k.px
  obtain ⟨a0, a1, a2, -, -, -⟩ := pr_cells h.out.k.pa
  obtain ⟨z0, z1, z2, -, -, -⟩ := pr_cells h.out.pz
  exact ⟨k0, k1, k2, k3, a0, a1, a2, z0, z1, z2, h⟩
end
set_option maxHeartbeats 4000000 in
theorem looks_dark (W H : Int) (xs : List Nat) (AL : Option Addr) (cL : Nat) (ds : List Int) (AD : Option Addr) (cD : Nat) (l1 : Int) (m1 : Nat) (d1 : Int) (w : World) (hr : FK.C w AL xs.length xs) (hr2 : (Kd.int .i64).C w AD ds.length ds) (hf : ¬ (xs.length ≤ 300 ∧ ds.length ≤ 100)) :
    Calls Try.prog 3 #[.agg #[.int .i64 W, .int .i64 H, .slice AL xs.length cL, .slice AD ds.length cD], .agg #[.int .i64 l1, .float .f64 m1, .int .i64 d1]] w fun e w' => e = .returned (.bool true) ∧ Below w.heap.size w w' := by
  have hu := Try.underlying25
  have hu2 := Try.underlying28
  have HT := Aside0.mk (KW.start (W := W) (H := H) (cL := cL) (cD := cD) (l1 := l1) (m1 := m1) (d1 := d1) hr hr2)
  have HF := Aside0.mk (few_any W H AL xs.length cL AD ds.length cD)
  rw [decide_eq_false hf] at HF
  obtain ⟨k0, k1, k2, k3⟩ := pic_cells HT.out.px
  clear hr hr2 hf
  go_enter Try.func3, Try.ntmps3
  go_wp2_with (first
    | (go_at_call 6; with_reducible refine (HF.out _).mono ?_; rintro x w1 ⟨rfl, hb1⟩; have HT1 := Aside0.mk (HT.out.next hb1); clear hb1)
    | (go_at_call 7; refine (awake40 _).mono ?_; rintro x w2 ⟨rfl, hb2⟩; have HT2 := Aside0.mk (HT1.out.next hb2); clear hb2))
  go_ret
  exact ⟨rfl, HT2.out.bel⟩
set_option maxHeartbeats 16000000 in
theorem looks_lit (W H : Int) (xs : List Nat) (AL : Option Addr) (cL : Nat) (ds : List Int) (AD : Option Addr) (cD : Nat) (l1 : Int) (m1 : Nat) (d1 : Int) (w : World) (hr : FK.C w AL xs.length xs) (hr2 : (Kd.int .i64).C w AD ds.length ds) (hf : xs.length ≤ 300 ∧ ds.length ≤ 100) :
    Calls Try.prog 3 #[.agg #[.int .i64 W, .int .i64 H, .slice AL xs.length cL, .slice AD ds.length cD], .agg #[.int .i64 l1, .float .f64 m1, .int .i64 d1]] w fun e w' => e = .returned (.bool true) ∧ Below w.heap.size w w' := by
  have hu := Try.underlying25
  have hu2 := Try.underlying28
  have HT := Aside0.mk (KW.start (W := W) (H := H) (cL := cL) (cD := cD) (l1 := l1) (m1 := m1) (d1 := d1) hr hr2)
  have HF := Aside0.mk (few_any W H AL xs.length cL AD ds.length cD)
  rw [decide_eq_true hf] at HF
  have n1 : xs.length ≤ 300 := hf.1
  have n2 : ds.length ≤ 100 := hf.2
  have HK := Aside0.mk (fun (V : World) h1 h2 => look_any W H xs AL cL ds AD cD V h1 h2 (by omega) (by omega))
  have HD := Aside0.mk (fun (V : World) h1 h2 => rlook_any W H xs AL cL ds AD cD V h1 h2 (by omega) (by omega))
  have HG := Aside0.mk (fun (V : World) h1 h2 => good_any W H xs AL cL ds AD cD V h1 h2 (by omega) (by omega))
  have HS := Aside0.mk (rsides_any W H AL xs.length cL AD ds.length cD)
  have HGd := Aside0.mk (good_eq W H xs ds)
  have hlt := litN_le xs xs.length
  have hmm := mstN_not xs xs.length
  generalize litN xs xs.length = lt at *
  generalize mstN xs xs.length = mm at *
  generalize drpN ds ds.length = dd at *
  have he : ∀ w, (Op.equalIn 9999 26 (.float .f64 mm) (.float .f64 mm)).run Try.prog w = .ok true w := fun w => by
    rw [eqf_run, show feq mm mm = true by unfold feq; rw [order_refl hmm]; rfl]
  have hpq : peq (lt : Int) mm dd (lt : Int) mm dd = true := by
    unfold peq
    rw [show feq mm mm = true by unfold feq; rw [order_refl hmm]; rfl]
    simp
  have HSm := Aside0.mk (same_any (lt : Int) mm dd (lt : Int) mm dd)
  rw [hpq] at HSm
  have HSa := Aside0.mk (same_any (lt : Int) mm dd l1 m1 d1)
  obtain ⟨k0, k1, k2, k3⟩ := pic_cells HT.out.px
  clear hr hr2 hf hmm hpq
  have hcase : (sidesB W H = false ∧ Aside0 (goodV W H xs ds = hN (gN false xs xs.length) ds ds.length)) ∨ (sidesB W H = true ∧ 1 ≤ W ∧ W ≤ 8192 ∧ 1 ≤ H ∧ H ≤ 8192 ∧ ∃ nn mn : Int, 3 * W * H = nn ∧ W * H = mn ∧ 0 ≤ mn ∧ mn ≤ 67108864 ∧ 0 ≤ nn ∧ nn ≤ 201326592 ∧ ((((xs.length : Int) == nn) = false ∧ Aside0 (goodV W H xs ds = hN (gN false xs xs.length) ds ds.length)) ∨ (((xs.length : Int) == nn) = true ∧ ((ds.length : Int) == mn) = false ∧ Aside0 (goodV W H xs ds = hN (gN false xs xs.length) ds ds.length)) ∨ (((xs.length : Int) == nn) = true ∧ ((ds.length : Int) == mn) = true ∧ Aside0 (goodV W H xs ds = hN (gN true xs xs.length) ds ds.length)))) := by
    cases hs : sidesB W H with
    | false =>
      refine .inl ⟨rfl, ⟨?_⟩⟩
      rw [HGd.out, hs, Bool.false_and]
    | true =>
      obtain ⟨w1, w2, h1, h2, p0, p1, p2⟩ := prod_in hs
      refine .inr ⟨rfl, w1, w2, h1, h2, _, _, rfl, rfl, p0, p1, by omega, by omega, ?_⟩
      by_cases a : (xs.length : Int) = 3 * W * H
      · by_cases b : (ds.length : Int) = W * H
        · refine .inr (.inr ⟨beq_iff_eq.mpr a, beq_iff_eq.mpr b, ⟨?_⟩⟩)
          rw [HGd.out, hs, decide_eq_true a, decide_eq_true b]
          rfl
        · refine .inr (.inl ⟨beq_iff_eq.mpr a, beq_eq_false_iff_ne.mpr b, ⟨?_⟩⟩)
          rw [HGd.out, hs, decide_eq_true a, decide_eq_false b]
          rfl
      · refine .inl ⟨beq_eq_false_iff_ne.mpr a, ⟨?_⟩⟩
        rw [HGd.out, hs, decide_eq_false a]
        rfl
  clear HGd
  rcases hcase with ⟨hs, HV⟩ | ⟨hs, w1, w2, h1, h2, nn, mn, e1, e2, p0, p1, p2, p3, ⟨c1, HV⟩ | ⟨c1, c2, HV⟩ | ⟨c1, c2, HV⟩⟩
  all_goals rw [hs] at HS
  all_goals clear hs
  all_goals go_enter Try.func3, Try.ntmps3
  all_goals
    go_wp2_with (first
      | (go_at_call 6; with_reducible refine (HF.out _).mono ?_; rintro x w1 ⟨rfl, hb1⟩; have HT1 := Aside0.mk (HT.out.next hb1); obtain ⟨k0, k1, k2, k3⟩ := pic_cells HT1.out.px; clear hb1)
      | (go_at_call 8; refine (HK.out _ HT1.out.fx HT1.out.fd).mono ?_; rintro x w2 ⟨rfl, hb2⟩; have HT2 := Aside0.mk (HT1.out.next hb2); have HZ2 := Aside0.mk (KZ.start (lt := (lt : Int)) (mm := mm) (dd := dd) HT2.out); generalize hg : w2.heap.size = g at HZ2; obtain ⟨k0, k1, k2, k3⟩ := pic_cells HZ2.out.k.px; clear hb2)
      | (go_at_call 9; refine (HS.out _).mono ?_; rintro x w3 ⟨rfl, hb3⟩; have HZ3 := Aside0.mk (HZ2.out.next hb3); obtain ⟨k0, k1, k2, k3⟩ := pic_cells HZ3.out.k.px; clear hb3))
  · go_loopw [6, 7] (fun f i wr => ∃ j : Nat, j ≤ xs.length ∧ i = .int .i64 (j : Int) ∧ f = .bool (gN false xs j) ∧ Aside0 (KZ W H xs AL cL ds AD cD l1 m1 d1 g (lt : Int) mm dd w wr)) (fun _ i _ => xs.length - (intOf i).toNat)
    case atStart => exact ⟨0, Nat.zero_le _, rfl, rfl, HZ3⟩
    case round =>
      obtain ⟨j, hj, rfl, rfl, HU⟩ := hrel
      obtain ⟨k0, k1, k2, k3⟩ := pic_cells HU.out.k.px
      by_cases hlt : j < xs.length
      · have z1 : (j : Int) < (xs.length : Int) := by omega
        obtain ⟨ad, rfl, hx⟩ := at_float HU.out.k.fx j hlt
        have HS := Aside0.mk (show gN false xs (j + 1) = (gN false xs j && (isNum (xs.getD j 0) && ge0 (xs.getD j 0))) from rfl)
        have HNx := Aside0.mk (rnum_any (xs.getD j 0))
        generalize xs.getD j 0 = x at *
        generalize gN false xs j = f at *
        cases f with
        | false =>
          rw [Bool.false_and] at HS
          go_wp2
          go_roundw
          case rel => exact ⟨j + 1, by omega, by go_num, by rw [HS.out], HU⟩
          case measure => simp [intOf]; omega
        | true =>
          rw [Bool.true_and] at HS
          generalize isNum x = b at *
          cases b with
          | false =>
            rw [Bool.false_and] at HS
            go_wp2_with (go_at_call 10; with_reducible refine (HNx.out _).mono ?_; rintro q w2 ⟨rfl, m2, rfl⟩)
            go_roundw
            case rel => exact ⟨j + 1, by omega, by go_num, by rw [HS.out], ⟨HU.out.drew _⟩⟩
            case measure => simp [intOf]; omega
          | true =>
            rw [Bool.true_and] at HS
            cases hge : ge0 x with
            | true =>
              rw [hge] at HS
              have d1 : (FloatKind.f64.format.order x 0 == some .gt || FloatKind.f64.format.order x 0 == some .eq) = true := hge
              clear hge
              go_wp2_with (go_at_call 10; with_reducible refine (HNx.out _).mono ?_; rintro q w2 ⟨rfl, m2, rfl⟩)
              go_roundw
              case rel => exact ⟨j + 1, by omega, by go_num, by rw [HS.out], ⟨HU.out.drew _⟩⟩
              case measure => simp [intOf]; omega
            | false =>
              rw [hge] at HS
              have d1 : (FloatKind.f64.format.order x 0 == some .gt || FloatKind.f64.format.order x 0 == some .eq) = false := hge
              clear hge
              go_wp2_with (go_at_call 10; with_reducible refine (HNx.out _).mono ?_; rintro q w2 ⟨rfl, m2, rfl⟩)
              go_roundw
              case rel => exact ⟨j + 1, by omega, by go_num, by rw [HS.out], ⟨HU.out.drew _⟩⟩
              case measure => simp [intOf]; omega
      · have e : j = xs.length := by omega
        subst e
        generalize gN false xs xs.length = f0 at *
        go_wp2
        go_loopw [6, 8] (fun f i wr => ∃ j : Nat, j ≤ ds.length ∧ i = .int .i64 (j : Int) ∧ f = .bool (hN f0 ds j) ∧ Aside0 (KZ W H xs AL cL ds AD cD l1 m1 d1 g (lt : Int) mm dd w wr)) (fun _ i _ => ds.length - (intOf i).toNat)
        case atStart => exact ⟨0, Nat.zero_le _, rfl, rfl, HU⟩
        case round =>
          clear HU
          obtain ⟨j, hj, rfl, rfl, HU⟩ := hrel
          obtain ⟨k0, k1, k2, k3⟩ := pic_cells HU.out.k.px
          by_cases hlt : j < ds.length
          · have z1 : (j : Int) < (ds.length : Int) := by omega
            obtain ⟨ad, rfl, hx⟩ := at_i64 HU.out.k.fd j hlt
            have HS := Aside0.mk (show hN f0 ds (j + 1) = (hN f0 ds j && decide (0 ≤ ds.getD j 0)) from rfl)
            generalize ds.getD j 0 = d at *
            generalize hN f0 ds j = f at *
            cases f with
            | false =>
              rw [Bool.false_and] at HS
              go_wp2
              go_roundw
              case rel => exact ⟨j + 1, by omega, by go_num, by rw [HS.out], HU⟩
              case measure => simp [intOf]; omega
            | true =>
              rw [Bool.true_and] at HS
              go_wp2
              go_roundw
              case rel => exact ⟨j + 1, by omega, by go_num, by rw [HS.out], HU⟩
              case measure => simp [intOf]; omega
          · have e : j = ds.length := by omega
            subst e
            rw [← HV.out]
            generalize goodV W H xs ds = gv at *
            clear HK HS HF HT HT1 HT2 HZ2 HZ3 HV
            have HU1 := Aside0.mk (HU.out.next (below_drew (Below.refl _ _)))
            obtain ⟨k0, k1, k2, k3, a0, a1, a2, z0, z1, z2, -⟩ := KZ.all HU1
            have hpe := eqp_run (lt : Int) mm dd l1 m1 d1
            generalize peq (lt : Int) mm dd l1 m1 d1 = pe at *
            go_wp2
            go_region_held3 (fun w' => w'.cell? ⟨w.heap.size, 0, none⟩ = some (.int .i64 W) ∧ w'.cell? ⟨w.heap.size, 1, none⟩ = some (.int .i64 H) ∧ w'.cell? ⟨w.heap.size, 2, none⟩ = some (.slice AL xs.length cL) ∧ w'.cell? ⟨w.heap.size, 3, none⟩ = some (.slice AD ds.length cD) ∧ w'.cell? ⟨w.heap.size + 1, 0, none⟩ = some (.int .i64 l1) ∧ w'.cell? ⟨w.heap.size + 1, 1, none⟩ = some (.float .f64 m1) ∧ w'.cell? ⟨w.heap.size + 1, 2, none⟩ = some (.int .i64 d1) ∧ w'.cell? ⟨g, 0, none⟩ = some (.int .i64 (lt : Int)) ∧ w'.cell? ⟨g, 1, none⟩ = some (.float .f64 mm) ∧ w'.cell? ⟨g, 2, none⟩ = some (.int .i64 dd) ∧ Aside0 (KZ W H xs AL cL ds AD cD l1 m1 d1 g (lt : Int) mm dd w w')) (first | (go_keep; done) | exact KZ.all (by assumption))
              (first
                | (go_at_call 7; refine (awake40 _).mono ?_; rintro x w5 ⟨rfl, hb5⟩; have H5 := Aside0.mk (KZ.next (Aside0.out (by assumption)) hb5))
                | (go_at_call 11; refine (HD.out _ (KZ.k (Aside0.out (by assumption))).fx (KZ.k (Aside0.out (by assumption))).fd).mono ?_; rintro x w6 ⟨rfl, hb6⟩; have H6 := Aside0.mk (KZ.next (Aside0.out (by assumption)) hb6))
                | (go_at_call 12; refine (HG.out _ (KZ.k (Aside0.out (by assumption))).fx (KZ.k (Aside0.out (by assumption))).fd).mono ?_; rintro x w7 ⟨rfl, hb7⟩; have H7 := Aside0.mk (KZ.next (Aside0.out (by assumption)) hb7))
                | (go_at_call 13; with_reducible refine (HSa.out _).mono ?_; rintro x w8 ⟨rfl, hb8⟩; have H8 := Aside0.mk (KZ.next (Aside0.out (by assumption)) hb8))
                | (go_at_call 13; with_reducible refine (HSm.out _).mono ?_; rintro x w9 ⟨rfl, hb9⟩; have H9 := Aside0.mk (KZ.next (Aside0.out (by assumption)) hb9)))
            go_wp2
            go_ret
            exact ⟨rfl, (KZ.k (Aside0.out (by assumption))).bel⟩
  · go_loopw [6, 7] (fun f i wr => ∃ j : Nat, j ≤ xs.length ∧ i = .int .i64 (j : Int) ∧ f = .bool (gN false xs j) ∧ Aside0 (KZ W H xs AL cL ds AD cD l1 m1 d1 g (lt : Int) mm dd w wr)) (fun _ i _ => xs.length - (intOf i).toNat)
    case atStart => exact ⟨0, Nat.zero_le _, rfl, rfl, HZ3⟩
    case round =>
      obtain ⟨j, hj, rfl, rfl, HU⟩ := hrel
      obtain ⟨k0, k1, k2, k3⟩ := pic_cells HU.out.k.px
      by_cases hlt : j < xs.length
      · have z1 : (j : Int) < (xs.length : Int) := by omega
        obtain ⟨ad, rfl, hx⟩ := at_float HU.out.k.fx j hlt
        have HS := Aside0.mk (show gN false xs (j + 1) = (gN false xs j && (isNum (xs.getD j 0) && ge0 (xs.getD j 0))) from rfl)
        have HNx := Aside0.mk (rnum_any (xs.getD j 0))
        generalize xs.getD j 0 = x at *
        generalize gN false xs j = f at *
        cases f with
        | false =>
          rw [Bool.false_and] at HS
          go_wp2
          go_roundw
          case rel => exact ⟨j + 1, by omega, by go_num, by rw [HS.out], HU⟩
          case measure => simp [intOf]; omega
        | true =>
          rw [Bool.true_and] at HS
          generalize isNum x = b at *
          cases b with
          | false =>
            rw [Bool.false_and] at HS
            go_wp2_with (go_at_call 10; with_reducible refine (HNx.out _).mono ?_; rintro q w2 ⟨rfl, m2, rfl⟩)
            go_roundw
            case rel => exact ⟨j + 1, by omega, by go_num, by rw [HS.out], ⟨HU.out.drew _⟩⟩
            case measure => simp [intOf]; omega
          | true =>
            rw [Bool.true_and] at HS
            cases hge : ge0 x with
            | true =>
              rw [hge] at HS
              have d1 : (FloatKind.f64.format.order x 0 == some .gt || FloatKind.f64.format.order x 0 == some .eq) = true := hge
              clear hge
              go_wp2_with (go_at_call 10; with_reducible refine (HNx.out _).mono ?_; rintro q w2 ⟨rfl, m2, rfl⟩)
              go_roundw
              case rel => exact ⟨j + 1, by omega, by go_num, by rw [HS.out], ⟨HU.out.drew _⟩⟩
              case measure => simp [intOf]; omega
            | false =>
              rw [hge] at HS
              have d1 : (FloatKind.f64.format.order x 0 == some .gt || FloatKind.f64.format.order x 0 == some .eq) = false := hge
              clear hge
              go_wp2_with (go_at_call 10; with_reducible refine (HNx.out _).mono ?_; rintro q w2 ⟨rfl, m2, rfl⟩)
              go_roundw
              case rel => exact ⟨j + 1, by omega, by go_num, by rw [HS.out], ⟨HU.out.drew _⟩⟩
              case measure => simp [intOf]; omega
      · have e : j = xs.length := by omega
        subst e
        generalize gN false xs xs.length = f0 at *
        go_wp2
        go_loopw [6, 8] (fun f i wr => ∃ j : Nat, j ≤ ds.length ∧ i = .int .i64 (j : Int) ∧ f = .bool (hN f0 ds j) ∧ Aside0 (KZ W H xs AL cL ds AD cD l1 m1 d1 g (lt : Int) mm dd w wr)) (fun _ i _ => ds.length - (intOf i).toNat)
        case atStart => exact ⟨0, Nat.zero_le _, rfl, rfl, HU⟩
        case round =>
          clear HU
          obtain ⟨j, hj, rfl, rfl, HU⟩ := hrel
          obtain ⟨k0, k1, k2, k3⟩ := pic_cells HU.out.k.px
          by_cases hlt : j < ds.length
          · have z1 : (j : Int) < (ds.length : Int) := by omega
            obtain ⟨ad, rfl, hx⟩ := at_i64 HU.out.k.fd j hlt
            have HS := Aside0.mk (show hN f0 ds (j + 1) = (hN f0 ds j && decide (0 ≤ ds.getD j 0)) from rfl)
            generalize ds.getD j 0 = d at *
            generalize hN f0 ds j = f at *
            cases f with
            | false =>
              rw [Bool.false_and] at HS
              go_wp2
              go_roundw
              case rel => exact ⟨j + 1, by omega, by go_num, by rw [HS.out], HU⟩
              case measure => simp [intOf]; omega
            | true =>
              rw [Bool.true_and] at HS
              go_wp2
              go_roundw
              case rel => exact ⟨j + 1, by omega, by go_num, by rw [HS.out], HU⟩
              case measure => simp [intOf]; omega
          · have e : j = ds.length := by omega
            subst e
            rw [← HV.out]
            generalize goodV W H xs ds = gv at *
            clear HK HS HF HT HT1 HT2 HZ2 HZ3 HV
            have HU1 := Aside0.mk (HU.out.next (below_drew (Below.refl _ _)))
            obtain ⟨k0, k1, k2, k3, a0, a1, a2, z0, z1, z2, -⟩ := KZ.all HU1
            have hpe := eqp_run (lt : Int) mm dd l1 m1 d1
            generalize peq (lt : Int) mm dd l1 m1 d1 = pe at *
            go_wp2
            go_region_held3 (fun w' => w'.cell? ⟨w.heap.size, 0, none⟩ = some (.int .i64 W) ∧ w'.cell? ⟨w.heap.size, 1, none⟩ = some (.int .i64 H) ∧ w'.cell? ⟨w.heap.size, 2, none⟩ = some (.slice AL xs.length cL) ∧ w'.cell? ⟨w.heap.size, 3, none⟩ = some (.slice AD ds.length cD) ∧ w'.cell? ⟨w.heap.size + 1, 0, none⟩ = some (.int .i64 l1) ∧ w'.cell? ⟨w.heap.size + 1, 1, none⟩ = some (.float .f64 m1) ∧ w'.cell? ⟨w.heap.size + 1, 2, none⟩ = some (.int .i64 d1) ∧ w'.cell? ⟨g, 0, none⟩ = some (.int .i64 (lt : Int)) ∧ w'.cell? ⟨g, 1, none⟩ = some (.float .f64 mm) ∧ w'.cell? ⟨g, 2, none⟩ = some (.int .i64 dd) ∧ Aside0 (KZ W H xs AL cL ds AD cD l1 m1 d1 g (lt : Int) mm dd w w')) (first | (go_keep; done) | exact KZ.all (by assumption))
              (first
                | (go_at_call 7; refine (awake40 _).mono ?_; rintro x w5 ⟨rfl, hb5⟩; have H5 := Aside0.mk (KZ.next (Aside0.out (by assumption)) hb5))
                | (go_at_call 11; refine (HD.out _ (KZ.k (Aside0.out (by assumption))).fx (KZ.k (Aside0.out (by assumption))).fd).mono ?_; rintro x w6 ⟨rfl, hb6⟩; have H6 := Aside0.mk (KZ.next (Aside0.out (by assumption)) hb6))
                | (go_at_call 12; refine (HG.out _ (KZ.k (Aside0.out (by assumption))).fx (KZ.k (Aside0.out (by assumption))).fd).mono ?_; rintro x w7 ⟨rfl, hb7⟩; have H7 := Aside0.mk (KZ.next (Aside0.out (by assumption)) hb7))
                | (go_at_call 13; with_reducible refine (HSa.out _).mono ?_; rintro x w8 ⟨rfl, hb8⟩; have H8 := Aside0.mk (KZ.next (Aside0.out (by assumption)) hb8))
                | (go_at_call 13; with_reducible refine (HSm.out _).mono ?_; rintro x w9 ⟨rfl, hb9⟩; have H9 := Aside0.mk (KZ.next (Aside0.out (by assumption)) hb9)))
            go_wp2
            go_ret
            exact ⟨rfl, (KZ.k (Aside0.out (by assumption))).bel⟩
  · go_loopw [6, 7] (fun f i wr => ∃ j : Nat, j ≤ xs.length ∧ i = .int .i64 (j : Int) ∧ f = .bool (gN false xs j) ∧ Aside0 (KZ W H xs AL cL ds AD cD l1 m1 d1 g (lt : Int) mm dd w wr)) (fun _ i _ => xs.length - (intOf i).toNat)
    case atStart => exact ⟨0, Nat.zero_le _, rfl, rfl, HZ3⟩
    case round =>
      obtain ⟨j, hj, rfl, rfl, HU⟩ := hrel
      obtain ⟨k0, k1, k2, k3⟩ := pic_cells HU.out.k.px
      by_cases hlt : j < xs.length
      · have z1 : (j : Int) < (xs.length : Int) := by omega
        obtain ⟨ad, rfl, hx⟩ := at_float HU.out.k.fx j hlt
        have HS := Aside0.mk (show gN false xs (j + 1) = (gN false xs j && (isNum (xs.getD j 0) && ge0 (xs.getD j 0))) from rfl)
        have HNx := Aside0.mk (rnum_any (xs.getD j 0))
        generalize xs.getD j 0 = x at *
        generalize gN false xs j = f at *
        cases f with
        | false =>
          rw [Bool.false_and] at HS
          go_wp2
          go_roundw
          case rel => exact ⟨j + 1, by omega, by go_num, by rw [HS.out], HU⟩
          case measure => simp [intOf]; omega
        | true =>
          rw [Bool.true_and] at HS
          generalize isNum x = b at *
          cases b with
          | false =>
            rw [Bool.false_and] at HS
            go_wp2_with (go_at_call 10; with_reducible refine (HNx.out _).mono ?_; rintro q w2 ⟨rfl, m2, rfl⟩)
            go_roundw
            case rel => exact ⟨j + 1, by omega, by go_num, by rw [HS.out], ⟨HU.out.drew _⟩⟩
            case measure => simp [intOf]; omega
          | true =>
            rw [Bool.true_and] at HS
            cases hge : ge0 x with
            | true =>
              rw [hge] at HS
              have d1 : (FloatKind.f64.format.order x 0 == some .gt || FloatKind.f64.format.order x 0 == some .eq) = true := hge
              clear hge
              go_wp2_with (go_at_call 10; with_reducible refine (HNx.out _).mono ?_; rintro q w2 ⟨rfl, m2, rfl⟩)
              go_roundw
              case rel => exact ⟨j + 1, by omega, by go_num, by rw [HS.out], ⟨HU.out.drew _⟩⟩
              case measure => simp [intOf]; omega
            | false =>
              rw [hge] at HS
              have d1 : (FloatKind.f64.format.order x 0 == some .gt || FloatKind.f64.format.order x 0 == some .eq) = false := hge
              clear hge
              go_wp2_with (go_at_call 10; with_reducible refine (HNx.out _).mono ?_; rintro q w2 ⟨rfl, m2, rfl⟩)
              go_roundw
              case rel => exact ⟨j + 1, by omega, by go_num, by rw [HS.out], ⟨HU.out.drew _⟩⟩
              case measure => simp [intOf]; omega
      · have e : j = xs.length := by omega
        subst e
        generalize gN false xs xs.length = f0 at *
        go_wp2
        go_loopw [6, 8] (fun f i wr => ∃ j : Nat, j ≤ ds.length ∧ i = .int .i64 (j : Int) ∧ f = .bool (hN f0 ds j) ∧ Aside0 (KZ W H xs AL cL ds AD cD l1 m1 d1 g (lt : Int) mm dd w wr)) (fun _ i _ => ds.length - (intOf i).toNat)
        case atStart => exact ⟨0, Nat.zero_le _, rfl, rfl, HU⟩
        case round =>
          clear HU
          obtain ⟨j, hj, rfl, rfl, HU⟩ := hrel
          obtain ⟨k0, k1, k2, k3⟩ := pic_cells HU.out.k.px
          by_cases hlt : j < ds.length
          · have z1 : (j : Int) < (ds.length : Int) := by omega
            obtain ⟨ad, rfl, hx⟩ := at_i64 HU.out.k.fd j hlt
            have HS := Aside0.mk (show hN f0 ds (j + 1) = (hN f0 ds j && decide (0 ≤ ds.getD j 0)) from rfl)
            generalize ds.getD j 0 = d at *
            generalize hN f0 ds j = f at *
            cases f with
            | false =>
              rw [Bool.false_and] at HS
              go_wp2
              go_roundw
              case rel => exact ⟨j + 1, by omega, by go_num, by rw [HS.out], HU⟩
              case measure => simp [intOf]; omega
            | true =>
              rw [Bool.true_and] at HS
              go_wp2
              go_roundw
              case rel => exact ⟨j + 1, by omega, by go_num, by rw [HS.out], HU⟩
              case measure => simp [intOf]; omega
          · have e : j = ds.length := by omega
            subst e
            rw [← HV.out]
            generalize goodV W H xs ds = gv at *
            clear HK HS HF HT HT1 HT2 HZ2 HZ3 HV
            have HU1 := Aside0.mk (HU.out.next (below_drew (Below.refl _ _)))
            obtain ⟨k0, k1, k2, k3, a0, a1, a2, z0, z1, z2, -⟩ := KZ.all HU1
            have hpe := eqp_run (lt : Int) mm dd l1 m1 d1
            generalize peq (lt : Int) mm dd l1 m1 d1 = pe at *
            go_wp2
            go_region_held3 (fun w' => w'.cell? ⟨w.heap.size, 0, none⟩ = some (.int .i64 W) ∧ w'.cell? ⟨w.heap.size, 1, none⟩ = some (.int .i64 H) ∧ w'.cell? ⟨w.heap.size, 2, none⟩ = some (.slice AL xs.length cL) ∧ w'.cell? ⟨w.heap.size, 3, none⟩ = some (.slice AD ds.length cD) ∧ w'.cell? ⟨w.heap.size + 1, 0, none⟩ = some (.int .i64 l1) ∧ w'.cell? ⟨w.heap.size + 1, 1, none⟩ = some (.float .f64 m1) ∧ w'.cell? ⟨w.heap.size + 1, 2, none⟩ = some (.int .i64 d1) ∧ w'.cell? ⟨g, 0, none⟩ = some (.int .i64 (lt : Int)) ∧ w'.cell? ⟨g, 1, none⟩ = some (.float .f64 mm) ∧ w'.cell? ⟨g, 2, none⟩ = some (.int .i64 dd) ∧ Aside0 (KZ W H xs AL cL ds AD cD l1 m1 d1 g (lt : Int) mm dd w w')) (first | (go_keep; done) | exact KZ.all (by assumption))
              (first
                | (go_at_call 7; refine (awake40 _).mono ?_; rintro x w5 ⟨rfl, hb5⟩; have H5 := Aside0.mk (KZ.next (Aside0.out (by assumption)) hb5))
                | (go_at_call 11; refine (HD.out _ (KZ.k (Aside0.out (by assumption))).fx (KZ.k (Aside0.out (by assumption))).fd).mono ?_; rintro x w6 ⟨rfl, hb6⟩; have H6 := Aside0.mk (KZ.next (Aside0.out (by assumption)) hb6))
                | (go_at_call 12; refine (HG.out _ (KZ.k (Aside0.out (by assumption))).fx (KZ.k (Aside0.out (by assumption))).fd).mono ?_; rintro x w7 ⟨rfl, hb7⟩; have H7 := Aside0.mk (KZ.next (Aside0.out (by assumption)) hb7))
                | (go_at_call 13; with_reducible refine (HSa.out _).mono ?_; rintro x w8 ⟨rfl, hb8⟩; have H8 := Aside0.mk (KZ.next (Aside0.out (by assumption)) hb8))
                | (go_at_call 13; with_reducible refine (HSm.out _).mono ?_; rintro x w9 ⟨rfl, hb9⟩; have H9 := Aside0.mk (KZ.next (Aside0.out (by assumption)) hb9)))
            go_wp2
            go_ret
            exact ⟨rfl, (KZ.k (Aside0.out (by assumption))).bel⟩
  · go_loopw [6, 7] (fun f i wr => ∃ j : Nat, j ≤ xs.length ∧ i = .int .i64 (j : Int) ∧ f = .bool (gN true xs j) ∧ Aside0 (KZ W H xs AL cL ds AD cD l1 m1 d1 g (lt : Int) mm dd w wr)) (fun _ i _ => xs.length - (intOf i).toNat)
    case atStart => exact ⟨0, Nat.zero_le _, rfl, rfl, HZ3⟩
    case round =>
      obtain ⟨j, hj, rfl, rfl, HU⟩ := hrel
      obtain ⟨k0, k1, k2, k3⟩ := pic_cells HU.out.k.px
      by_cases hlt : j < xs.length
      · have z1 : (j : Int) < (xs.length : Int) := by omega
        obtain ⟨ad, rfl, hx⟩ := at_float HU.out.k.fx j hlt
        have HS := Aside0.mk (show gN true xs (j + 1) = (gN true xs j && (isNum (xs.getD j 0) && ge0 (xs.getD j 0))) from rfl)
        have HNx := Aside0.mk (rnum_any (xs.getD j 0))
        generalize xs.getD j 0 = x at *
        generalize gN true xs j = f at *
        cases f with
        | false =>
          rw [Bool.false_and] at HS
          go_wp2
          go_roundw
          case rel => exact ⟨j + 1, by omega, by go_num, by rw [HS.out], HU⟩
          case measure => simp [intOf]; omega
        | true =>
          rw [Bool.true_and] at HS
          generalize isNum x = b at *
          cases b with
          | false =>
            rw [Bool.false_and] at HS
            go_wp2_with (go_at_call 10; with_reducible refine (HNx.out _).mono ?_; rintro q w2 ⟨rfl, m2, rfl⟩)
            go_roundw
            case rel => exact ⟨j + 1, by omega, by go_num, by rw [HS.out], ⟨HU.out.drew _⟩⟩
            case measure => simp [intOf]; omega
          | true =>
            rw [Bool.true_and] at HS
            cases hge : ge0 x with
            | true =>
              rw [hge] at HS
              have d1 : (FloatKind.f64.format.order x 0 == some .gt || FloatKind.f64.format.order x 0 == some .eq) = true := hge
              clear hge
              go_wp2_with (go_at_call 10; with_reducible refine (HNx.out _).mono ?_; rintro q w2 ⟨rfl, m2, rfl⟩)
              go_roundw
              case rel => exact ⟨j + 1, by omega, by go_num, by rw [HS.out], ⟨HU.out.drew _⟩⟩
              case measure => simp [intOf]; omega
            | false =>
              rw [hge] at HS
              have d1 : (FloatKind.f64.format.order x 0 == some .gt || FloatKind.f64.format.order x 0 == some .eq) = false := hge
              clear hge
              go_wp2_with (go_at_call 10; with_reducible refine (HNx.out _).mono ?_; rintro q w2 ⟨rfl, m2, rfl⟩)
              go_roundw
              case rel => exact ⟨j + 1, by omega, by go_num, by rw [HS.out], ⟨HU.out.drew _⟩⟩
              case measure => simp [intOf]; omega
      · have e : j = xs.length := by omega
        subst e
        generalize gN true xs xs.length = f0 at *
        go_wp2
        go_loopw [6, 8] (fun f i wr => ∃ j : Nat, j ≤ ds.length ∧ i = .int .i64 (j : Int) ∧ f = .bool (hN f0 ds j) ∧ Aside0 (KZ W H xs AL cL ds AD cD l1 m1 d1 g (lt : Int) mm dd w wr)) (fun _ i _ => ds.length - (intOf i).toNat)
        case atStart => exact ⟨0, Nat.zero_le _, rfl, rfl, HU⟩
        case round =>
          clear HU
          obtain ⟨j, hj, rfl, rfl, HU⟩ := hrel
          obtain ⟨k0, k1, k2, k3⟩ := pic_cells HU.out.k.px
          by_cases hlt : j < ds.length
          · have z1 : (j : Int) < (ds.length : Int) := by omega
            obtain ⟨ad, rfl, hx⟩ := at_i64 HU.out.k.fd j hlt
            have HS := Aside0.mk (show hN f0 ds (j + 1) = (hN f0 ds j && decide (0 ≤ ds.getD j 0)) from rfl)
            generalize ds.getD j 0 = d at *
            generalize hN f0 ds j = f at *
            cases f with
            | false =>
              rw [Bool.false_and] at HS
              go_wp2
              go_roundw
              case rel => exact ⟨j + 1, by omega, by go_num, by rw [HS.out], HU⟩
              case measure => simp [intOf]; omega
            | true =>
              rw [Bool.true_and] at HS
              go_wp2
              go_roundw
              case rel => exact ⟨j + 1, by omega, by go_num, by rw [HS.out], HU⟩
              case measure => simp [intOf]; omega
          · have e : j = ds.length := by omega
            subst e
            rw [← HV.out]
            generalize goodV W H xs ds = gv at *
            clear HK HS HF HT HT1 HT2 HZ2 HZ3 HV
            have HU1 := Aside0.mk (HU.out.next (below_drew (Below.refl _ _)))
            obtain ⟨k0, k1, k2, k3, a0, a1, a2, z0, z1, z2, -⟩ := KZ.all HU1
            have hpe := eqp_run (lt : Int) mm dd l1 m1 d1
            generalize peq (lt : Int) mm dd l1 m1 d1 = pe at *
            go_wp2
            go_region_held3 (fun w' => w'.cell? ⟨w.heap.size, 0, none⟩ = some (.int .i64 W) ∧ w'.cell? ⟨w.heap.size, 1, none⟩ = some (.int .i64 H) ∧ w'.cell? ⟨w.heap.size, 2, none⟩ = some (.slice AL xs.length cL) ∧ w'.cell? ⟨w.heap.size, 3, none⟩ = some (.slice AD ds.length cD) ∧ w'.cell? ⟨w.heap.size + 1, 0, none⟩ = some (.int .i64 l1) ∧ w'.cell? ⟨w.heap.size + 1, 1, none⟩ = some (.float .f64 m1) ∧ w'.cell? ⟨w.heap.size + 1, 2, none⟩ = some (.int .i64 d1) ∧ w'.cell? ⟨g, 0, none⟩ = some (.int .i64 (lt : Int)) ∧ w'.cell? ⟨g, 1, none⟩ = some (.float .f64 mm) ∧ w'.cell? ⟨g, 2, none⟩ = some (.int .i64 dd) ∧ Aside0 (KZ W H xs AL cL ds AD cD l1 m1 d1 g (lt : Int) mm dd w w')) (first | (go_keep; done) | exact KZ.all (by assumption))
              (first
                | (go_at_call 7; refine (awake40 _).mono ?_; rintro x w5 ⟨rfl, hb5⟩; have H5 := Aside0.mk (KZ.next (Aside0.out (by assumption)) hb5))
                | (go_at_call 11; refine (HD.out _ (KZ.k (Aside0.out (by assumption))).fx (KZ.k (Aside0.out (by assumption))).fd).mono ?_; rintro x w6 ⟨rfl, hb6⟩; have H6 := Aside0.mk (KZ.next (Aside0.out (by assumption)) hb6))
                | (go_at_call 12; refine (HG.out _ (KZ.k (Aside0.out (by assumption))).fx (KZ.k (Aside0.out (by assumption))).fd).mono ?_; rintro x w7 ⟨rfl, hb7⟩; have H7 := Aside0.mk (KZ.next (Aside0.out (by assumption)) hb7))
                | (go_at_call 13; with_reducible refine (HSa.out _).mono ?_; rintro x w8 ⟨rfl, hb8⟩; have H8 := Aside0.mk (KZ.next (Aside0.out (by assumption)) hb8))
                | (go_at_call 13; with_reducible refine (HSm.out _).mono ?_; rintro x w9 ⟨rfl, hb9⟩; have H9 := Aside0.mk (KZ.next (Aside0.out (by assumption)) hb9)))
            go_wp2
            go_ret
            exact ⟨rfl, (KZ.k (Aside0.out (by assumption))).bel⟩
theorem probeLooks_any (W H : Int) (xs : List Nat) (AL : Option Addr) (cL : Nat) (ds : List Int) (AD : Option Addr) (cD : Nat) (l1 : Int) (m1 : Nat) (d1 : Int) (w : World) (hr : FK.C w AL xs.length xs) (hr2 : (Kd.int .i64).C w AD ds.length ds) :
    Calls Try.prog 3 #[.agg #[.int .i64 W, .int .i64 H, .slice AL xs.length cL, .slice AD ds.length cD], .agg #[.int .i64 l1, .float .f64 m1, .int .i64 d1]] w fun e w' => e = .returned (.bool true) ∧ Below w.heap.size w w' := by
  by_cases hf : xs.length ≤ 300 ∧ ds.length ≤ 100
  · exact looks_lit W H xs AL cL ds AD cD l1 m1 d1 w hr hr2 hf
  · exact looks_dark W H xs AL cL ds AD cD l1 m1 d1 w hr hr2 hf
end Go.Proofs.Ytaikeldhdbejaaa.Gv
