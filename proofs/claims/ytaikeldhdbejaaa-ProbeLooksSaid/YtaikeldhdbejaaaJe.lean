/- package probe: Look, by hand. -/
import Derived.Test.YtaikeldhdbejaaaJd
import Derived.Laws.Rows
namespace Go.Proofs.Ytaikeldhdbejaaa.Gv
open Go.RowKit Go.Proofs.YtaikeldhdbejaaaW.PrintWords Go.Proofs.YtaikeldhdbejaaaW.PrintLast Go.Proofs.YtaikeldhdbejaaaW.PrintMore
attribute [local go_sem] max2_int min2_int max_two min_two max_three min_three
theorem run_store_float (P : Program) (w : World) (a : Addr) (m : Mode) (k : FloatKind) (b : Nat) : (store a (.float k b) m).run P w = stored P w a (.float k b) m := run_store P w a _ m rfl
attribute [local go_sem] run_store_float
def gt0 (x : Nat) : Bool := FloatKind.f64.format.order x 0 == some .gt
def litN (xs : List Nat) : Nat → Nat
  | 0 => 0
  | j + 1 => litN xs j + (if gt0 (xs.getD j 0) = true then 1 else 0)
def mstN (xs : List Nat) : Nat → Nat
  | 0 => 0
  | j + 1 => if gt0 (xs.getD j 0) && isNum (xs.getD j 0) then fmax (mstN xs j) (xs.getD j 0) else mstN xs j
def clampD (d : Int) : Int := if 2147483647 < (if d < 0 then 0 else d) then 2147483647 else (if d < 0 then 0 else d)
def drpN (ds : List Int) : Nat → Int
  | 0 => 0
  | j + 1 => wrap64 (drpN ds j + clampD (ds.getD j 0))
theorem litN_le (xs : List Nat) : ∀ j, litN xs j ≤ j
  | 0 => Nat.le_refl _
  | j + 1 => by
    have := litN_le xs j
    rw [litN]
    split <;> omega
theorem mstN_not (xs : List Nat) : ∀ j, notNan (mstN xs j)
  | 0 => zero_not
  | j + 1 => by
    rw [mstN]
    cases h : isNum (xs.getD j 0) with
    | false => rw [Bool.and_false]; exact mstN_not xs j
    | true =>
      split
      · exact fmax_not (mstN_not xs j) (num_not h)
      · exact mstN_not xs j
theorem pr_cells {w : World} {g : Nat} {t : TypeId} {a b c : Value} (h : w.heap[g]? = some (.cells #[a, b, c] t (0, 0))) : w.cell? ⟨g, 0, none⟩ = some a ∧ w.cell? ⟨g, 1, none⟩ = some b ∧ w.cell? ⟨g, 2, none⟩ = some c ∧ w.frozen? ⟨g, 0, none⟩ = false ∧ w.frozen? ⟨g, 1, none⟩ = false ∧ w.frozen? ⟨g, 2, none⟩ = false :=
  ⟨(blk_cell h 0).trans rfl, (blk_cell h 1).trans rfl, (blk_cell h 2).trans rfl, blk_frozen h 0, blk_frozen h 1, blk_frozen h 2⟩
theorem set_grown (w : World) (g i : Nat) (v : Value) : w.grownBy (w.setCell ⟨g, i, none⟩ v) (some g) := ⟨rfl, rfl, rfl, by simp [World.setCell], fun k _ hk => Below.heap_setCell _ _ _ _ (fun e => hk (by rw [e]))⟩
set_option maxHeartbeats 4000000 in
theorem look1_any (g l x m : Nat) (d : Int) (w : World) (hl : l ≤ 1000000) (hm : notNan m) (h : w.heap[g]? = some (.cells #[.int .i64 (l : Int), .float .f64 m, .int .i64 d] 28 (0, 0))) :
    Calls Try.prog 19 #[.float .f64 x, .pointer (some ⟨g, 0, none⟩)] w fun e w' => e = .returned (.tuple #[]) ∧ w'.heap[g]? = some (.cells #[.int .i64 ((l + (if gt0 x = true then 1 else 0) : Nat) : Int), .float .f64 (if gt0 x && isNum x then fmax m x else m), .int .i64 d] 28 (0, 0)) ∧ w.grownBy w' (some g) := by
  have HB := Aside0.mk h
  have HN := Aside0.mk (vnum_any x)
  obtain ⟨k0, k1, k2, f0, f1, f2⟩ := pr_cells h
  clear h
  cases c : gt0 x with
  | false =>
    have d1 : (FloatKind.f64.format.order x 0 == some .gt) = false := c
    clear c
    go_enter Try.func19, Try.ntmps19
    go_wp2
    refine bodyPost_ret (results_none rfl _ _ _) rfl ?_
    exact ⟨rfl, HB.out, ⟨rfl, rfl, rfl, Nat.le_refl _, fun _ _ _ => rfl⟩⟩
  | true =>
    have d1 : (FloatKind.f64.format.order x 0 == some .gt) = true := c
    clear c
    have b1 := blk_put HB.out 0 (.int .i64 ((l : Int) + 1)) (cs' := #[.int .i64 ((l : Int) + 1), .float .f64 m, .int .i64 d]) rfl
    obtain ⟨a0, a1, a2, g0, g1, g2⟩ := pr_cells b1
    have e1 : ((l + (if true = true then 1 else 0) : Nat) : Int) = (l : Int) + 1 := by simp
    cases hn : isNum x with
    | false =>
      rw [hn] at HN
      clear hn
      go_enter Try.func19, Try.ntmps19
      go_wp2_with (go_at_call 20; refine (HN.out _).mono ?_; rintro y w1 ⟨rfl, rfl⟩)
      go_end0
      exact ⟨rfl, by first | exact b1 | (rw [e1]; exact b1), set_grown _ _ _ _⟩
    | true =>
      have f1m := fmax_run (order_not hm (num_not hn))
      rw [hn] at HN
      clear hn
      go_enter Try.func19, Try.ntmps19
      go_wp2_with (go_at_call 20; refine (HN.out _).mono ?_; rintro y w1 ⟨rfl, rfl⟩)
      go_end0
      exact ⟨rfl, by first | exact blk_put b1 1 _ rfl | (rw [e1]; exact blk_put b1 1 _ rfl), World.grownBy.trans (set_grown _ _ _ _) (set_grown _ _ _ _)⟩
theorem grown_belowJ {W W1 : World} {g b : Nat} {w : World} (h : Below b w W) (hg : W.grownBy W1 (some g)) (hb : b ≤ W.heap.size) (hg2 : b ≤ g) : Below b w W1 := h.grown hg hb (fun k e => by injection e with e; omega)
set_option maxHeartbeats 8000000 in
theorem look_any (W H : Int) (xs : List Nat) (AL : Option Addr) (cL : Nat) (ds : List Int) (AD : Option Addr) (cD : Nat) (w : World) (hr : FK.C w AL xs.length xs) (hr2 : (Kd.int .i64).C w AD ds.length ds) (hl : xs.length ≤ 1000000) (hl2 : ds.length ≤ 1000000) :
    Calls Try.prog 8 #[.agg #[.int .i64 W, .int .i64 H, .slice AL xs.length cL, .slice AD ds.length cD]] w fun e w' => e = .returned (.agg #[.int .i64 (litN xs xs.length : Int), .float .f64 (mstN xs xs.length), .int .i64 (drpN ds ds.length)]) ∧ Below w.heap.size w w' := by
  have hu := Try.underlying25
  have hu2 := Try.underlying28
  have HR := Aside0.mk hr
  have HR2 := Aside0.mk hr2
  obtain ⟨o1, ho1⟩ : ∃ o, o = Obj.cells #[.int .i64 W, .int .i64 H, .slice AL xs.length cL, .slice AD ds.length cD] 25 (0, 0) := ⟨_, rfl⟩
  obtain ⟨o2, ho2⟩ : ∃ o, o = Obj.cells #[.int .i64 0, .float .f64 0, .int .i64 0] 28 (0, 0) := ⟨_, rfl⟩
  have s1 : (w.alloc o1).heap.size = w.heap.size + 1 := by simp
  have s2 : ((w.alloc o1).alloc o2).heap.size = w.heap.size + 2 := by simp
  have b1 := blk_alloc (blk_alloc (blk_new w o1) o2) o2
  have b3 := blk_new ((w.alloc o1).alloc o2) o2
  rw [s2] at b3
  have hB : Below w.heap.size w (((w.alloc o1).alloc o2).alloc o2) := Below.alloc (Below.alloc (Below.alloc (Below.refl w.heap.size w) (Nat.le_refl _) o1) (by simp) o2) (by simp; omega) o2
  have b2 : (((w.alloc o1).alloc o2).alloc o2).heap[w.heap.size + 1]? = some o2 := by
    have h := blk_alloc (blk_new (w.alloc o1) o2) o2
    rw [s1] at h
    exact h
  rw [ho1, ho2] at b1 b2 b3 hB
  clear s1 s2 ho1 ho2 hr hr2
  have HB1 := Aside0.mk b1
  have HB2 := Aside0.mk b2
  have HB3 := Aside0.mk b3
  have HBel := Aside0.mk hB
  obtain ⟨k0, k1, k2, k3⟩ := pic_cells b1
  clear b1 b2 b3 hB
  go_enter Try.func8, Try.ntmps8
  go_wp2
  go_loopw [13] (fun i wr => ∃ j : Nat, j ≤ xs.length ∧ i = .int .i64 (j : Int) ∧ Aside0 (wr.heap[w.heap.size + 1 + 1]? = some (.cells #[.int .i64 (litN xs j : Int), .float .f64 (mstN xs j), .int .i64 0] 28 (0, 0))) ∧ Aside0 (wr.heap[w.heap.size]? = some (.cells #[.int .i64 W, .int .i64 H, .slice AL xs.length cL, .slice AD ds.length cD] 25 (0, 0))) ∧ Aside0 (wr.heap[w.heap.size + 1]? = some (.cells #[.int .i64 0, .float .f64 0, .int .i64 0] 28 (0, 0))) ∧ Aside0 (Below w.heap.size w wr)) (fun i _ => xs.length - (intOf i).toNat)
  case atStart => exact ⟨0, Nat.zero_le _, rfl, HB3, HB1, HB2, HBel⟩
  case round =>
    obtain ⟨j, hj, rfl, HO, HP, HZ, HBl⟩ := hrel
    by_cases hlt : j < xs.length
    · have z1 : (j : Int) < (xs.length : Int) := by omega
      obtain ⟨ad, rfl, hx⟩ := at_float (Kd.C_below HR.out HBl.out) j hlt
      have HS1 := Aside0.mk (show litN xs (j + 1) = litN xs j + (if gt0 (xs.getD j 0) = true then 1 else 0) from rfl)
      have HS2 := Aside0.mk (show mstN xs (j + 1) = if gt0 (xs.getD j 0) && isNum (xs.getD j 0) then fmax (mstN xs j) (xs.getD j 0) else mstN xs j from rfl)
      have HL1 := Aside0.mk (look1_any (w.heap.size + 1 + 1) (litN xs j) (xs.getD j 0) (mstN xs j) 0 wr (by have := litN_le xs j; omega) (mstN_not xs j) HO.out)
      rw [← HS1.out, ← HS2.out] at HL1
      generalize xs.getD j 0 = x at *
      go_wp2_with (go_at_call 19; refine HL1.out.mono ?_; rintro y w3 ⟨rfl, hO3, hg3⟩; have HO3 := Aside0.mk hO3; have HP3 := Aside0.mk (blk_grown HP.out hg3 (fun e => by injection e with e; omega)); have HZ3 := Aside0.mk (blk_grown HZ.out hg3 (fun e => by injection e with e; omega)); have HB3x := Aside0.mk (grown_belowJ HBl.out hg3 HBl.out.size (by omega)); clear hO3 hg3)
      go_roundw
      case rel => exact ⟨j + 1, by omega, by go_num, HO3, HP3, HZ3, HB3x⟩
      case measure => simp [intOf]; omega
    · have e : j = xs.length := by omega
      subst e
      obtain ⟨k0, k1, k2, k3⟩ := pic_cells HP.out
      generalize hE1 : litN xs xs.length = lt at *
      generalize hE2 : mstN xs xs.length = mm at *
      have HE1 := Aside0.mk hE1
      have HE2 := Aside0.mk hE2
      clear hE1 hE2
      go_wp2
      go_loopw [24] (fun i wq => ∃ q : Nat, q ≤ ds.length ∧ i = .int .i64 (q : Int) ∧ Aside0 (wq.heap[w.heap.size + 1 + 1]? = some (.cells #[.int .i64 (lt : Int), .float .f64 mm, .int .i64 (drpN ds q)] 28 (0, 0))) ∧ Aside0 (wq.heap[w.heap.size + 1]? = some (.cells #[.int .i64 0, .float .f64 0, .int .i64 0] 28 (0, 0))) ∧ Aside0 (Below w.heap.size w wq)) (fun i _ => ds.length - (intOf i).toNat)
      case atStart => exact ⟨0, Nat.zero_le _, rfl, HO, HZ, HBl⟩
      case round =>
        obtain ⟨q, hq, rfl, HOq, HZq, HBq⟩ := hrel
        obtain ⟨a0, a1, a2, f0, f1, f2⟩ := pr_cells HOq.out
        by_cases hlt : q < ds.length
        · have z1 : (q : Int) < (ds.length : Int) := by omega
          obtain ⟨ad, rfl, hx⟩ := at_i64 (Kd.C_below HR2.out HBq.out) q hlt
          have HS := Aside0.mk (show drpN ds (q + 1) = wrap64 (drpN ds q + clampD (ds.getD q 0)) from rfl)
          generalize ds.getD q 0 = d at *
          generalize drpN ds q = s at *
          obtain ⟨mx, hmx⟩ : ∃ mx : Int, (if d < 0 then 0 else d) = mx := ⟨_, rfl⟩
          obtain ⟨z, hz⟩ : ∃ z : Int, (if 2147483647 < mx then 2147483647 else mx) = z := ⟨_, rfl⟩
          have HC := Aside0.mk (show clampD d = z by unfold clampD; rw [hmx, hz])
          go_wp2
          go_roundw
          case rel => exact ⟨q + 1, by omega, by go_num, ⟨by rw [HS.out, HC.out]; exact blk_put HOq.out 2 _ rfl⟩, ⟨blk_grown HZq.out (set_grown _ _ _ _) (fun e => by injection e with e; omega)⟩, ⟨grown_belowJ HBq.out (set_grown _ _ _ _) HBq.out.size (by omega)⟩⟩
          case measure => simp [intOf]; omega
        · have e : q = ds.length := by omega
          subst e
          obtain ⟨c0, c1, c2, e0, e1, e2⟩ := pr_cells HZq.out
          generalize hE3 : drpN ds ds.length = dd at *
          have HE3 := Aside0.mk hE3
          clear hE3
          have hG := blk_put (blk_put (blk_put HZq.out 0 (.int .i64 (lt : Int)) (cs' := #[.int .i64 (lt : Int), .float .f64 0, .int .i64 0]) rfl) 1 (.float .f64 mm) (cs' := #[.int .i64 (lt : Int), .float .f64 mm, .int .i64 0]) rfl) 2 (.int .i64 dd) (cs' := #[.int .i64 (lt : Int), .float .f64 mm, .int .i64 dd]) rfl
          have HG := Aside0.mk hG
          clear hG
          go_wp2
          refine bodyPost_ret (results_cell_row rfl _ _ (w.heap.size + 1) 28 #[.int .i64 (lt : Int), .float .f64 mm, .int .i64 dd] (0, 0) _ rfl HG.out hu2 rfl (by kernel_rfl)) rfl ?_
          refine ⟨by rw [HE1.out, HE2.out, HE3.out], ?_⟩
          have g1 := grown_belowJ HBq.out (set_grown wr (w.heap.size + 1) 0 (.int .i64 (lt : Int))) HBq.out.size (by omega)
          have g2 := grown_belowJ g1 (set_grown _ (w.heap.size + 1) 1 (.float .f64 mm)) g1.size (by omega)
          exact grown_belowJ g2 (set_grown _ (w.heap.size + 1) 2 (.int .i64 dd)) g2.size (by omega)
end Go.Proofs.Ytaikeldhdbejaaa.Gv
