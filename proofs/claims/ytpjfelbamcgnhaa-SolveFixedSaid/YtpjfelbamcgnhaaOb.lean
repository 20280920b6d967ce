/- package solve: a table in memory, and a column cleared. -/
import Derived.Test.YtpjfelbamcgnhaaOa
import Derived.Test.YtpjfelbamcgnhaaPa
import Derived.Test.YtpjfelbamcgnhaaNd
namespace Go.Proofs.Ytpjfelbamcgnhaa.Gv
open Go.RowKit Go.Proofs.Ytpjfelbamcgnhaa.X Go.Proofs.YtpjfelbamcgnhaaW.PrintWords Go.Proofs.YtpjfelbamcgnhaaW.PrintLast Pl Pa De
set_option linter.unusedVariables false
/-- a table in memory -/
structure TB (w : World) (B g L n m : Nat) (rs cp : Nat → Nat) (M : Nat → Nat → Int) (d : Int) : Prop where
  hm : m = n + 1
  t : ∃ cap, w.heap[g]? = some (.cells #[.int .i64 n, .slice (some ⟨L, 0, none⟩) n cap, .int .i64 d] 51 (0, 0))
  l : ∃ cs : Array Value, w.heap[L]? = some (.cells cs 22 (0, 0)) ∧ ∀ i, i < n → cs[i]? = some (.slice (some ⟨rs i, 0, none⟩) m (cp i))
  r : ∀ i, i < n → RowIs w (rs i) m (M i)
  inj : ∀ i j, i < n → j < n → rs i = rs j → i = j
  gl : g ≠ L
  ne : ∀ i, i < n → rs i ≠ g ∧ rs i ≠ L
  ge : B ≤ g ∧ B ≤ L ∧ ∀ i, i < n → B ≤ rs i
theorem TB.below {w w1 : World} {B g L n m : Nat} {rs cp : Nat → Nat} {M : Nat → Nat → Int} {d : Int} (h : TB w B g L n m rs cp M d) (hb : Below w.heap.size w w1) : TB w1 B g L n m rs cp M d := by
  obtain ⟨cap, ht⟩ := h.t
  obtain ⟨cs, hl, hl2⟩ := h.l
  exact ⟨h.hm, ⟨cap, blk_below ht hb⟩, ⟨cs, blk_below hl hb, hl2⟩, fun i hi => (h.r i hi).below hb, h.inj, h.gl, h.ne, h.ge⟩
theorem RowIs.grown {w w1 : World} {g n b : Nat} {X : Nat → Int} (h : RowIs w g n X) (hg : w.grownBy w1 (some b)) (hne : g ≠ b) : RowIs w1 g n X := by
  obtain ⟨cs, h1, h2⟩ := h
  exact ⟨cs, blk_grown h1 hg (fun e => hne (by injection e)), h2⟩
theorem TB.row {w w1 : World} {B g L n m : Nat} {rs cp : Nat → Nat} {M : Nat → Nat → Int} {d : Int} (h : TB w B g L n m rs cp M d) (j : Nat) (hj : j < n) (Y : Nat → Int) (hg : w.grownBy w1 (some (rs j))) (hr : RowIs w1 (rs j) m Y) : TB w1 B g L n m rs cp (fun i => if i = j then Y else M i) d := by
  obtain ⟨cap, ht⟩ := h.t
  obtain ⟨cs, hl, hl2⟩ := h.l
  refine ⟨h.hm, ⟨cap, blk_grown ht hg (fun e => (h.ne j hj).1 (by injection e with e; exact e.symm))⟩, ⟨cs, blk_grown hl hg (fun e => (h.ne j hj).2 (by injection e with e; exact e.symm)), hl2⟩, fun i hi => ?_, h.inj, h.gl, h.ne, h.ge⟩
  by_cases e : i = j
  · rw [e, if_pos rfl]; exact hr
  · rw [if_neg e]; exact (h.r i hi).grown hg (fun q => e (h.inj i j hi hj q))
theorem TB.congr {w : World} {B g L n m : Nat} {rs cp : Nat → Nat} {M N : Nat → Nat → Int} {d : Int} (h : TB w B g L n m rs cp M d) (e : ∀ i, i < n → M i = N i) : TB w B g L n m rs cp N d :=
  ⟨h.hm, h.t, h.l, fun i hi => e i hi ▸ h.r i hi, h.inj, h.gl, h.ne, h.ge⟩
theorem TB.putD {w : World} {B g L n m : Nat} {rs cp : Nat → Nat} {M : Nat → Nat → Int} {d : Int} (h : TB w B g L n m rs cp M d) (x : Int) : TB (w.setCell ⟨g, 2, none⟩ (.int .i64 x)) B g L n m rs cp M x := by
  obtain ⟨cap, ht⟩ := h.t
  obtain ⟨cs, hl, hl2⟩ := h.l
  exact ⟨h.hm, ⟨cap, blk_put ht 2 _ rfl⟩, ⟨cs, blk_far hl (p := ⟨g, 2, none⟩) h.gl.symm _, hl2⟩, fun i hi => (h.r i hi).grown (grown_put w g 2 _) (h.ne i hi).1, h.inj, h.gl, h.ne, h.ge⟩
theorem TB.cells {w : World} {B g L n m : Nat} {rs cp : Nat → Nat} {M : Nat → Nat → Int} {d : Int} (h : TB w B g L n m rs cp M d) : ∃ cap, w.cell? ⟨g, 0, none⟩ = some (.int .i64 n) ∧ w.cell? ⟨g, 1, none⟩ = some (.slice (some ⟨L, 0, none⟩) n cap) ∧ w.cell? ⟨g, 2, none⟩ = some (.int .i64 d) ∧ w.frozen? ⟨g, 2, none⟩ = false := by
  obtain ⟨cap, ht⟩ := h.t
  exact ⟨cap, (blk_cell ht 0).trans rfl, (blk_cell ht 1).trans rfl, (blk_cell ht 2).trans rfl, blk_frozen ht 2⟩
theorem TB.rowCell {w : World} {B g L n m : Nat} {rs cp : Nat → Nat} {M : Nat → Nat → Int} {d : Int} (h : TB w B g L n m rs cp M d) (i : Nat) (hi : i < n) : w.cell? ⟨L, i, none⟩ = some (.slice (some ⟨rs i, 0, none⟩) m (cp i)) ∧ w.frozen? ⟨L, i, none⟩ = false := by
  obtain ⟨cs, hl, hl2⟩ := h.l
  exact ⟨(blk_cell hl i).trans (hl2 i hi), blk_frozen hl i⟩
theorem TB.num {w : World} {B g L n m : Nat} {rs cp : Nat → Nat} {M : Nat → Nat → Int} {d : Int} (h : TB w B g L n m rs cp M d) (i k : Nat) (hi : i < n) (hk : k < m) : w.cell? ⟨rs i, k, none⟩ = some (.int .i64 (M i k)) := ((h.r i hi).cell k hk).1
theorem alloc_b (w : World) (o : Obj) : Below w.heap.size w (w.alloc o) := Below.alloc (Below.refl _ _) (Nat.le_refl _) o
theorem mul2_below (a b : Int) (W : World) :
    Calls Try.prog 47 #[.slice (some ⟨W.heap.size, 0, none⟩) 2 2] (W.alloc (.cells #[.int .i64 a, .int .i64 b] 3)) fun e w' => e = .returned (.int .i64 (of (a * b))) ∧ Below W.heap.size W w' := by
  refine (mul2_any W.heap.size 2 a b _ (new_at _ _)).mono ?_
  rintro e w' ⟨he, rfl⟩
  exact ⟨he, alloc_b _ _⟩
theorem inv_any (a : Int) (ha : of a ≠ 0) (w : World) : Calls Try.prog 48 #[.int .i64 a] w fun e w' => e = .returned (.tuple #[.int .i64 (invP a), .int .i64 0]) ∧ Below w.heap.size w w' := by
  obtain ⟨K, hK⟩ := Inv_ev a
  have h := hK K (Nat.le_refl _)
  rw [if_neg ha] at h
  exact field_Inv.calls K a _ _ w h
theorem below_row {W W1 w : World} {g b : Nat} (h : Below b w W) (hg : W.grownBy W1 (some g)) (hb : b ≤ W.heap.size) (hg2 : b ≤ g) : Below b w W1 := h.grown hg hb (fun k e => by injection e with e; omega)
set_option maxHeartbeats 8000000 in
theorem clear_any (B g L n m c : Nat) (rs cp : Nat → Nat) (M : Nat → Nat → Int) (d : Int) (w0 w : World) (hT : TB w B g L n m rs cp M d) (hB : Below B w0 w) (hBw : B ≤ w.heap.size) (hc : c < n) (hn : n ≤ 12) (hp : of (M c c) ≠ 0) :
    Calls Try.prog 41 #[.pointer (some ⟨g, 0, none⟩), .int .i64 c] w fun e w' => e = .returned (.tuple #[]) ∧ TB w' B g L n m rs cp (clr M c (invP (M c c))) (of (d * M c c)) ∧ Below B w0 w' := by
  have HT := Aside0.mk hT
  have HB := Aside0.mk hB
  have hm := hT.hm
  obtain ⟨cap, k0, k1, k2, f2⟩ := hT.cells
  obtain ⟨kl, -⟩ := hT.rowCell c hc
  have kp := hT.num c c hc (by omega)
  have z0 : (0 : Int) ≤ (c : Int) := by omega
  have z1 : (c : Int) < (n : Int) := by omega
  have z2 : (c : Int) < (m : Int) := by omega
  have HM := Aside0.mk (mul2_below d (M c c) w)
  have HI := Aside0.mk (inv_any (M c c) hp)
  have HG := Aside0.mk (hT.ge)
  have HP := Aside0.mk (show M c c = M c c from rfl)
  obtain ⟨p, hpp⟩ : ∃ p, M c c = p := ⟨_, rfl⟩
  have HPP := Aside0.mk hpp
  obtain ⟨i, hii⟩ : ∃ i, invP p = i := ⟨_, rfl⟩
  have HII := Aside0.mk hii
  rw [hpp] at kp HM HI
  rw [hii] at HI
  rw [hpp, hii]
  have hmf : ∀ (fn : Fn) (first cap : Array Value) (w : World), (Instr.makeFunc fn first cap).run Try.prog w = .ok (.func fn first cap) w := fun _ _ _ _ => rfl
  have HMm := Aside0.mk hm
  clear hT hB hp hpp hii hm
  go_enter Try.func41, Try.ntmps41
  obtain ⟨Y, hY⟩ : ∃ Y : Nat → Int, Y = fun k => of (M c k * i) := ⟨_, rfl⟩
  have HY := Aside0.mk hY
  clear hY
  go_wp2_with (first
    | (go_at_call 47; refine HM.out.mono ?_; rintro e w1 ⟨rfl, hb1⟩; have HT1 := Aside0.mk (HT.out.below hb1); have HB1 := Aside0.mk (below_then HB.out hBw hb1); have HZ1 := Aside0.mk (Nat.le_trans hBw hb1.size); obtain ⟨cap1, a0, a1, a2, a3⟩ := HT1.out.cells; have HT2 := Aside0.mk (HT1.out.putD (of (d * p))); have HB2 := Aside0.mk (Below.setCell HB1.out (p := ⟨g, 2, none⟩) HG.out.1 (.int .i64 (of (d * p)))); have HZ2 := Aside0.mk (show B ≤ (w1.setCell ⟨g, 2, none⟩ (.int .i64 (of (d * p)))).heap.size from by simp [World.setCell]; exact HZ1.out); clear hb1)
    | (go_at_call 48; refine (HI.out _).mono ?_; rintro e w3 ⟨rfl, hb3⟩; have HT3 := Aside0.mk (HT2.out.below hb3); have HB3 := Aside0.mk (below_then HB2.out HZ2.out hb3); have HZ3 := Aside0.mk (Nat.le_trans HZ2.out hb3.size); have HT4 := Aside0.mk (HT3.out.below (alloc_b w3 (.cells #[.int .i64 i] 3))); obtain ⟨cap4, b0, b1, -, -⟩ := HT4.out.cells; obtain ⟨b4, -⟩ := HT4.out.rowCell c hc; have hz4 : (w3.alloc (.cells #[.int .i64 i] 3)).heap.size = w3.heap.size + 1 := (by simp); have hbx5 := blk_new (w3.alloc (.cells #[.int .i64 i] 3)) (.cells #[.slice (some ⟨rs c, 0, none⟩) m (cp c)] 22); rw [hz4] at hbx5; have HBI5 := Aside0.mk (blk_below (blk_new w3 (.cells #[.int .i64 i] 3)) (alloc_b _ (.cells #[.slice (some ⟨rs c, 0, none⟩) m (cp c)] 22))); have HBX5 := Aside0.mk hbx5; have b5 := (blk_cell hbx5 0).trans rfl; have HT5 := Aside0.mk (HT4.out.below (alloc_b _ (.cells #[.slice (some ⟨rs c, 0, none⟩) m (cp c)] 22))); have HB5 := Aside0.mk (below_then (below_then HB3.out HZ3.out (alloc_b w3 (.cells #[.int .i64 i] 3))) (Nat.le_trans HZ3.out (alloc_b w3 (.cells #[.int .i64 i] 3)).size) (alloc_b _ (.cells #[.slice (some ⟨rs c, 0, none⟩) m (cp c)] 22))); have HL3 := Aside0.mk (HT3.out.r c hc).lt; have HE2 := Aside0.mk (each_two ⟨w3.heap.size + 1, 0, none⟩ ⟨w3.heap.size, 0, none⟩ (rs c) m (cp c) (M c) Y _ (by have := HMm.out; omega) (HT5.out.r c hc) (fun V k hk hg hr => (by have q := c2_any k m (cp c) (M c k) i ⟨w3.heap.size + 1, 0, none⟩ ⟨w3.heap.size, 0, none⟩ (rs c) V ((blk_cell (blk_grown HBX5.out hg (fun e => by injection e with e; have := HL3.out; omega)) 0).trans rfl) ((blk_cell (blk_grown HBI5.out hg (fun e => by injection e with e; have := HL3.out; omega)) 0).trans rfl) (by have q := (hr.cell k hk).1; rw [if_neg (Nat.lt_irrefl k)] at q; exact q) hk; rw [HY.out]; exact q))); clear hb3 hz4 hbx5)
    | (go_at_call 49; refine HE2.out.mono ?_; rintro e w6 ⟨rfl, hr6, hg6⟩; have HT6 := Aside0.mk (HT5.out.row c hc Y hg6 hr6); have HBX6 := Aside0.mk (blk_grown HBX5.out hg6 (fun e => by injection e with e; have := HL3.out; omega)); have HZ6 := Aside0.mk (Nat.le_trans (Nat.le_trans HZ3.out (Nat.le_trans (alloc_b w3 (.cells #[.int .i64 i] 3)).size (alloc_b _ (.cells #[.slice (some ⟨rs c, 0, none⟩) m (cp c)] 22)).size)) hg6.size); have HB6 := Aside0.mk (below_row HB5.out hg6 (Nat.le_trans HZ3.out (Nat.le_trans (alloc_b w3 (.cells #[.int .i64 i] 3)).size (alloc_b _ (.cells #[.slice (some ⟨rs c, 0, none⟩) m (cp c)] 22)).size)) (HG.out.2.2 c hc)); obtain ⟨cap6, d0, d1, -, -⟩ := HT6.out.cells; clear hr6 hg6))
  obtain ⟨Z, hZ⟩ : ∃ Z : Nat → Nat → Int, Z = fun j k => of (M j k - of (M j c * Y k)) := ⟨_, rfl⟩
  have HZ := Aside0.mk hZ
  clear hZ
  go_loopw [53] (fun v wr => ∃ j : Nat, j ≤ n ∧ v = .int .i64 j ∧ Aside0 (TB wr B g L n m rs cp (fun i' => if i' = c then Y else if i' < j then Z i' else M i') (of (d * p))) ∧ Aside0 (Below B w0 wr) ∧ Aside0 (wr.heap[w3.heap.size + 1]? = some (.cells #[.slice (some ⟨rs c, 0, none⟩) m (cp c)] 22 (0, 0))) ∧ Aside0 (B ≤ wr.heap.size)) (fun v _ => n - (intOf v).toNat)
  case atStart => exact ⟨0, Nat.zero_le _, rfl, ⟨HT6.out.congr (fun i' _ => by by_cases e : i' = c; (· rw [if_pos e, if_pos e]); (· rw [if_neg e, if_neg e, if_neg (Nat.not_lt_zero i')]))⟩, HB6, HBX6, HZ6⟩
  case round =>
    obtain ⟨j, hj, rfl, ht, hb, hbx, hz⟩ := hrel
    by_cases hlt : j < n
    · have j0 : (0 : Int) ≤ (j : Int) := by omega
      have j1 : (j : Int) < (n : Int) := by omega
      obtain ⟨l0, -⟩ := ht.out.rowCell j hlt
      have HW7 := Aside0.mk (alloc_b wr (.cells #[.slice (some ⟨rs j, 0, none⟩) m (cp j)] 22))
      have hT7 := ht.out.below HW7.out
      have l1 := hT7.num j c hlt (by have := HMm.out; omega)
      have hbr := blk_new wr (.cells #[.slice (some ⟨rs j, 0, none⟩) m (cp j)] 22)
      have l2 := (blk_cell hbr 0).trans rfl
      by_cases hjc : j = c
      · have HJ := Aside0.mk hjc
        have e1 : ((j : Int) == (c : Int)) = true := by rw [beq_iff_eq]; omega
        have e2 : ((j : Int) != (c : Int)) = false := by rw [bne_eq_false_iff_eq]; omega
        rw [if_pos hjc] at l1
        obtain ⟨x, hx⟩ : ∃ x, Y c = x := ⟨_, rfl⟩
        rw [hx] at l1
        have hB8 := below_then HW7.out HW7.out.size (alloc_b (wr.alloc (.cells #[.slice (some ⟨rs j, 0, none⟩) m (cp j)] 22)) (.cells #[.int .i64 x] 3))
        have HT8 := Aside0.mk (ht.out.below hB8)
        have HB8 := Aside0.mk (below_then hb.out hz.out hB8)
        have HX8 := Aside0.mk (blk_below hbx.out hB8)
        have HZ8 := Aside0.mk (Nat.le_trans hz.out hB8.size)
        clear hjc hx hT7 hbr hB8
        go_wp2_with fail
        go_roundw
        case rel => exact ⟨j + 1, by omega, by go_num, ⟨HT8.out.congr (fun i' _ => by by_cases e : i' = c; (· rw [if_pos e, if_pos e]); (· rw [if_neg e, if_neg e]; by_cases f : i' < j; (· rw [if_pos f, if_pos (by omega)]); (· rw [if_neg f, if_neg (by have := HJ.out; omega)])))⟩, HB8, HX8, HZ8⟩
        case measure => simp [intOf]; omega
      · have HJ := Aside0.mk hjc
        have e1 : ((j : Int) == (c : Int)) = false := by rw [beq_eq_false_iff_ne]; omega
        have e2 : ((j : Int) != (c : Int)) = true := by rw [bne_iff_ne]; omega
        rw [if_neg hjc, if_neg (Nat.lt_irrefl j)] at l1
        obtain ⟨x, hx⟩ : ∃ x, M j c = x := ⟨_, rfl⟩
        rw [hx] at l1
        have HXX := Aside0.mk hx
        have hA8 := alloc_b (wr.alloc (.cells #[.slice (some ⟨rs j, 0, none⟩) m (cp j)] 22)) (.cells #[.int .i64 x] 3)
        have hB8 := below_then HW7.out HW7.out.size hA8
        have hz7 : (wr.alloc (.cells #[.slice (some ⟨rs j, 0, none⟩) m (cp j)] 22)).heap.size = wr.heap.size + 1 := by simp
        have hbr8 := blk_below hbr hA8
        have hbi8 := blk_new (wr.alloc (.cells #[.slice (some ⟨rs j, 0, none⟩) m (cp j)] 22)) (.cells #[.int .i64 x] 3)
        rw [hz7] at hbi8
        have l3 := (blk_cell hbr8 0).trans rfl
        have HT8 := Aside0.mk (ht.out.below hB8)
        have HB8 := Aside0.mk (below_then hb.out hz.out hB8)
        have HX8 := Aside0.mk (blk_below hbx.out hB8)
        have HZ8 := Aside0.mk (Nat.le_trans hz.out hB8.size)
        have HBR8 := Aside0.mk hbr8
        have HBI8 := Aside0.mk hbi8
        have HLj := Aside0.mk (ht.out.r j hlt).lt
        have hRj := HT8.out.r j hlt
        rw [if_neg hjc, if_neg (Nat.lt_irrefl j)] at hRj
        have hRc := HT8.out.r c hc
        rw [if_pos rfl] at hRc
        have HRc := Aside0.mk hRc
        have HNe := Aside0.mk (show rs c ≠ rs j from fun e => hjc (ht.out.inj c j hc hlt e).symm)
        have HXl := Aside0.mk (blk_lt hbx.out)
        have hxne : w3.heap.size + 1 ≠ rs j := by
          intro e
          obtain ⟨cs, q1, q2⟩ := hRj
          have q3 := HX8.out
          rw [e] at q3
          rw [q3] at q1
          injection q1 with q1
          injection q1 with q4 q5
          exact absurd q5 (by decide)
        have HXn := Aside0.mk hxne
        have HE3 := Aside0.mk (each_three ⟨wr.heap.size, 0, none⟩ ⟨wr.heap.size + 1, 0, none⟩ ⟨w3.heap.size + 1, 0, none⟩ (rs j) m (cp j) (M j) (Z j) _ (by have := HMm.out; omega) hRj (fun V k hk hg hr => (by
          have q := c3_any k m (cp j) (cp c) x (M j k) (Y k) ⟨wr.heap.size, 0, none⟩ ⟨wr.heap.size + 1, 0, none⟩ ⟨w3.heap.size + 1, 0, none⟩ (rs j) (rs c) V
            ((blk_cell (blk_grown HBR8.out hg (fun e => by injection e with e; have := HLj.out; omega)) 0).trans rfl)
            ((blk_cell (blk_grown HBI8.out hg (fun e => by injection e with e; have := HLj.out; omega)) 0).trans rfl)
            ((blk_cell (blk_grown HX8.out hg (fun e => by injection e with e; exact HXn.out e)) 0).trans rfl)
            (by have q := (hr.cell k hk).1; rw [if_neg (Nat.lt_irrefl k)] at q; exact q)
            ((HRc.out.grown hg HNe.out).cell k hk).1 hk
          rw [HZ.out]
          show Calls _ _ _ _ (fun e V' => e = .returned (.int .i64 (of (M j k - of (M j c * Y k)))) ∧ _)
          rw [HXX.out]
          exact q)))
        clear hjc hx hT7 hbr hB8 hA8 hz7 hbr8 hbi8 hRj hRc hxne
        go_wp2_with (go_at_call 49; refine HE3.out.mono ?_; rintro e w9 ⟨rfl, hr9, hg9⟩; have HT9 := Aside0.mk (HT8.out.row j hlt (Z j) hg9 hr9); have HX9 := Aside0.mk (blk_grown HX8.out hg9 (fun e => by injection e with e; exact HXn.out e)); have HB9 := Aside0.mk (below_row HB8.out hg9 HZ8.out (HG.out.2.2 j hlt)); have HZ9 := Aside0.mk (Nat.le_trans HZ8.out hg9.size); clear hr9 hg9)
        go_roundw
        case rel => exact ⟨j + 1, by omega, by go_num, ⟨HT9.out.congr (fun i' _ => by by_cases e : i' = j; (· rw [if_pos e, if_neg (by have := HJ.out; omega), if_pos (by omega), e]); (· rw [if_neg e]; by_cases f : i' = c; (· rw [if_pos f, if_pos f]); (· rw [if_neg f, if_neg f]; by_cases q : i' < j; (· rw [if_pos q, if_pos (by omega)]); (· rw [if_neg q, if_neg (by omega)]))))⟩, HB9, HX9, HZ9⟩
        case measure => simp [intOf]; omega
    · have hjn : j = n := by omega
      have HE := Aside0.mk hjn
      clear hjn
      go_wp2
      go_end0
      refine ⟨rfl, ht.out.congr (fun i' hi' => ?_), hb.out⟩
      funext k
      unfold clr
      by_cases e : i' = c
      · rw [if_pos e, if_pos e, HY.out]
      · rw [if_neg e, if_neg e, if_pos (by rw [HE.out]; exact hi'), HZ.out, HY.out]
end Go.Proofs.Ytpjfelbamcgnhaa.Gv
