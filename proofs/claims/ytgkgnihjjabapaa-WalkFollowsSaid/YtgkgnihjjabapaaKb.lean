/- package walk: how much both ways count, and a path's block, by hand. -/
import Derived.Test.YtgkgnihjjabapaaKa
namespace Go.Proofs.Ytgkgnihjjabapaa.Gv
open Go.RowKit Go.Proofs.Ytgkgnihjjabapaa.X Go.Proofs.Ytgkgnihjjabapaa.Pl Go.Proofs.Ytgkgnihjjabapaa.Pa Go.Proofs.YtgkgnihjjabapaaW.PrintWords Go.Proofs.YtgkgnihjjabapaaW.PrintLast
/-- n bits of a number -/
def bs (n m : Nat) : Array Bool := ((List.range n).map fun i => m.testBit i).toArray
/-- how much both ways count -/
def wts (G A : List Int) (n i j : Nat) : Int × Int := if of (A.getD j 0) = 0 ∨ of (A.getD j 0 + G.getD (i * n + j) 0) = 0 then (0, 1) else (ovr (A.getD j 0) (of (A.getD j 0 + G.getD (i * n + j) 0)), of (1 - ovr (A.getD j 0) (of (A.getD j 0 + G.getD (i * n + j) 0))))
theorem ix_lt {n i j : Nat} (hi : i < n) (hj : j < n) : i * n + j < n * n := by
  have h := Nat.mul_le_mul_right n (show i + 1 ≤ n from hi)
  rw [Nat.add_mul, Nat.one_mul] at h
  omega
theorem ix_small {n i j : Nat} (hn : n ≤ 12) (hi : i < n) (hj : j < n) : i * n ≤ 132 ∧ i * n + j < 144 := by
  have h := ix_lt hi hj
  have h2 := Nat.mul_le_mul hn hn
  have h3 := Nat.mul_le_mul (show i ≤ 11 by omega) hn
  omega
theorem ix_wrap {n i j : Nat} (hn : n ≤ 12) (hi : i < n) (hj : j < n) : wrap64 ((i : Int) * (n : Int)) = ((i * n : Nat) : Int) ∧ wrap64 (((i * n : Nat) : Int) + (j : Int)) = ((i * n + j : Nat) : Int) := by
  obtain ⟨h1, h2⟩ := ix_small hn hi hj
  have e : (i : Int) * (n : Int) = ((i * n : Nat) : Int) := by simp
  rw [e, wrap_id (by omega) (by omega), wrap_id (by omega) (by omega)]
  exact ⟨rfl, by omega⟩
theorem wts_ev (G A : List Int) (on : Int) (n i j : Nat) (hn : n ≤ 12) (hi : i < n) (hj : j < n) (hG : G.length = n * n) (hA : A.length = n) : Ev (fun k => walk_weights.f k G A on (n : Int) (i : Int) (j : Int)) (wts G A n i j) := by
  obtain ⟨e1, e2⟩ := ix_wrap hn hi hj
  have e3 := ix_lt hi hj
  unfold walk_weights.f
  rw [e1, e2]
  refine ev_pos (by omega) (ev_pos (by omega) (ev_pos (by omega) (ev_pos (by omega) ?_)))
  rw [Add2_eq, Of_eq, rd_eq, rd_eq]
  refine ev_some (ev_some ?_)
  unfold wts
  have hj0 (b : Bool) (hb : b = true) (y : Int) : Ev (fun k => walk_weights.j0 k (j : Int) y b G A on) (0, 1) := by
    subst hb
    exact Ev.step (fun k => by rw [walk_weights.j0]) (ev_pos rfl (Ev.now _))
  have hj1 (b : Bool) (hb : b = false) (y : Int) : Ev (fun k => walk_weights.j0 k (j : Int) y b G A on) (ovr (A.getD j 0) y, of (1 - ovr (A.getD j 0) y)) := by
    subst hb
    refine Ev.step (fun k => by rw [walk_weights.j0]) (ev_neg (by decide) (ev_pos (by omega) (ev_pos (by omega) ?_)))
    rw [rd_eq]
    refine Ev.bind (ovr_ev _ _) ?_
    rw [Sub_eq]
    exact Ev.now _
  generalize A.getD j 0 = a at *
  generalize G.getD (i * n + j) 0 = b at *
  by_cases c1 : of a = 0
  · rw [if_pos (.inl c1)]
    exact ev_pos c1 (hj0 _ rfl _)
  · by_cases c2 : of (a + b) = 0
    · rw [if_pos (.inr c2)]
      exact ev_neg c1 (hj0 _ (by rw [c2]; rfl) _)
    · rw [if_neg (fun h => h.elim c1 c2)]
      exact ev_neg c1 (hj1 _ (beq_eq_false_iff_ne.mpr c2) _)
/-- the rows of a model and of chances that fit -/
structure RwOk (R : Rw) (w : World) : Prop where
  hE : Kd.C (Kd.int .i64) w R.aE R.E.length R.E
  hT : Kd.C (Kd.int .i64) w R.aT R.T.length R.T
  hG : Kd.C (Kd.int .i64) w R.aG R.G.length R.G
  hA : Kd.C (Kd.int .i64) w R.aA R.A.length R.A
  cE : R.E.length ≤ R.cE
  cT : R.T.length ≤ R.cT
  cG : R.G.length ≤ R.cG
  cA : R.A.length ≤ R.cA
  lE : R.E.length = R.n
  lT : R.T.length = R.n * R.n
  lG : R.G.length = R.n * R.n
  lA : R.A.length = R.n
  n1 : 1 ≤ R.n
  n12 : R.n ≤ 12
def Tr (w : World) (g : Nat) (R : Rw) (s : TS) : Prop := w.heap[g]? = some (trO R s)
theorem Tr.cells {w : World} {g : Nat} {R : Rw} {s : TS} (h : Tr w g R s) : w.cell? ⟨g, 0, none⟩ = some (.slice R.aE R.E.length R.cE) ∧ w.cell? ⟨g, 1, none⟩ = some (.slice R.aT R.T.length R.cT) ∧ w.cell? ⟨g, 2, none⟩ = some (.slice R.aG R.G.length R.cG) ∧ w.cell? ⟨g, 3, none⟩ = some (.slice R.aA R.A.length R.cA) ∧ w.cell? ⟨g, 4, none⟩ = some (.int .i64 R.on) ∧ w.cell? ⟨g, 5, none⟩ = some (.int .i64 (R.n : Int)) ∧ w.cell? ⟨g, 6, none⟩ = some (.int .i64 (s.i : Int)) ∧ w.cell? ⟨g, 7, none⟩ = some (.int .i64 s.v) ∧ w.cell? ⟨g, 8, none⟩ = some (.int .i64 s.wt) ∧ w.cell? ⟨g, 9, none⟩ = some (.int .i64 s.p) ∧ w.cell? ⟨g, 10, none⟩ = some (.bool s.ov) ∧ ∀ i, w.frozen? ⟨g, i, none⟩ = false :=
  ⟨(blk_cell h 0).trans rfl, (blk_cell h 1).trans rfl, (blk_cell h 2).trans rfl, (blk_cell h 3).trans rfl, (blk_cell h 4).trans rfl, (blk_cell h 5).trans rfl, (blk_cell h 6).trans rfl, (blk_cell h 7).trans rfl, (blk_cell h 8).trans rfl, (blk_cell h 9).trans rfl, (blk_cell h 10).trans rfl, fun i => blk_frozen h i⟩
theorem Tr.lt {w : World} {g : Nat} {R : Rw} {s : TS} (h : Tr w g R s) : g < w.heap.size := blk_lt h
theorem Tr.below {w w1 : World} {g : Nat} {R : Rw} {s : TS} (h : Tr w g R s) (hb : Below w.heap.size w w1) : Tr w1 g R s := blk_below h hb
theorem grown_of {w w1 : World} (hb : Below w.heap.size w w1) (o : Option Nat) : w.grownBy w1 o := ⟨hb.os, hb.tape, hb.output, hb.size, fun k hk _ => hb.block k hk⟩
theorem grown_trans {a b c : World} {g : Nat} (h : a.grownBy b (some g)) (k : b.grownBy c (some g)) : a.grownBy c (some g) :=
  ⟨k.os.trans h.os, k.tape.trans h.tape, k.output.trans h.output, Nat.le_trans h.size k.size, fun i hi hn => (k.block i (Nat.lt_of_lt_of_le hi h.size) hn).trans (h.block i hi hn)⟩
theorem grown_cell (w : World) (g i : Nat) (v : Value) : w.grownBy (w.setCell ⟨g, i, none⟩ v) (some g) := ⟨rfl, rfl, rfl, by simp [World.setCell], fun k _ hk => Below.heap_setCell _ _ _ _ (fun e => hk (by rw [e]))⟩
theorem Tr.putI {w : World} {g : Nat} {R : Rw} {s : TS} (h : Tr w g R s) (x : Nat) : Tr (w.setCell ⟨g, 6, none⟩ (.int .i64 (x : Int))) g R {s with i := x} := blk_put h 6 _ rfl
theorem Tr.putV {w : World} {g : Nat} {R : Rw} {s : TS} (h : Tr w g R s) (x : Int) : Tr (w.setCell ⟨g, 7, none⟩ (.int .i64 x)) g R {s with v := x} := blk_put h 7 _ rfl
theorem Tr.putW {w : World} {g : Nat} {R : Rw} {s : TS} (h : Tr w g R s) (x : Int) : Tr (w.setCell ⟨g, 8, none⟩ (.int .i64 x)) g R {s with wt := x} := blk_put h 8 _ rfl
theorem Tr.putP {w : World} {g : Nat} {R : Rw} {s : TS} (h : Tr w g R s) (x : Int) : Tr (w.setCell ⟨g, 9, none⟩ (.int .i64 x)) g R {s with p := x} := blk_put h 9 _ rfl
theorem Tr.putO {w : World} {g : Nat} {R : Rw} {s : TS} (h : Tr w g R s) (x : Bool) : Tr (w.setCell ⟨g, 10, none⟩ (.bool x)) g R {s with ov := x} := blk_put h 10 _ rfl
theorem weights_any (R : Rw) (W0 : World) (ok : RwOk R W0) (i j : Nat) (hi : i < R.n) (hj : j < R.n) (w : World) (hb : Below W0.heap.size W0 w) :
    Calls Try.prog 28 #[.agg #[.slice R.aG R.G.length R.cG, .slice R.aA R.A.length R.cA, .int .i64 R.on], .int .i64 (R.n : Int), .int .i64 (i : Int), .int .i64 (j : Int)] w fun e w' => e = .returned (.tuple #[.int .i64 (wts R.G R.A R.n i j).1, .int .i64 (wts R.G R.A R.n i j).2]) ∧ Below w.heap.size w w' := by
  obtain ⟨K, hK⟩ := wts_ev R.G R.A R.on R.n i j ok.n12 hi hj ok.lG ok.lA
  exact walk_weights.calls K R.aG R.cG R.G R.aA R.cA R.A R.on R.n i j _ _ w (Kd.C_below ok.hG hb) ok.cG (Kd.C_below ok.hA hb) ok.cA (hK K (Nat.le_refl _))
theorem prodl3 (a b c : Int) : prodl' [a, b, c] = of (a * b * c) := by simp [prodl']
theorem prodl4 (a b c d : Int) : prodl' [a, b, c, d] = of (a * b * c * d) := by simp [prodl']
theorem mul2_lit (a b : Int) (t : TypeId) (W : World) :
    Calls Try.prog 29 #[.slice (some ⟨W.heap.size, 0, none⟩) 2 2] (W.alloc (.cells #[.int .i64 a, .int .i64 b] t)) fun e w' => e = .returned (.int .i64 (of (a * b))) ∧ Below W.heap.size W w' := by
  have h := mul_lit [a, b] t (by simp) 2 rfl W
  rw [prodl2] at h
  exact h
theorem mul3_lit (a b c : Int) (t : TypeId) (W : World) :
    Calls Try.prog 29 #[.slice (some ⟨W.heap.size, 0, none⟩) 3 3] (W.alloc (.cells #[.int .i64 a, .int .i64 b, .int .i64 c] t)) fun e w' => e = .returned (.int .i64 (of (a * b * c))) ∧ Below W.heap.size W w' := by
  have h := mul_lit [a, b, c] t (by simp) 3 rfl W
  rw [prodl3] at h
  exact h
theorem mul4_lit (a b c d : Int) (t : TypeId) (W : World) :
    Calls Try.prog 29 #[.slice (some ⟨W.heap.size, 0, none⟩) 4 4] (W.alloc (.cells #[.int .i64 a, .int .i64 b, .int .i64 c, .int .i64 d] t)) fun e w' => e = .returned (.int .i64 (of (a * b * c * d))) ∧ Below W.heap.size W w' := by
  have h := mul_lit [a, b, c, d] t (by simp) 4 rfl W
  rw [prodl4] at h
  exact h
theorem add2_lit (a b : Int) (t : TypeId) (W : World) :
    Calls Try.prog 30 #[.slice (some ⟨W.heap.size, 0, none⟩) 2 2] (W.alloc (.cells #[.int .i64 a, .int .i64 b] t)) fun e w' => e = .returned (.int .i64 (of (a + b))) ∧ Below W.heap.size W w' := by
  have h := add_lit [a, b] t (by simp) 2 rfl W
  rw [suml2] at h
  exact h
set_option maxHeartbeats 2000000 in
theorem happens_any (R : Rw) (g : Nat) (s : TS) (q : Int) (w : World) (h : Tr w g R s) :
    Calls Try.prog 44 #[.pointer (some ⟨g, 0, none⟩), .int .i64 q] w fun e w' => e = .returned (.tuple #[]) ∧ Tr w' g R {s with p := of (s.p * q)} ∧ w.grownBy w' (some g) := by
  obtain ⟨k0, k1, k2, k3, k4, k5, k6, k7, k8, k9, k10, kf⟩ := h.cells
  have HG := Aside0.mk h
  clear k0 k1 k2 k3 k4 k5 k6 k7 k8 k10
  have HM := Aside0.mk (fun t => mul2_lit s.p q t w)
  generalize hz : of (s.p * q) = z at *
  generalize hp : s.p = p at *
  clear h hz
  go_enter Try.func44, Try.ntmps44
  go_wp2_with (go_at_call 29; with_reducible refine (HM.out _).mono ?_; rintro x w1 ⟨rfl, hb1⟩; have HB1 := Aside0.mk hb1; have h1 := HG.out.below hb1; have HG1 := Aside0.mk h1; obtain ⟨-, -, -, -, -, -, -, -, -, q9, -, qf⟩ := h1.cells; clear hb1 h1)
  go_end0
  exact ⟨rfl, HG1.out.putP z, grown_trans (grown_of HB1.out _) (grown_cell _ _ _ _)⟩
end Go.Proofs.Ytgkgnihjjabapaa.Gv
