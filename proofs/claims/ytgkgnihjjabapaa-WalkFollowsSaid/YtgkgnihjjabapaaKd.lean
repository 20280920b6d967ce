/- package walk: a path takes a choice, by hand. -/
import Derived.Test.YtgkgnihjjabapaaKc
namespace Go.Proofs.Ytgkgnihjjabapaa.Gv
open Go.RowKit Go.Proofs.Ytgkgnihjjabapaa.X Go.Proofs.Ytgkgnihjjabapaa.Pl Go.Proofs.Ytgkgnihjjabapaa.Pa Go.Proofs.YtgkgnihjjabapaaW.PrintWords Go.Proofs.YtgkgnihjjabapaaW.PrintLast
def askF (R : Rw) (s : TS) (j : Nat) : TS := if j = R.n then ⟨s.i, s.v, s.wt, of (s.p * rs R.A), s.ov⟩ else ⟨s.i, of (s.v + ovr (of (s.wt * R.T.getD (s.i * R.n + j) 0 * R.E.getD j 0 * (wts R.G R.A R.n s.i j).1)) (R.A.getD j 0)), s.wt, of (s.p * R.A.getD j 0), s.ov⟩
def moveF (R : Rw) (s : TS) (j : Nat) (on : Bool) : TS :=
  if j = R.n then ⟨s.i, s.v, s.wt, if on = true then 0 else of (s.p * rs (rowG R s.i)), true⟩
  else if of (R.G.getD (s.i * R.n + j) 0) = 0 then ⟨s.i, s.v, s.wt, of (s.p * R.G.getD (s.i * R.n + j) 0), true⟩
  else ⟨j, of (s.v + of (ovr (of (s.wt * R.T.getD (s.i * R.n + j) 0)) (R.G.getD (s.i * R.n + j) 0) * R.E.getD j 0 * (wts R.G R.A R.n s.i j).2)), ovr (of (s.wt * R.T.getD (s.i * R.n + j) 0)) (R.G.getD (s.i * R.n + j) 0), of (s.p * R.G.getD (s.i * R.n + j) 0), false⟩
def onF (R : Rw) (s : TS) (on : Bool) : TS := if on = true then ⟨s.i, s.v, ovr s.wt R.on, of (s.p * R.on), s.ov⟩ else ⟨s.i, s.v, s.wt, of (s.p * of (1 - R.on)), true⟩
def inn (n : Nat) (x : Int) : Bool := decide (0 ≤ x ∧ x ≤ (n : Int))
def noneCh (n : Nat) (x : S50) : Bool := decide (x.f0 = (n : Int)) && (decide (x.f1 = (n : Int)) && !x.f2)
def goF (R : Rw) (s : TS) (x : S50) : TS :=
  let s2 := moveF R (askF R s x.f0.toNat) x.f1.toNat x.f2
  if s2.ov = true then s2 else onF R s2 x.f2
def stepF (R : Rw) (s : TS) (x : S50) : TS × Bool :=
  if inn R.n x.f0 = true ∧ inn R.n x.f1 = true then (if s.ov = true then (if noneCh R.n x = true then s else ⟨s.i, s.v, s.wt, 0, s.ov⟩, true) else (goF R s x, true))
  else (⟨s.i, s.v, s.wt, 0, s.ov⟩, false)
theorem askF_i (R : Rw) (s : TS) (j : Nat) : (askF R s j).i = s.i ∧ (askF R s j).ov = s.ov := by unfold askF; split <;> exact ⟨rfl, rfl⟩
theorem moveF_i (R : Rw) (s : TS) (j : Nat) (on : Bool) (hj : j ≤ R.n) (hi : s.i < R.n) : (moveF R s j on).i < R.n := by
  unfold moveF
  by_cases c : j = R.n
  · rw [if_pos c]; exact hi
  · rw [if_neg c]
    by_cases d : of (R.G.getD (s.i * R.n + j) 0) = 0
    · rw [if_pos d]; exact hi
    · rw [if_neg d]
      show j < R.n
      omega
theorem onF_i (R : Rw) (s : TS) (on : Bool) : (onF R s on).i = s.i := by unfold onF; split <;> rfl
theorem inn_nat {n : Nat} {x : Int} (h : inn n x = true) : x.toNat ≤ n ∧ ((x.toNat : Nat) : Int) = x := by
  have := of_decide_eq_true h
  omega
theorem goF_i (R : Rw) (s : TS) (x : S50) (h : inn R.n x.f1 = true) (hi : s.i < R.n) : (goF R s x).i < R.n := by
  have h1 := moveF_i R (askF R s x.f0.toNat) x.f1.toNat x.f2 (inn_nat h).1 (by rw [(askF_i R s _).1]; exact hi)
  unfold goF
  simp only
  split
  · exact h1
  · rw [onF_i]; exact h1
theorem stepF_i (R : Rw) (s : TS) (x : S50) (hi : s.i < R.n) : (stepF R s x).1.i < R.n := by
  unfold stepF
  by_cases c : inn R.n x.f0 = true ∧ inn R.n x.f1 = true
  · rw [if_pos c]
    by_cases d : s.ov = true
    · rw [if_pos d]
      show (if noneCh R.n x = true then s else (⟨s.i, s.v, s.wt, 0, s.ov⟩ : TS)).i < R.n
      split
      · exact hi
      · exact hi
    · rw [if_neg d]
      exact goF_i R s x c.2 hi
  · rw [if_neg c]
    exact hi
/-! the contracts, at one name each -/
theorem ask_any (R : Rw) (W0 : World) (ok : RwOk R W0) (g : Nat) (s : TS) (j : Nat) (hj : j ≤ R.n) (hi : s.i < R.n) (w : World) (hb : Below W0.heap.size W0 w) (hg0 : W0.heap.size ≤ g) (h : Tr w g R s) :
    Calls Try.prog 35 #[.pointer (some ⟨g, 0, none⟩), .int .i64 (j : Int)] w fun e w' => e = .returned (.tuple #[]) ∧ Tr w' g R (askF R s j) ∧ w.grownBy w' (some g) := by
  unfold askF
  by_cases c : j = R.n
  · rw [if_pos c]
    subst c
    exact ask_none R W0 ok g s.i s.v s.wt s.p s.ov w hb h
  · rw [if_neg c]
    exact ask_one R W0 ok g s.i j s.v s.wt s.p s.ov hi (by omega) w hb hg0 h
theorem move_any (R : Rw) (W0 : World) (ok : RwOk R W0) (g : Nat) (s : TS) (j : Nat) (on : Bool) (hj : j ≤ R.n) (hi : s.i < R.n) (w : World) (hb : Below W0.heap.size W0 w) (hg0 : W0.heap.size ≤ g) (h : Tr w g R s) :
    Calls Try.prog 36 #[.pointer (some ⟨g, 0, none⟩), .int .i64 (j : Int), .bool on] w fun e w' => e = .returned (.tuple #[]) ∧ Tr w' g R (moveF R s j on) ∧ w.grownBy w' (some g) := by
  unfold moveF
  by_cases c : j = R.n
  · rw [if_pos c]
    subst c
    cases on with
    | true => exact move_none_on R W0 ok g s.i s.v s.wt s.p s.ov hi w hb hg0 h
    | false => exact move_none_off R W0 ok g s.i s.v s.wt s.p s.ov hi w hb hg0 h
  · rw [if_neg c]
    by_cases d : of (R.G.getD (s.i * R.n + j) 0) = 0
    · rw [if_pos d]
      exact move_zero R W0 ok g s.i j s.v s.wt s.p s.ov on hi (by omega) d w hb hg0 h
    · rw [if_neg d]
      exact move_one R W0 ok g s.i j s.v s.wt s.p s.ov on hi (by omega) d w hb hg0 h
theorem on_any (R : Rw) (g : Nat) (s : TS) (on : Bool) (w : World) (h : Tr w g R s) :
    Calls Try.prog 37 #[.pointer (some ⟨g, 0, none⟩), .bool on] w fun e w' => e = .returned (.tuple #[]) ∧ Tr w' g R (onF R s on) ∧ w.grownBy w' (some g) := by
  unfold onF
  cases on with
  | true => exact on_yes R g s.i s.v s.wt s.p s.ov w h
  | false => exact on_no R g s.i s.v s.wt s.p s.ov w h
theorem within_any (b g : Nat) (R : Rw) (s : TS) (x : Int) (z : Bool) (hz : inn R.n x = z) (w : World) (hc : w.cell? ⟨b, 0, none⟩ = some (.pointer (some ⟨g, 0, none⟩))) (h : Tr w g R s) :
    Calls Try.prog 34 #[.int .i64 x, .pointer (some ⟨b, 0, none⟩)] w fun e w' => e = .returned (.bool z) ∧ w = w' := by
  obtain ⟨-, -, -, -, -, k5, -, -, -, -, -, -⟩ := h.cells
  clear h
  generalize R.n = n at *
  unfold inn at hz
  by_cases c : 0 ≤ x
  · have e : decide (x ≤ (n : Int)) = z := by rw [← hz]; simp [c]
    clear hz
    go_enter Try.func34, Try.ntmps34
    go_wp2
    go_ret
    exact ⟨by rw [← e]; rfl, rfl⟩
  · have e : z = false := by rw [← hz]; simp [c]
    subst e
    clear hz
    go_enter Try.func34, Try.ntmps34
    go_wp2
    go_ret
    exact ⟨rfl, rfl⟩
theorem neq_run (x : S50) (n : Nat) (w : World) : (binOp .neq 50 (.agg #[.int .i64 x.f0, .int .i64 x.f1, .bool x.f2]) (.agg #[.int .i64 (n : Int), .int .i64 (n : Int), .bool false])).run Try.prog w = .ok (.bool (!noneCh n x)) w := by
  have hu := Try.underlying50
  obtain ⟨a, b, c⟩ := x
  unfold noneCh
  simp only
  by_cases c1 : a = (n : Int)
  · subst c1
    by_cases c2 : b = (n : Int)
    · subst c2
      cases c <;> simp [go_sem, hu]
    · have c3 : (b == (n : Int)) = false := beq_eq_false_iff_ne.mpr c2
      simp [go_sem, hu, c2, c3]
  · have c3 : (a == (n : Int)) = false := beq_eq_false_iff_ne.mpr c1
    simp [go_sem, hu, c1, c3]
/-- where a step stands: its two boxes, and the path's block -/
def Wst (w : World) (g : Nat) (x : S50) : World := (w.alloc (.cells #[.pointer (some ⟨g, 0, none⟩)] 59 (0, 0))).alloc (.cells #[.int .i64 x.f0, .int .i64 x.f1, .bool x.f2] 50 (0, 0))
theorem wst_below (w : World) (g : Nat) (x : S50) : Below w.heap.size w (Wst w g x) := Below.alloc (Below.alloc (Below.refl _ _) (Nat.le_refl _) _) (by simp) _
theorem wst_cells (w : World) (g : Nat) (x : S50) : (Wst w g x).cell? ⟨w.heap.size, 0, none⟩ = some (.pointer (some ⟨g, 0, none⟩)) ∧ (Wst w g x).cell? ⟨w.heap.size + 1, 0, none⟩ = some (.int .i64 x.f0) ∧ (Wst w g x).cell? ⟨w.heap.size + 1, 1, none⟩ = some (.int .i64 x.f1) ∧ (Wst w g x).cell? ⟨w.heap.size + 1, 2, none⟩ = some (.bool x.f2) := by
  have h0 := blk_alloc (blk_new w (.cells #[.pointer (some ⟨g, 0, none⟩)] 59 (0, 0))) (.cells #[.int .i64 x.f0, .int .i64 x.f1, .bool x.f2] 50 (0, 0))
  have h1 : (Wst w g x).heap[w.heap.size + 1]? = some (.cells #[.int .i64 x.f0, .int .i64 x.f1, .bool x.f2] 50 (0, 0)) := by
    have h := blk_new (w.alloc (.cells #[.pointer (some ⟨g, 0, none⟩)] 59 (0, 0))) (.cells #[.int .i64 x.f0, .int .i64 x.f1, .bool x.f2] 50 (0, 0))
    have e : (w.alloc (.cells #[.pointer (some ⟨g, 0, none⟩)] 59 (0, 0))).heap.size = w.heap.size + 1 := by simp
    rw [e] at h
    exact h
  exact ⟨(blk_cell h0 0).trans rfl, (blk_cell h1 0).trans rfl, (blk_cell h1 1).trans rfl, (blk_cell h1 2).trans rfl⟩
theorem step_end {w W : World} {g : Nat} {x : S50} (h : (Wst w g x).grownBy W (some g)) : w.grownBy W (some g) := grown_trans (grown_of (wst_below w g x) _) h
/-- the boxes stay as they are, whatever the path does -/
theorem cell_kept {w W : World} {g b i : Nat} {v : Value} (hg : w.grownBy W (some g)) (hb : b < w.heap.size) (hne : b ≠ g) (h : w.cell? ⟨b, i, none⟩ = some v) : W.cell? ⟨b, i, none⟩ = some v := by
  have e := hg.block b hb (fun e => hne (by injection e with e))
  exact (World.cell?_of_block (a := ⟨b, i, none⟩) e).trans h
set_option maxHeartbeats 2000000 in
theorem step_bad0 (R : Rw) (g : Nat) (s : TS) (x : S50) (h0 : inn R.n x.f0 = false) (w : World) (h : Tr w g R s) :
    Calls Try.prog 21 #[.pointer (some ⟨g, 0, none⟩), .agg #[.int .i64 x.f0, .int .i64 x.f1, .bool x.f2]] w fun e w' => e = .returned (.bool false) ∧ Tr w' g R ⟨s.i, s.v, s.wt, 0, s.ov⟩ ∧ w.grownBy w' (some g) := by
  have HT := Aside0.mk h
  have HW := Aside0.mk (h.below (wst_below w g x))
  obtain ⟨b0, b1, b2, b3⟩ := wst_cells w g x
  obtain ⟨-, -, -, -, -, q5, -, -, -, q9, q10, qf⟩ := HW.out.cells
  have HC := Aside0.mk b0
  have HI0 := Aside0.mk (fun (W : World) (hW : W = Wst w g x) => by subst hW; exact within_any w.heap.size g R s x.f0 false h0 (Wst w g x) b0 HW.out)
  clear h h0
  go_enter Try.func21, Try.ntmps21
  go_wp2_with (go_at_call 34; refine (HI0.out _ rfl).mono ?_; rintro y w1 ⟨rfl, rfl⟩)
  go_ret
  exact ⟨rfl, HW.out.putP 0, step_end (x := x) (grown_cell _ _ _ _)⟩
set_option maxHeartbeats 2000000 in
theorem step_bad1 (R : Rw) (g : Nat) (s : TS) (x : S50) (h0 : inn R.n x.f0 = true) (h1 : inn R.n x.f1 = false) (w : World) (h : Tr w g R s) :
    Calls Try.prog 21 #[.pointer (some ⟨g, 0, none⟩), .agg #[.int .i64 x.f0, .int .i64 x.f1, .bool x.f2]] w fun e w' => e = .returned (.bool false) ∧ Tr w' g R ⟨s.i, s.v, s.wt, 0, s.ov⟩ ∧ w.grownBy w' (some g) := by
  have HT := Aside0.mk h
  have HW := Aside0.mk (h.below (wst_below w g x))
  obtain ⟨b0, b1, b2, b3⟩ := wst_cells w g x
  obtain ⟨-, -, -, -, -, q5, -, -, -, q9, q10, qf⟩ := HW.out.cells
  have HC := Aside0.mk b0
  have HI0 := Aside0.mk (fun (W : World) (hW : W = Wst w g x) => by subst hW; exact within_any w.heap.size g R s x.f0 true h0 (Wst w g x) b0 HW.out)
  have HI1 := Aside0.mk (within_any w.heap.size g R s x.f1 false h1 (Wst w g x) b0 HW.out)
  clear h h0 h1
  go_enter Try.func21, Try.ntmps21
  go_wp2_with (first
    | (go_at_call 34; with_reducible refine HI1.out.mono ?_; rintro y w1 ⟨rfl, rfl⟩)
    | (go_at_call 34; refine (HI0.out _ rfl).mono ?_; rintro y w1 ⟨rfl, rfl⟩))
  go_ret
  exact ⟨rfl, HW.out.putP 0, step_end (x := x) (grown_cell _ _ _ _)⟩
set_option maxHeartbeats 4000000 in
theorem step_over (R : Rw) (g : Nat) (s : TS) (x : S50) (h0 : inn R.n x.f0 = true) (h1 : inn R.n x.f1 = true) (ho : s.ov = true) (w : World) (h : Tr w g R s) :
    Calls Try.prog 21 #[.pointer (some ⟨g, 0, none⟩), .agg #[.int .i64 x.f0, .int .i64 x.f1, .bool x.f2]] w fun e w' => e = .returned (.bool true) ∧ Tr w' g R (if noneCh R.n x = true then s else ⟨s.i, s.v, s.wt, 0, s.ov⟩) ∧ w.grownBy w' (some g) := by
  have HT := Aside0.mk h
  have HW := Aside0.mk (h.below (wst_below w g x))
  obtain ⟨b0, b1, b2, b3⟩ := wst_cells w g x
  obtain ⟨-, -, -, -, -, q5, -, -, -, q9, q10, qf⟩ := HW.out.cells
  have HI0 := Aside0.mk (fun (W : World) (hW : W = Wst w g x) => by subst hW; exact within_any w.heap.size g R s x.f0 true h0 (Wst w g x) b0 HW.out)
  have HI1 := Aside0.mk (within_any w.heap.size g R s x.f1 true h1 (Wst w g x) b0 HW.out)
  have hne := neq_run x R.n
  rw [ho] at q10
  cases hc : noneCh R.n x with
  | true =>
    rw [hc] at hne
    rw [if_pos rfl]
    clear h h0 h1 ho hc
    go_enter Try.func21, Try.ntmps21
    go_wp2_with (first
      | (go_at_call 34; with_reducible refine HI1.out.mono ?_; rintro y w1 ⟨rfl, rfl⟩)
      | (go_at_call 34; refine (HI0.out _ rfl).mono ?_; rintro y w1 ⟨rfl, rfl⟩))
    go_quiet (fail)
    go_wp2
    go_ret
    exact ⟨rfl, HW.out.drewN _, step_end (x := x) (grown_of (pw_below_drewN (Below.refl _ _) _) _)⟩
  | false =>
    rw [hc] at hne
    rw [if_neg (by decide)]
    clear h h0 h1 ho hc
    go_enter Try.func21, Try.ntmps21
    go_wp2_with (first
      | (go_at_call 34; with_reducible refine HI1.out.mono ?_; rintro y w1 ⟨rfl, rfl⟩)
      | (go_at_call 34; refine (HI0.out _ rfl).mono ?_; rintro y w1 ⟨rfl, rfl⟩))
    go_quiet (fail)
    go_wp2
    go_ret
    exact ⟨rfl, (HW.out.drewN _).putP 0, step_end (x := x) (grown_trans (grown_of (pw_below_drewN (Below.refl _ _) _) _) (grown_cell _ _ _ _))⟩
theorem wst_kept {w W : World} {g : Nat} (x : S50) (hg : g < w.heap.size) (h : (Wst w g x).grownBy W (some g)) : W.cell? ⟨w.heap.size, 0, none⟩ = some (.pointer (some ⟨g, 0, none⟩)) ∧ W.cell? ⟨w.heap.size + 1, 0, none⟩ = some (.int .i64 x.f0) ∧ W.cell? ⟨w.heap.size + 1, 1, none⟩ = some (.int .i64 x.f1) ∧ W.cell? ⟨w.heap.size + 1, 2, none⟩ = some (.bool x.f2) := by
  obtain ⟨b0, b1, b2, b3⟩ := wst_cells w g x
  have hs : (Wst w g x).heap.size = w.heap.size + 2 := by simp [Wst]
  exact ⟨cell_kept h (by omega) (by omega) b0, cell_kept h (by omega) (by omega) b1, cell_kept h (by omega) (by omega) b2, cell_kept h (by omega) (by omega) b3⟩
set_option maxHeartbeats 8000000 in
theorem step_go_out (R : Rw) (W0 : World) (ok : RwOk R W0) (g : Nat) (s : TS) (x : S50) (h0 : inn R.n x.f0 = true) (h1 : inn R.n x.f1 = true) (ho : s.ov = false) (hi : s.i < R.n) (ho2 : (moveF R (askF R s x.f0.toNat) x.f1.toNat x.f2).ov = true) (w : World) (hb : Below W0.heap.size W0 w) (hg0 : W0.heap.size ≤ g) (h : Tr w g R s) :
    Calls Try.prog 21 #[.pointer (some ⟨g, 0, none⟩), .agg #[.int .i64 x.f0, .int .i64 x.f1, .bool x.f2]] w fun e w' => e = .returned (.bool true) ∧ Tr w' g R (moveF R (askF R s x.f0.toNat) x.f1.toNat x.f2) ∧ w.grownBy w' (some g) := by
  have HW := Aside0.mk (h.below (wst_below w g x))
  have hlt := h.lt
  obtain ⟨b0, b1, b2, b3⟩ := wst_cells w g x
  obtain ⟨-, -, -, -, -, q5, -, -, -, q9, q10, qf⟩ := HW.out.cells
  rw [ho] at q10
  have HI0 := Aside0.mk (fun (W : World) (hW : W = Wst w g x) => by subst hW; exact within_any w.heap.size g R s x.f0 true h0 (Wst w g x) b0 HW.out)
  have HI1 := Aside0.mk (within_any w.heap.size g R s x.f1 true h1 (Wst w g x) b0 HW.out)
  have hbW : Below W0.heap.size W0 (Wst w g x) := below_then hb hb.size (wst_below w g x)
  have HBG := Aside0.mk (fun (W : World) (hW : (Wst w g x).grownBy W (some g)) => grown_below hbW hW hbW.size hg0)
  have HK := Aside0.mk (fun (W : World) (hW : (Wst w g x).grownBy W (some g)) => wst_kept x hlt hW)
  have ha := ask_any R W0 ok g s x.f0.toNat (inn_nat h0).1 hi (Wst w g x) hbW hg0 HW.out
  rw [(inn_nat h0).2] at ha
  have HA := Aside0.mk ha
  have hi1 : (askF R s x.f0.toNat).i < R.n := by rw [(askF_i R s _).1]; exact hi
  generalize askF R s x.f0.toNat = s1 at *
  have HM := Aside0.mk (fun W hW hT => by have hm := move_any R W0 ok g s1 x.f1.toNat x.f2 (inn_nat h1).1 hi1 W hW hg0 hT; rw [(inn_nat h1).2] at hm; exact hm)
  generalize moveF R s1 x.f1.toNat x.f2 = s2 at *
  have HO := Aside0.mk (fun W hT => on_any R g s2 x.f2 W hT)
  have Ho2 := Aside0.mk ho2
  generalize onF R s2 x.f2 = s3 at *
  clear h h0 h1 ho hb hbW ha hi1 hi ok ho2
  go_enter Try.func21, Try.ntmps21
  go_wp2_with (first
    | (go_at_call 34; with_reducible refine HI1.out.mono ?_; rintro y w1 ⟨rfl, rfl⟩)
    | (go_at_call 34; refine (HI0.out _ rfl).mono ?_; rintro y w1 ⟨rfl, rfl⟩)
    | (go_at_call 35; with_reducible refine HA.out.mono ?_; rintro y w2 ⟨rfl, hT2, hg2⟩; obtain ⟨c0, c1, c2, c3⟩ := HK.out w2 hg2; have HT2 := Aside0.mk hT2; have HG2 := Aside0.mk hg2; clear hT2 hg2 b0 b1 b2 b3 q5 q9 q10 qf)
    | (go_at_call 36; with_reducible refine (HM.out w2 (HBG.out w2 HG2.out) HT2.out).mono ?_; rintro y w3 ⟨rfl, hT3, hg3⟩; have HG3 := Aside0.mk (grown_trans HG2.out hg3); obtain ⟨e0, e1, e2, e3⟩ := HK.out w3 HG3.out; have HT3 := Aside0.mk hT3; obtain ⟨-, -, -, -, -, -, -, -, -, -, r10, rf⟩ := HT3.out.cells; rw [Ho2.out] at r10; clear hT3 hg3 c0 c1 c2 c3))
  go_ret
  exact ⟨rfl, HT3.out, step_end (x := x) HG3.out⟩
set_option maxHeartbeats 8000000 in
theorem step_go_on (R : Rw) (W0 : World) (ok : RwOk R W0) (g : Nat) (s : TS) (x : S50) (h0 : inn R.n x.f0 = true) (h1 : inn R.n x.f1 = true) (ho : s.ov = false) (hi : s.i < R.n) (ho2 : (moveF R (askF R s x.f0.toNat) x.f1.toNat x.f2).ov = false) (w : World) (hb : Below W0.heap.size W0 w) (hg0 : W0.heap.size ≤ g) (h : Tr w g R s) :
    Calls Try.prog 21 #[.pointer (some ⟨g, 0, none⟩), .agg #[.int .i64 x.f0, .int .i64 x.f1, .bool x.f2]] w fun e w' => e = .returned (.bool true) ∧ Tr w' g R (onF R (moveF R (askF R s x.f0.toNat) x.f1.toNat x.f2) x.f2) ∧ w.grownBy w' (some g) := by
  have HW := Aside0.mk (h.below (wst_below w g x))
  have hlt := h.lt
  obtain ⟨b0, b1, b2, b3⟩ := wst_cells w g x
  obtain ⟨-, -, -, -, -, q5, -, -, -, q9, q10, qf⟩ := HW.out.cells
  rw [ho] at q10
  have HI0 := Aside0.mk (fun (W : World) (hW : W = Wst w g x) => by subst hW; exact within_any w.heap.size g R s x.f0 true h0 (Wst w g x) b0 HW.out)
  have HI1 := Aside0.mk (within_any w.heap.size g R s x.f1 true h1 (Wst w g x) b0 HW.out)
  have hbW : Below W0.heap.size W0 (Wst w g x) := below_then hb hb.size (wst_below w g x)
  have HBG := Aside0.mk (fun (W : World) (hW : (Wst w g x).grownBy W (some g)) => grown_below hbW hW hbW.size hg0)
  have HK := Aside0.mk (fun (W : World) (hW : (Wst w g x).grownBy W (some g)) => wst_kept x hlt hW)
  have ha := ask_any R W0 ok g s x.f0.toNat (inn_nat h0).1 hi (Wst w g x) hbW hg0 HW.out
  rw [(inn_nat h0).2] at ha
  have HA := Aside0.mk ha
  have hi1 : (askF R s x.f0.toNat).i < R.n := by rw [(askF_i R s _).1]; exact hi
  generalize askF R s x.f0.toNat = s1 at *
  have HM := Aside0.mk (fun W hW hT => by have hm := move_any R W0 ok g s1 x.f1.toNat x.f2 (inn_nat h1).1 hi1 W hW hg0 hT; rw [(inn_nat h1).2] at hm; exact hm)
  generalize moveF R s1 x.f1.toNat x.f2 = s2 at *
  have HO := Aside0.mk (fun W hT => on_any R g s2 x.f2 W hT)
  have Ho2 := Aside0.mk ho2
  generalize onF R s2 x.f2 = s3 at *
  clear h h0 h1 ho hb hbW ha hi1 hi ok ho2
  go_enter Try.func21, Try.ntmps21
  go_wp2_with (first
    | (go_at_call 34; with_reducible refine HI1.out.mono ?_; rintro y w1 ⟨rfl, rfl⟩)
    | (go_at_call 34; refine (HI0.out _ rfl).mono ?_; rintro y w1 ⟨rfl, rfl⟩)
    | (go_at_call 35; with_reducible refine HA.out.mono ?_; rintro y w2 ⟨rfl, hT2, hg2⟩; obtain ⟨c0, c1, c2, c3⟩ := HK.out w2 hg2; have HT2 := Aside0.mk hT2; have HG2 := Aside0.mk hg2; clear hT2 hg2 b0 b1 b2 b3 q5 q9 q10 qf)
    | (go_at_call 36; with_reducible refine (HM.out w2 (HBG.out w2 HG2.out) HT2.out).mono ?_; rintro y w3 ⟨rfl, hT3, hg3⟩; have HG3 := Aside0.mk (grown_trans HG2.out hg3); obtain ⟨e0, e1, e2, e3⟩ := HK.out w3 HG3.out; have HT3 := Aside0.mk hT3; obtain ⟨-, -, -, -, -, -, -, -, -, -, r10, rf⟩ := HT3.out.cells; rw [Ho2.out] at r10; clear hT3 hg3 c0 c1 c2 c3)
    | (go_at_call 37; with_reducible refine (HO.out w3 HT3.out).mono ?_; rintro y w4 ⟨rfl, hT4, hg4⟩; have HT4 := Aside0.mk hT4; have HG4 := Aside0.mk (grown_trans HG3.out hg4); clear hT4 hg4))
  go_ret
  exact ⟨rfl, HT4.out, step_end (x := x) HG4.out⟩
theorem step_any (R : Rw) (W0 : World) (ok : RwOk R W0) (g : Nat) (s : TS) (x : S50) (hi : s.i < R.n) (w : World) (hb : Below W0.heap.size W0 w) (hg0 : W0.heap.size ≤ g) (h : Tr w g R s) :
    Calls Try.prog 21 #[.pointer (some ⟨g, 0, none⟩), .agg #[.int .i64 x.f0, .int .i64 x.f1, .bool x.f2]] w fun e w' => e = .returned (.bool (stepF R s x).2) ∧ Tr w' g R (stepF R s x).1 ∧ w.grownBy w' (some g) := by
  unfold stepF
  cases h0 : inn R.n x.f0 with
  | false =>
    rw [if_neg (by simp)]
    exact step_bad0 R g s x h0 w h
  | true =>
    cases h1 : inn R.n x.f1 with
    | false =>
      rw [if_neg (by simp)]
      exact step_bad1 R g s x h0 h1 w h
    | true =>
      rw [if_pos ⟨rfl, rfl⟩]
      cases ho : s.ov with
      | true =>
        rw [if_pos rfl]
        have := step_over R g s x h0 h1 ho w h
        rw [ho] at this
        exact this
      | false =>
        rw [if_neg (by decide)]
        unfold goF
        simp only
        cases ho2 : (moveF R (askF R s x.f0.toNat) x.f1.toNat x.f2).ov with
        | true =>
          rw [if_pos rfl]
          exact step_go_out R W0 ok g s x h0 h1 ho hi ho2 w hb hg0 h
        | false =>
          rw [if_neg (by decide)]
          exact step_go_on R W0 ok g s x h0 h1 ho hi ho2 w hb hg0 h
end Go.Proofs.Ytgkgnihjjabapaa.Gv
