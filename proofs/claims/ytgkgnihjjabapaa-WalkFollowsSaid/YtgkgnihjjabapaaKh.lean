/- the document's path: what its parts tell. -/
import Derived.Test.YtgkgnihjjabapaaPq
namespace Go.Proofs.Ytgkgnihjjabapaa.Gv
open Go.RowKit Go.Proofs.Ytgkgnihjjabapaa.X Go.Proofs.Ytgkgnihjjabapaa.Pl Go.Proofs.Ytgkgnihjjabapaa.Pa Go.Proofs.Ytgkgnihjjabapaa.Pb Go.Proofs.Ytgkgnihjjabapaa.Pq Go.Proofs.YtgkgnihjjabapaaW.PrintWords Go.Proofs.YtgkgnihjjabapaaW.PrintLast
/-- an inverse; 0, if there is none -/
def inv0 (a : Int) : Int := if of a = 0 then 0 else invP a
theorem inv0_ev (a : Int) : Ev (fun k => penumbraref30_Inv.f k a) (inv0 a) := by
  unfold inv0
  by_cases h : of a = 0
  · rw [if_pos h]
    unfold penumbraref30_Inv.f
    rw [ROf_eq, h]
    exact Ev.of (g := fun k => penumbraref30_Inv.f k 0) (penumbraref30_Inv.mono _) (k := 4) (by decide +kernel)
  · rw [if_neg h]
    exact RInv_ev a h
theorem ovr_inv0 (a b : Int) : ovr a b = of (a * inv0 b) := by
  unfold ovr inv0
  by_cases h : of b = 0
  · rw [if_pos h, if_pos h, Int.mul_zero]; rfl
  · rw [if_neg h, if_neg h]
theorem rinv_any (a : Int) (w : World) : Calls Try.prog 25 #[.int .i64 a] w fun e w' => e = .returned (.int .i64 (inv0 a)) ∧ Drawn0 w w' := by
  obtain ⟨K, hK⟩ := inv0_ev a
  exact penumbraref30_Inv.calls K a _ w (hK K (Nat.le_refl _))
theorem rmul_any (a b : Int) (w : World) : Calls Try.prog 16 #[.int .i64 a, .int .i64 b] w fun e w' => e = .returned (.int .i64 (of (a * b))) ∧ Drawn0 w w' := penumbraref30_Mul.calls a b _ w (RMul_eq a b)
theorem radd_any (a b : Int) (w : World) : Calls Try.prog 12 #[.int .i64 a, .int .i64 b] w fun e w' => e = .returned (.int .i64 (of (a + b))) ∧ Drawn0 w w' := penumbraref30_Add.calls a b _ w (RAdd_eq a b)
theorem rsub_any (a b : Int) (w : World) : Calls Try.prog 27 #[.int .i64 a, .int .i64 b] w fun e w' => e = .returned (.int .i64 (of (a - b))) ∧ Drawn0 w w' := penumbraref30_Sub.calls a b _ w (RSub_eq a b)
theorem rof_any (a : Int) (w : World) : Calls Try.prog 23 #[.int .i64 a] w fun e w' => e = .returned (.int .i64 (of a)) ∧ Drawn0 w w' := penumbraref30_Of.calls a _ w (ROf_eq a)
/-- 1 less numbers, one by one -/
def lft (l : List Int) : Int := l.foldl (fun s x => of (s - x)) 1
theorem lft_loop (l : List Int) (hl : l.length ≤ 1000000) : ∀ (d i : Nat) (s : Int), i + d = l.length → Ev (fun k => penumbraref35_left.l0 k l s (i : Int)) ((l.drop i).foldl (fun s x => of (s - x)) s) := by
  intro d
  induction d with
  | zero =>
    intro i s hi
    refine Ev.step (fun k => by rw [penumbraref35_left.l0]) ?_
    rw [List.drop_eq_nil_of_le (by omega)]
    exact ev_neg (by omega) (Ev.now _)
  | succ d ih =>
    intro i s hi
    refine Ev.step (fun k => by rw [penumbraref35_left.l0]) ?_
    refine ev_pos (by omega) (ev_pos (by omega) ?_)
    rw [RSub_eq, rd_eq, sucW i (by omega)]
    refine ev_some ?_
    have h := ih (i + 1) (of (s - l.getD i 0)) (by omega)
    rw [List.drop_eq_getElem_cons (by omega), List.foldl_cons]
    rw [List.getD_eq_getElem?_getD, List.getElem?_eq_getElem (by omega)] at h
    rw [List.getD_eq_getElem?_getD, List.getElem?_eq_getElem (by omega)]
    exact h
theorem left_any (A : Option Addr) (c : Nat) (l : List Int) (hl : l.length ≤ 1000000) (w : World) (hr : Kd.C (Kd.int .i64) w A l.length l) (hc : l.length ≤ c) :
    Calls Try.prog 24 #[.slice A l.length c] w fun e w' => e = .returned (.int .i64 (lft l)) ∧ Drawn0 w w' := by
  obtain ⟨K, hK⟩ := lft_loop l hl l.length 0 1 (by omega)
  exact penumbraref35_left.calls K A c l _ w hr hc (hK K (Nat.le_refl _))
theorem lft_rs (l : List Int) : of (lft l) = Gv.rs l := by
  have key : ∀ (l : List Int) (s : Int), of (l.foldl (fun s x => of (s - x)) s) = of (s - l.foldl (· + ·) 0) := by
    intro l
    induction l with
    | nil => intro s; simp
    | cons x l ih =>
      intro s
      have h2 : ∀ (m : List Int) (a b : Int), m.foldl (· + ·) (a + b) = a + m.foldl (· + ·) b := by
        intro m
        induction m with
        | nil => intro a b; rfl
        | cons y m ihm => intro a b; rw [List.foldl_cons, List.foldl_cons, Int.add_assoc]; exact ihm a (b + y)
      rw [List.foldl_cons, ih, of_sub_left, List.foldl_cons]
      have h3 := h2 l x 0
      rw [Int.add_zero] at h3
      rw [Int.zero_add, h3]
      congr 1
      omega
  unfold lft Gv.rs suml
  rw [key, of_sub_right]
theorem rweights_any (R : Rw) (W0 : World) (ok : RwOk R W0) (i j : Nat) (hi : i < R.n) (hj : j < R.n) (w : World) (hb : Below W0.heap.size W0 w) :
    Calls Try.prog 19 #[.agg #[.slice R.aG R.G.length R.cG, .slice R.aA R.A.length R.cA, .int .i64 R.on], .int .i64 (R.n : Int), .int .i64 (i : Int), .int .i64 (j : Int)] w fun e w' => e = .returned (.tuple #[.int .i64 (wts R.G R.A R.n i j).1, .int .i64 (wts R.G R.A R.n i j).2]) ∧ Below w.heap.size w w' := by
  obtain ⟨K, hK⟩ := RWeights_ev R.G R.A R.on R.n i j ok.n12 hi hj ok.lG ok.lA
  exact penumbraref35_Weights.calls K R.aG R.cG R.G R.aA R.cA R.A R.on R.n i j _ _ w (Kd.C_below ok.hG hb) ok.cG (Kd.C_below ok.hA hb) ok.cA (hK K (Nat.le_refl _))
/-- 1, if all choices are none -/
def all1 (n : Nat) (l : List S50) : Int := if l.all (noneCh n) = true then 1 else 0
theorem all1_loop (n : Nat) (l : List S50) (hl : l.length ≤ 1000000) : ∀ (d i : Nat), i + d = l.length → Ev (fun k => penumbraref35_over.l0 k l (n : Int) (i : Int)) (all1 n (l.drop i)) := by
  intro d
  induction d with
  | zero =>
    intro i hi
    refine Ev.step (fun k => by rw [penumbraref35_over.l0]) ?_
    rw [List.drop_eq_nil_of_le (by omega)]
    exact ev_neg (by omega) (Ev.now _)
  | succ d ih =>
    intro i hi
    refine Ev.step (fun k => by rw [penumbraref35_over.l0]) ?_
    refine ev_pos (by omega) (ev_pos (by omega) ?_)
    rw [sucW i (by omega)]
    have hx : rd_T50 l (i : Int) = l[i] := by
      unfold rd_T50
      rw [Int.toNat_natCast, List.getD_eq_getElem?_getD, List.getElem?_eq_getElem (by omega)]
      rfl
    rw [hx]
    have hd : all1 n (l.drop i) = if noneCh n l[i] = true then all1 n (l.drop (i + 1)) else 0 := by
      unfold all1
      rw [List.drop_eq_getElem_cons (by omega), List.all_cons]
      cases noneCh n l[i] <;> simp
    rw [hd]
    have hn : (!((l[i]).f0 == (n : Int)) || (!((l[i]).f1 == (n : Int)) || (l[i]).f2)) = !noneCh n l[i] := by
      unfold noneCh
      have e0 : ((l[i]).f0 == (n : Int)) = decide ((l[i]).f0 = (n : Int)) := rfl
      have e1 : ((l[i]).f1 == (n : Int)) = decide ((l[i]).f1 = (n : Int)) := rfl
      rw [e0, e1]
      cases decide ((l[i]).f0 = (n : Int)) <;> cases decide ((l[i]).f1 = (n : Int)) <;> cases (l[i]).f2 <;> rfl
    rw [hn]
    cases hc : noneCh n l[i] with
    | true =>
      rw [if_pos rfl]
      exact ev_neg (by decide) (ih (i + 1) (by omega))
    | false =>
      rw [if_neg (by decide)]
      exact ev_pos rfl (Ev.now _)
theorem rover_any (n : Nat) (A : Option Addr) (c : Nat) (l : List S50) (hl : l.length ≤ 1000000) (w : World) (hr : Kd.C k50 w A l.length l) (hc : l.length ≤ c) :
    Calls Try.prog 26 #[.slice A l.length c, .int .i64 (n : Int)] w fun e w' => e = .returned (.int .i64 (all1 n l)) ∧ Drawn0 w w' := by
  obtain ⟨K, hK⟩ := all1_loop n l hl l.length 0 (by omega)
  exact penumbraref35_over.calls K A c l (n : Int) _ w hr hc (hK K (Nat.le_refl _))
/-- what a light brings, and its chance -/
def rVal (R : Rw) (i : Nat) (wt : Int) (j : Nat) : Int := if j = R.n then 0 else of (of (of (wt * R.T.getD (i * R.n + j) 0) * of (R.E.getD j 0 * (wts R.G R.A R.n i j).1)) * inv0 (R.A.getD j 0))
def rCh (R : Rw) (j : Nat) : Int := if j = R.n then lft R.A else of (R.A.getD j 0)
/-- the weight behind a move, its value, its chance -/
def rW (R : Rw) (i : Nat) (wt : Int) (g : Nat) : Int := of (of (wt * R.T.getD (i * R.n + g) 0) * inv0 (R.G.getD (i * R.n + g) 0))
def rV (R : Rw) (i : Nat) (wt value : Int) (g : Nat) : Int := of (value + of (rW R i wt g * of (R.E.getD g 0 * (wts R.G R.A R.n i g).2)))
/-- the document's path -/
def rF (R : Rw) : Nat → Int → List S50 → Int × Int
  | _, _, [] => (0, 1)
  | i, wt, x :: l =>
    if inn R.n x.f0 = true ∧ inn R.n x.f1 = true then
      (if x.f1.toNat = R.n then (if x.f2 = true then (rVal R i wt x.f0.toNat, 0) else (rVal R i wt x.f0.toNat, of (of (rCh R x.f0.toNat * lft (rowG R i)) * all1 R.n l)))
      else if of (R.G.getD (i * R.n + x.f1.toNat) 0) = 0 then (rVal R i wt x.f0.toNat, 0)
      else if x.f2 = true then (of (rV R i wt (rVal R i wt x.f0.toNat) x.f1.toNat + (rF R x.f1.toNat (of (rW R i wt x.f1.toNat * inv0 R.on)) l).1), of (of (of (rCh R x.f0.toNat * R.G.getD (i * R.n + x.f1.toNat) 0) * R.on) * (rF R x.f1.toNat (of (rW R i wt x.f1.toNat * inv0 R.on)) l).2))
      else (rV R i wt (rVal R i wt x.f0.toNat) x.f1.toNat, of (of (of (rCh R x.f0.toNat * R.G.getD (i * R.n + x.f1.toNat) 0) * of (1 - R.on)) * all1 R.n l)))
    else (0, 0)
end Go.Proofs.Ytgkgnihjjabapaa.Gv
