/- All paths together: their chances are 1, and their values are the light. Plain. -/
import Derived.Test.YtgkgnihjjabapaaPu
namespace Go.Proofs.Ytgkgnihjjabapaa.Pq
open Go.RowKit Go.Proofs.Ytgkgnihjjabapaa.X Go.Proofs.YtgkgnihjjabapaaW.PrintWords Go.Proofs.YtgkgnihjjabapaaW.PrintLast Pl Gv Pa Pb Pc Pd
/-- the same rest -/
def Cg (a b : Int) : Prop := of a = of b
theorem Cg.refl (a : Int) : Cg a a := Eq.refl _
theorem Cg.symm {a b : Int} (h : Cg a b) : Cg b a := Eq.symm h
theorem Cg.trans {a b c : Int} (h : Cg a b) (k : Cg b c) : Cg a c := Eq.trans h k
theorem Cg.add {a b c d : Int} (h : Cg a b) (k : Cg c d) : Cg (a + c) (b + d) := by
  unfold Cg at *
  rw [← of_add, h, k, of_add]
theorem Cg.sub {a b c d : Int} (h : Cg a b) (k : Cg c d) : Cg (a - c) (b - d) := by
  unfold Cg at *
  rw [← of_sub, h, k, of_sub]
theorem Cg.mul {a b c d : Int} (h : Cg a b) (k : Cg c d) : Cg (a * c) (b * d) := by
  unfold Cg at *
  rw [← of_mul, h, k, of_mul]
theorem Cg.of' (a : Int) : Cg (of a) a := of_of a
theorem Cg.eq {a b : Int} (h : a = b) : Cg a b := by rw [h]; exact Cg.refl _
theorem Cg.sm {n : Nat} {f g : Nat → Int} (h : ∀ k, k < n → Cg (f k) (g k)) : Cg (sm n f) (sm n g) := of_sm_congr h
/-- a quotient, times what it was divided by -/
theorem ovr_mul {x a : Int} (h : of a ≠ 0) : Cg (a * ovr x a) x := by
  unfold ovr
  rw [if_neg h]
  have h1 : Cg (invP a * a) 1 := by unfold Cg; rw [invP_mul a h]; rfl
  refine ((Cg.refl a).mul (Cg.of' _)).trans ?_
  refine (Cg.eq (show a * (x * invP a) = x * (invP a * a) by grind)).trans ?_
  refine ((Cg.refl x).mul h1).trans (Cg.eq (by grind))
theorem zero_of {a : Int} (h : of a = 0) : Cg a 0 := by unfold Cg; rw [h]; rfl
theorem foldl_sm : ∀ (l : List Int) (s : Int), l.foldl (· + ·) s = s + sm l.length (fun k => l.getD k 0)
  | [], s => by simp [sm]
  | x :: l, s => by
    rw [List.foldl_cons, foldl_sm l, List.length_cons, sm_head]
    have e : (fun k => (x :: l).getD (k + 1) 0) = fun k => l.getD k 0 := by
      funext k
      simp [List.getD_eq_getElem?_getD]
    rw [e]
    simp [List.getD_eq_getElem?_getD]
    omega
theorem suml_sm (l : List Int) : Cg (suml l) (sm l.length fun k => l.getD k 0) := by
  unfold suml
  rw [foldl_sm, Int.zero_add]
  exact Cg.of' _
/-! sums over digits -/
theorem sm_plus (a b : Nat) (f : Nat → Int) : sm (a + b) f = sm a f + sm b fun i => f (a + i) := by
  induction b with
  | zero => simp [sm]
  | succ b ih => rw [← Nat.add_assoc, sm, ih, sm, Int.add_assoc]
theorem sm_digits (k : Nat) (hk : 0 < k) (g : Nat → Nat → Int) : ∀ m, sm (m * k) (fun x => g (x % k) (x / k)) = sm m fun r => sm k fun a => g a r
  | 0 => by rw [Nat.zero_mul]; rfl
  | m + 1 => by
    rw [Nat.add_mul, Nat.one_mul, sm_plus, sm_digits k hk g m, sm]
    congr 1
    refine sm_congr fun a ha => ?_
    rw [Nat.mul_comm m k, Nat.mul_add_mod, Nat.mod_eq_of_lt ha, Nat.mul_add_div hk, Nat.div_eq_of_lt ha, Nat.add_zero]
theorem sm_two (f : Nat → Int) : sm 2 f = f 0 + f 1 := by simp [sm]
/-- a choice, by its number -/
def chL (n z : Nat) : S50 := ⟨((z % (n + 1) : Nat) : Int), ((z / (n + 1) % (n + 1) : Nat) : Int), decide (z / ((n + 1) * (n + 1)) = 1)⟩
def digs (n k : Nat) : Nat → Nat → List S50
  | 0, _ => []
  | d + 1, x => chL n (x % k) :: digs n k d (x / k)
def mkCh (l g : Nat) (o : Bool) : S50 := ⟨(l : Int), (g : Int), o⟩
theorem inn_le {n l : Nat} (h : l ≤ n) : inn n (l : Int) = true := decide_eq_true ⟨by omega, by omega⟩
theorem step_go (R : Rw) (s : TS) (l g : Nat) (o : Bool) (hl : l ≤ R.n) (hg : g ≤ R.n) (ho : s.ov = false) : stepF R s (mkCh l g o) = (goF R s (mkCh l g o), true) := by
  unfold stepF
  rw [if_pos ⟨inn_le hl, inn_le hg⟩, if_neg (by rw [ho]; decide)]
theorem step_ov (R : Rw) (s : TS) (l g : Nat) (o : Bool) (hl : l ≤ R.n) (hg : g ≤ R.n) (ho : s.ov = true) : stepF R s (mkCh l g o) = (if noneCh R.n (mkCh l g o) = true then s else ⟨s.i, s.v, s.wt, 0, s.ov⟩, true) := by
  unfold stepF
  rw [if_pos ⟨inn_le hl, inn_le hg⟩, if_pos ho]
section
variable (R : Rw)
/-- a move, and whether it goes on -/
def mvo (s : TS) (g : Nat) (o : Bool) : TS := let s2 := moveF R s g o; if s2.ov = true then s2 else onF R s2 o
/-- what a state tells of its value, where what comes from beyond is B -/
def wrth (B : Nat → Int) (s : TS) : Int := s.p * (s.v + if s.ov = true then 0 else s.wt * B s.i)
/-- what one patch throws to another one, by the moving way -/
def zz (B : Nat → Int) (i g : Nat) : Int := R.T.getD (i * R.n + g) 0 * (R.E.getD g 0 * (wts R.G R.A R.n i g).2 + B g)
theorem mvo_none_on (s : TS) : mvo R s R.n true = ⟨s.i, s.v, s.wt, 0, true⟩ := by simp [mvo, moveF]
theorem mvo_none_off (s : TS) : mvo R s R.n false = ⟨s.i, s.v, s.wt, of (s.p * Gv.rs (rowG R s.i)), true⟩ := by simp [mvo, moveF]
theorem mvo_zero (s : TS) (g : Nat) (o : Bool) (hg : g < R.n) (hz : of (R.G.getD (s.i * R.n + g) 0) = 0) : mvo R s g o = ⟨s.i, s.v, s.wt, of (s.p * R.G.getD (s.i * R.n + g) 0), true⟩ := by
  have h : ¬ g = R.n := by omega
  unfold mvo moveF
  simp only [if_neg h, if_pos hz, ↓reduceIte]
theorem mvo_off (s : TS) (g : Nat) (hg : g < R.n) (hz : of (R.G.getD (s.i * R.n + g) 0) ≠ 0) : mvo R s g false = ⟨g, of (s.v + of (ovr (of (s.wt * R.T.getD (s.i * R.n + g) 0)) (R.G.getD (s.i * R.n + g) 0) * R.E.getD g 0 * (wts R.G R.A R.n s.i g).2)), ovr (of (s.wt * R.T.getD (s.i * R.n + g) 0)) (R.G.getD (s.i * R.n + g) 0), of (of (s.p * R.G.getD (s.i * R.n + g) 0) * of (1 - R.on)), true⟩ := by
  have h : ¬ g = R.n := by omega
  unfold mvo moveF onF
  simp only [if_neg h, if_neg hz, Bool.false_eq_true, ↓reduceIte]
theorem mvo_on (s : TS) (g : Nat) (hg : g < R.n) (hz : of (R.G.getD (s.i * R.n + g) 0) ≠ 0) : mvo R s g true = ⟨g, of (s.v + of (ovr (of (s.wt * R.T.getD (s.i * R.n + g) 0)) (R.G.getD (s.i * R.n + g) 0) * R.E.getD g 0 * (wts R.G R.A R.n s.i g).2)), ovr (ovr (of (s.wt * R.T.getD (s.i * R.n + g) 0)) (R.G.getD (s.i * R.n + g) 0)) R.on, of (of (s.p * R.G.getD (s.i * R.n + g) 0) * R.on), false⟩ := by
  have h : ¬ g = R.n := by omega
  unfold mvo moveF onF
  simp only [if_neg h, if_neg hz, Bool.false_eq_true, ↓reduceIte]
/-- one patch, both ways of going on -/
theorem pair_p (s : TS) (g : Nat) (hg : g < R.n) : Cg ((mvo R s g false).p + (mvo R s g true).p) (s.p * R.G.getD (s.i * R.n + g) 0) := by
  by_cases hz : of (R.G.getD (s.i * R.n + g) 0) = 0
  · rw [mvo_zero R s g false hg hz, mvo_zero R s g true hg hz]
    simp only
    generalize R.G.getD (s.i * R.n + g) 0 = G at *
    have h0 : Cg (s.p * G) 0 := ((Cg.refl _).mul (zero_of hz)).trans (Cg.eq (Int.mul_zero _))
    have h1 := (Cg.of' (s.p * G)).trans h0
    exact (h1.add h1).trans h0.symm
  · rw [mvo_off R s g hg hz, mvo_on R s g hg hz]
    simp only
    generalize R.G.getD (s.i * R.n + g) 0 = G at *
    have h1 : Cg (of (of (s.p * G) * of (1 - R.on))) (s.p * G * (1 - R.on)) := (Cg.of' _).trans ((Cg.of' _).mul (Cg.of' _))
    have h2 : Cg (of (of (s.p * G) * R.on)) (s.p * G * R.on) := (Cg.of' _).trans ((Cg.of' _).mul (Cg.refl _))
    exact (h1.add h2).trans (Cg.eq (by grind))
theorem pair_alg {p G on v wt T E b B c oc : Int} (h1 : Cg (G * c) (wt * T)) (h2 : Cg (on * oc) c) : Cg (of (of (p * G) * of (1 - on)) * (of (v + of (c * E * b)) + 0) + of (of (p * G) * on) * (of (v + of (c * E * b)) + oc * B)) (p * (G * v + wt * (T * (E * b + B)))) := by
  have a1 : Cg (of (of (p * G) * of (1 - on))) (p * G * (1 - on)) := (Cg.of' _).trans ((Cg.of' _).mul (Cg.of' _))
  have a2 : Cg (of (of (p * G) * on)) (p * G * on) := (Cg.of' _).trans ((Cg.of' _).mul (Cg.refl _))
  have v1 : Cg (of (v + of (c * E * b))) (v + c * E * b) := (Cg.of' _).trans ((Cg.refl _).add (Cg.of' _))
  refine ((a1.mul (v1.add (Cg.refl 0))).add (a2.mul (v1.add (Cg.refl (oc * B))))).trans ?_
  refine (Cg.eq (show _ = p * (G * v + (G * c) * (E * b)) + p * G * ((on * oc) * B) by grind)).trans ?_
  refine (((Cg.refl p).mul ((Cg.refl (G * v)).add (h1.mul (Cg.refl (E * b))))).add ((Cg.refl (p * G)).mul (h2.mul (Cg.refl B)))).trans ?_
  refine (Cg.eq (show _ = p * (G * v + (wt * T) * (E * b)) + p * ((G * c) * B) by grind)).trans ?_
  refine ((Cg.refl _).add ((Cg.refl p).mul (h1.mul (Cg.refl B)))).trans (Cg.eq (by grind))
theorem pair_v (B : Nat → Int) (s : TS) (g : Nat) (hg : g < R.n) (hT : of (R.G.getD (s.i * R.n + g) 0) = 0 → of (R.T.getD (s.i * R.n + g) 0) = 0) (hon : of R.on ≠ 0) : Cg (wrth B (mvo R s g false) + wrth B (mvo R s g true)) (s.p * (R.G.getD (s.i * R.n + g) 0 * s.v + s.wt * zz R B s.i g)) := by
  unfold zz
  by_cases hz : of (R.G.getD (s.i * R.n + g) 0) = 0
  · rw [mvo_zero R s g false hg hz, mvo_zero R s g true hg hz]
    unfold wrth
    simp only [↓reduceIte]
    have ht := zero_of (hT hz)
    generalize R.G.getD (s.i * R.n + g) 0 = G at *
    generalize R.T.getD (s.i * R.n + g) 0 = T at *
    generalize R.E.getD g 0 * (wts R.G R.A R.n s.i g).2 + B g = y
    have h0 : Cg (s.p * G) 0 := ((Cg.refl _).mul (zero_of hz)).trans (Cg.eq (Int.mul_zero _))
    have h1 : Cg (of (s.p * G) * (s.v + 0)) 0 := (((Cg.of' (s.p * G)).trans h0).mul (Cg.refl (s.v + 0))).trans (Cg.eq (Int.zero_mul _))
    refine (h1.add h1).trans (Cg.symm ?_)
    refine ((Cg.refl s.p).mul (((zero_of hz).mul (Cg.refl s.v)).add ((Cg.refl s.wt).mul (ht.mul (Cg.refl y))))).trans (Cg.eq (by grind))
  · rw [mvo_off R s g hg hz, mvo_on R s g hg hz]
    unfold wrth
    simp only [↓reduceIte, Bool.false_eq_true]
    exact pair_alg ((ovr_mul hz).trans (Cg.of' _)) (ovr_mul hon)
theorem row_sum (i : Nat) (hi : i < R.n) (hG : R.G.length = R.n * R.n) : Cg (Gv.rs (rowG R i) + sm R.n fun g => R.G.getD (i * R.n + g) 0) 1 := by
  have he := ix_end hi
  have hl : (rowG R i).length = R.n := by
    unfold rowG
    rw [List.length_drop, List.length_take, hG, Nat.min_eq_left he]
    omega
  have h1 := suml_sm (rowG R i)
  rw [hl, sm_congr (g := fun g => R.G.getD (i * R.n + g) 0) (fun k hk => by
    unfold rowG
    rw [List.getD_eq_getElem?_getD, List.getElem?_drop, List.getElem?_take, if_pos (by omega), ← List.getD_eq_getElem?_getD])] at h1
  unfold Gv.rs
  refine (((Cg.of' _).trans ((Cg.refl 1).sub h1)).add (Cg.refl _)).trans (Cg.eq (by omega))
theorem all_sum (A : List Int) (n : Nat) (hA : A.length = n) : Cg (Gv.rs A + sm n fun g => A.getD g 0) 1 := by
  have h1 := suml_sm A
  rw [hA] at h1
  unfold Gv.rs
  refine (((Cg.of' _).trans ((Cg.refl 1).sub h1)).add (Cg.refl _)).trans (Cg.eq (by omega))
theorem moves_p (s : TS) (hi : s.i < R.n) (hG : R.G.length = R.n * R.n) : Cg (sm (R.n + 1) fun g => (mvo R s g false).p + (mvo R s g true).p) s.p := by
  rw [sm, mvo_none_on, mvo_none_off]
  simp only
  refine ((Cg.sm (fun g hg => pair_p R s g hg)).add ((Cg.of' (s.p * Gv.rs (rowG R s.i))).add (Cg.refl 0))).trans ?_
  rw [sm_mul_left]
  refine (Cg.eq (show _ = s.p * (Gv.rs (rowG R s.i) + sm R.n fun g => R.G.getD (s.i * R.n + g) 0) by grind)).trans ?_
  exact ((Cg.refl s.p).mul (row_sum R s.i hi hG)).trans (Cg.eq (Int.mul_one _))
theorem moves_v (B : Nat → Int) (s : TS) (hi : s.i < R.n) (hG : R.G.length = R.n * R.n) (hT : ∀ g, g < R.n → of (R.G.getD (s.i * R.n + g) 0) = 0 → of (R.T.getD (s.i * R.n + g) 0) = 0) (hon : of R.on ≠ 0) :
    Cg (sm (R.n + 1) fun g => wrth B (mvo R s g false) + wrth B (mvo R s g true)) (s.p * (s.v + s.wt * sm R.n (zz R B s.i))) := by
  rw [sm, mvo_none_on, mvo_none_off]
  unfold wrth
  simp only [↓reduceIte]
  have h := Cg.sm (n := R.n) (fun g hg => pair_v R B s g hg (hT g hg) hon)
  unfold wrth at h
  refine (h.add (((Cg.of' (s.p * Gv.rs (rowG R s.i))).mul (Cg.refl (s.v + 0))).add (Cg.refl (0 * (s.v + 0))))).trans ?_
  have e : (sm R.n fun g => s.p * (R.G.getD (s.i * R.n + g) 0 * s.v + s.wt * zz R B s.i g)) = s.p * ((sm R.n fun g => R.G.getD (s.i * R.n + g) 0) * s.v + s.wt * sm R.n (zz R B s.i)) := by
    rw [sm_mul_left, sm_add, sm_mul_right, sm_mul_left]
  rw [e]
  refine (Cg.eq (show _ = s.p * ((Gv.rs (rowG R s.i) + sm R.n fun g => R.G.getD (s.i * R.n + g) 0) * s.v + s.wt * sm R.n (zz R B s.i)) by grind)).trans ?_
  exact ((Cg.refl s.p).mul (((row_sum R s.i hi hG).mul (Cg.refl s.v)).add (Cg.refl _))).trans (Cg.eq (by grind))
/-! asking -/
theorem ask_lt (s : TS) (l : Nat) (hl : l < R.n) : askF R s l = ⟨s.i, of (s.v + ovr (of (s.wt * R.T.getD (s.i * R.n + l) 0 * R.E.getD l 0 * (wts R.G R.A R.n s.i l).1)) (R.A.getD l 0)), s.wt, of (s.p * R.A.getD l 0), s.ov⟩ := if_neg (by omega)
theorem ask_no (s : TS) : askF R s R.n = ⟨s.i, s.v, s.wt, of (s.p * Gv.rs R.A), s.ov⟩ := if_pos rfl
theorem asks_p (s : TS) (hA : R.A.length = R.n) : Cg (sm (R.n + 1) fun l => (askF R s l).p) s.p := by
  rw [sm, ask_no]
  simp only
  rw [sm_congr (g := fun l => of (s.p * R.A.getD l 0)) (fun l hl => by rw [ask_lt R s l hl])]
  refine ((Cg.sm (g := fun l => s.p * R.A.getD l 0) (fun l _ => Cg.of' _)).add (Cg.of' _)).trans ?_
  rw [sm_mul_left]
  refine (Cg.eq (show _ = s.p * (Gv.rs R.A + sm R.n fun g => R.A.getD g 0) by grind)).trans ?_
  exact ((Cg.refl s.p).mul (all_sum R.A R.n hA)).trans (Cg.eq (Int.mul_one _))
theorem ask_one' (s : TS) (l : Nat) (hl : l < R.n) (Z : Int) : Cg ((askF R s l).p * ((askF R s l).v + s.wt * Z)) (s.p * (R.A.getD l 0 * (s.v + s.wt * Z) + s.wt * (R.T.getD (s.i * R.n + l) 0 * R.E.getD l 0 * (wts R.G R.A R.n s.i l).1))) := by
  rw [ask_lt R s l hl]
  simp only
  by_cases hz : of (R.A.getD l 0) = 0
  · have hw : (wts R.G R.A R.n s.i l).1 = 0 := by unfold wts; rw [if_pos (.inl hz)]
    rw [hw]
    generalize R.A.getD l 0 = a at *
    generalize R.T.getD (s.i * R.n + l) 0 * R.E.getD l 0 = y
    have h0 : Cg (of (s.p * a)) 0 := (Cg.of' _).trans (((Cg.refl _).mul (zero_of hz)).trans (Cg.eq (Int.mul_zero _)))
    refine (h0.mul (Cg.refl _)).trans ((Cg.eq (Int.zero_mul _)).trans (Cg.symm ?_))
    exact ((Cg.refl s.p).mul (((zero_of hz).mul (Cg.refl _)).add (Cg.refl _))).trans (Cg.eq (by grind))
  · have h1 := ovr_mul (x := of (s.wt * R.T.getD (s.i * R.n + l) 0 * R.E.getD l 0 * (wts R.G R.A R.n s.i l).1)) hz
    generalize R.A.getD l 0 = a at *
    generalize (wts R.G R.A R.n s.i l).1 = w at *
    generalize R.T.getD (s.i * R.n + l) 0 = T at *
    generalize R.E.getD l 0 = E at *
    generalize ovr (of (s.wt * T * E * w)) a = q at *
    have h2 := h1.trans (Cg.of' (s.wt * T * E * w))
    refine ((Cg.of' (s.p * a)).mul ((Cg.of' (s.v + q)).add (Cg.refl (s.wt * Z)))).trans ?_
    refine (Cg.eq (show _ = s.p * (a * (s.v + s.wt * Z) + a * q) by grind)).trans ?_
    exact ((Cg.refl s.p).mul ((Cg.refl _).add h2)).trans (Cg.eq (by grind))
theorem asks_v (s : TS) (hA : R.A.length = R.n) (Z : Int) : Cg (sm (R.n + 1) fun l => (askF R s l).p * ((askF R s l).v + s.wt * Z)) (s.p * (s.v + s.wt * ((sm R.n fun l => R.T.getD (s.i * R.n + l) 0 * R.E.getD l 0 * (wts R.G R.A R.n s.i l).1) + Z))) := by
  rw [sm, ask_no]
  simp only
  refine ((Cg.sm (fun l hl => ask_one' R s l hl Z)).add ((Cg.of' (s.p * Gv.rs R.A)).mul (Cg.refl (s.v + s.wt * Z)))).trans ?_
  have e : (sm R.n fun l => s.p * (R.A.getD l 0 * (s.v + s.wt * Z) + s.wt * (R.T.getD (s.i * R.n + l) 0 * R.E.getD l 0 * (wts R.G R.A R.n s.i l).1))) = s.p * ((sm R.n fun l => R.A.getD l 0) * (s.v + s.wt * Z) + s.wt * sm R.n fun l => R.T.getD (s.i * R.n + l) 0 * R.E.getD l 0 * (wts R.G R.A R.n s.i l).1) := by
    rw [sm_mul_left, sm_add, sm_mul_right, sm_mul_left]
  rw [e]
  refine (Cg.eq (show _ = s.p * ((Gv.rs R.A + sm R.n fun g => R.A.getD g 0) * (s.v + s.wt * Z) + s.wt * sm R.n fun l => R.T.getD (s.i * R.n + l) 0 * R.E.getD l 0 * (wts R.G R.A R.n s.i l).1) by grind)).trans ?_
  exact ((Cg.refl s.p).mul (((all_sum R.A R.n hA).mul (Cg.refl _)).add (Cg.refl _))).trans (Cg.eq (by grind))
end
end Go.Proofs.Ytgkgnihjjabapaa.Pq
