import Derived.Test.YtpjfelbamcgnhaaOf
import Derived.Test.YtpjfelbamcgnhaaPd
import Derived.Test.YtpjfelbamcgnhaaNe
import Derived.Test.YtpjfelbamcgnhaaXxL34awake
/- What a line of equations, solved by elimination, tells: plain. -/
namespace Go.Proofs.Ytpjfelbamcgnhaa.De
open Go.RowKit Go.Proofs.Ytpjfelbamcgnhaa.X Go.Proofs.YtpjfelbamcgnhaaW.PrintWords Pl Pa Pb Pc Pd Gv
set_option linter.unusedVariables false
theorem S_sm (n : Nat) (f : Nat → Int) : S n f = sm n f := by
  induction n with
  | zero => rfl
  | succ n ih => rw [S, sm, ih]
theorem tabTo_tab (F : Nat → Int) (m : Nat) : tabTo F m = tab F m := rfl
theorem hinv (p : Int) (h0 : 0 < p) (h1 : p < 2147483647) : Cq (p * invP p) 1 := by
  have h := invP_mul p (by rw [of_id (by omega) h1]; omega)
  have h2 := (Cq.o (invP p * p)).symm
  rw [h] at h2
  rw [Int.mul_comm]
  exact h2
theorem of_cq {a b : Int} (h : Pl.of a = Pl.of b) : Cq a b := by
  have h2 := Cq.o b
  rw [← h] at h2
  exact (Cq.o a).symm.trans h2
theorem cl0 (n : Nat) (M : Nat → Nat → Int) : Cl n 0 M := fun j hj => absurd hj (Nat.not_lt_zero _)
theorem ini_det (n : Nat) (a b : List Int) : Cq (det n (ini n a b)) (det n (fun i k => a.getD (i * n + k) 0)) := det_cq fun i j _ hj => by
  unfold ini
  rw [if_pos hj]
  exact Cq.o _
theorem ini_none {n : Nat} {a b : List Int} (h : elim invP n n 0 (ini n a b) 1 = none) (h5 : n ≤ 5) : Pl.of (det n (fun i k => a.getD (i * n + k) 0)) = 0 := by
  have h1 := (elim_law invP hinv n n 0 (ini n a b) 1 (by omega) (cl0 n _) (in_ini n a b) (by omega)).1 h h5
  exact Cq.zero ((Cq.o _).trans ((ini_det n a b).symm.trans h1)) ⟨of_nonneg _, of_lt _⟩
theorem ini_done {n : Nat} {a b : List Int} {F : Nat → Nat → Int} {e : Int} (h : elim invP n n 0 (ini n a b) 1 = some (F, e)) : Done n (ini n a b) F 1 e :=
  (elim_law invP hinv n n 0 (ini n a b) 1 (by omega) (cl0 n _) (in_ini n a b) (by omega)).2 F e h
theorem ini_some {n : Nat} {a b : List Int} {F : Nat → Nat → Int} {e : Int} (h : elim invP n n 0 (ini n a b) 1 = some (F, e)) (h5 : n ≤ 5) : e = Pl.of (det n (fun i k => a.getD (i * n + k) 0)) ∧ e ≠ 0 := by
  have d := ini_done h
  constructor
  · have h1 := d.det h5
    rw [Int.one_mul] at h1
    exact Cq.eq (h1.symm.trans ((ini_det n a b).trans (Cq.o _).symm)) d.rng ⟨of_nonneg _, of_lt _⟩
  · intro he
    refine d.ne ?_ ?_
    · rintro ⟨k, hk⟩
      omega
    · rw [he]
      exact Cq.refl 0
/-- the list that is told -/
def xs (n : Nat) (F : Nat → Nat → Int) : List Int := tab (fun i => F i n) n
theorem xs_length (n : Nat) (F : Nat → Nat → Int) : (xs n F).length = n := tab_length _ _
theorem xs_at {n i : Nat} (F : Nat → Nat → Int) (h : i < n) : (xs n F).getD i 0 = F i n := tab_at _ _ _ h
theorem rsd_sm (n : Nat) (a b : List Int) (y : Nat → Int) (r : Nat) : Cq (rsd n (ini n a b) y r) ((sm n fun k => el a n r k * y k) - b.getD r 0) := by
  unfold rsd
  rw [← S_sm]
  refine Cq.sub (S_cq fun j hj => Cq.mul ?_ (Cq.refl _)) ?_
  · unfold ini
    rw [if_pos hj]
    exact Cq.o _
  · unfold ini
    rw [if_neg (Nat.lt_irrefl n)]
    exact Cq.o _
theorem rt_sm (n : Nat) (a b : List Int) (y : Nat → Int) : Rt n (ini n a b) y ↔ ∀ r, r < n → Pl.of (sm n fun k => el a n r k * y k) = Pl.of (b.getD r 0) := by
  constructor
  · intro h r hr
    have h1 := (rsd_sm n a b y r).symm.trans (h r hr)
    obtain ⟨k, hk⟩ := h1
    exact Cq.of_eq ⟨k, by omega⟩
  · intro h r hr
    refine (rsd_sm n a b y r).trans ?_
    obtain ⟨k, hk⟩ := of_cq (h r hr)
    exact ⟨k, by omega⟩
theorem told_sm {n : Nat} {a b : List Int} {F : Nat → Nat → Int} {e : Int} (h : elim invP n n 0 (ini n a b) 1 = some (F, e)) (r : Nat) (hr : r < n) : Pl.of (sm n fun k => el a n r k * (xs n F).getD k 0) = Pl.of (b.getD r 0) := by
  have h1 := (done_rt (ini_done h) (fun j => (xs n F).getD j 0)).2 (fun i hi => Cq.of (xs_at F hi))
  exact (rt_sm n a b _).1 h1 r hr
theorem told_mv {n : Nat} {a b : List Int} {F : Nat → Nat → Int} {e : Int} (hb : b.length = n) (h : elim invP n n 0 (ini n a b) 1 = some (F, e)) : mv n a (xs n F) = b.map Pl.of := by
  symm
  unfold mv
  refine list_tab (by rw [List.length_map, hb]) fun i hi => ?_
  rw [map_at, told_sm h i hi]
theorem told_one {n : Nat} {a b y : List Int} {F : Nat → Nat → Int} {e : Int} (hy : y.length = n) (h : elim invP n n 0 (ini n a b) 1 = some (F, e)) (hm : ∀ r, r < n → Pl.of (sm n fun k => el a n r k * y.getD k 0) = Pl.of (b.getD r 0)) : y.map Pl.of = xs n F := by
  have d := ini_done h
  have h1 := (done_rt d (fun j => y.getD j 0)).1 ((rt_sm n a b _).2 hm)
  unfold xs
  refine list_tab (by rw [List.length_map, hy]) fun i hi => ?_
  rw [map_at]
  exact Cq.eq ((Cq.o _).trans (h1 i hi)) ⟨of_nonneg _, of_lt _⟩ (d.inn i n hi (Nat.le_refl n))
theorem xs_clean {n : Nat} {a b : List Int} {F : Nat → Nat → Int} {e : Int} (h : elim invP n n 0 (ini n a b) 1 = some (F, e)) : (xs n F).map Pl.of = xs n F := told_one (xs_length n F) h (told_sm h)
/-- by determinants -/
theorem told_cramer {n : Nat} {a b : List Int} {F : Nat → Nat → Int} {e : Int} (h1 : 1 ≤ n) (h4 : n ≤ 4) (h : elim invP n n 0 (ini n a b) 1 = some (F, e)) (c : Nat) (hc : c < n) :
    Pl.of (Pl.of (det n (prt (fun i k => a.getD (i * n + k) 0) (fun r => b.getD r 0) c)) * invP e) = F c n := by
  have d := ini_done h
  obtain ⟨he, he0⟩ := ini_some h (by omega)
  have hx : ∀ r, r < n → Cq (b.getD r 0) (S n (fun j => a.getD (r * n + j) 0 * F j n)) := by
    intro r hr
    have h2 := (rt_sm n a b (fun j => F j n)).1 ((done_rt d (fun j => F j n)).2 (fun i _ => Cq.refl _)) r hr
    rw [S_sm]
    exact of_cq h2.symm
  have h3 : Cq (det n (prt (fun i k => a.getD (i * n + k) 0) (fun r => b.getD r 0) c)) (F c n * det n (fun i k => a.getD (i * n + k) 0)) := by
    rw [← cramer n c (fun i k => a.getD (i * n + k) 0) (fun j => F j n) h1 h4 hc]
    refine det_cq fun i j hi hj => ?_
    unfold prt
    split
    · exact hx i hi
    · exact Cq.refl _
  have h5 : Cq (det n (fun i k => a.getD (i * n + k) 0)) e := by rw [he]; exact (Cq.o _).symm
  have h6 := hinv e (by have := d.rng; omega) d.rng.2
  refine Cq.eq ((Cq.o _).trans ?_) ⟨of_nonneg _, of_lt _⟩ (d.inn c n hc (Nat.le_refl n))
  have h7 := Cq.mul ((Cq.o _).trans (h3.trans (Cq.mul (Cq.refl _) h5))) (Cq.refl (invP e))
  rw [Int.mul_assoc] at h7
  refine h7.trans ((Cq.mul (Cq.refl _) h6).trans ?_)
  rw [Int.mul_one]
  exact Cq.refl _
/-- one less T -/
def less (n : Nat) (t : List Int) : List Int := tab (fun q => Pl.of ((if q / n = q % n then 1 else 0) - t.getD q 0)) (n * n)
theorem less_length (n : Nat) (t : List Int) : (less n t).length = n * n := tab_length _ _
theorem less_el (n : Nat) (t : List Int) {i j : Nat} (hi : i < n) (hj : j < n) : el (less n t) n i j = Pl.of ((if i = j then 1 else 0) - el t n i j) := by
  unfold el less
  rw [tab_at _ _ _ (sq_lt hi hj), sq_div hj, sq_mod hj]
theorem less_sm (n : Nat) (t : List Int) (y : Nat → Int) {r : Nat} (hr : r < n) : Cq (sm n fun k => el (less n t) n r k * y k) (y r - sm n fun k => el t n r k * y k) := by
  have h1 : Cq (sm n fun k => el (less n t) n r k * y k) (sm n fun k => (if r = k then y k else 0) + (-1) * (el t n r k * y k)) := by
    rw [← S_sm, ← S_sm]
    refine S_cq fun j hj => ?_
    rw [less_el n t hr hj]
    refine (Cq.mul (Cq.o _) (Cq.refl _)).trans (Cq.of ?_)
    split
    · grind
    · grind
  refine h1.trans (Cq.of ?_)
  rw [sm_add n (fun k => if r = k then y k else 0) (fun k => (-1) * (el t n r k * y k)), sm_mul_left, sm_one n r hr (fun k => if r = k then y k else 0) (fun k _ hk => if_neg (fun e => hk e.symm)), if_pos rfl]
  omega
/-- what no throw changes -/
theorem less_nx {n : Nat} {e t y : List Int} (hy : y.length = n) : (∀ r, r < n → Pl.of (sm n fun k => el (less n t) n r k * y.getD k 0) = Pl.of (e.getD r 0)) ↔ nx n e t y = y.map Pl.of := by
  have key : nx n e t y = y.map Pl.of ↔ ∀ r, r < n → Pl.of (e.getD r 0 + sm n fun k => el t n r k * y.getD k 0) = Pl.of (y.getD r 0) := by
    constructor
    · intro h r hr
      have h1 : (nx n e t y).getD r 0 = (y.map Pl.of).getD r 0 := by rw [h]
      unfold nx at h1
      rw [tab_at _ _ _ hr, map_at] at h1
      exact h1
    · intro h
      symm
      unfold nx
      refine list_tab (by rw [List.length_map, hy]) fun i hi => ?_
      rw [map_at, h i hi]
  rw [key]
  constructor
  · intro h r hr
    obtain ⟨a, ha⟩ := of_cq (h r hr)
    obtain ⟨b, hb⟩ := less_sm n t (fun k => y.getD k 0) hr
    exact Cq.of_eq ⟨b - a, by omega⟩
  · intro h r hr
    obtain ⟨a, ha⟩ := of_cq (h r hr)
    obtain ⟨b, hb⟩ := less_sm n t (fun k => y.getD k 0) hr
    exact Cq.of_eq ⟨b - a, by omega⟩
/-- the light that no throw changes -/
def fixF (e t : List Int) : List Int × Int := if right e t then lineF (less e.length t) e else ([], 14)
theorem fix_right {e t : List Int} (h : right e t) : fixF e t = match elim invP e.length e.length 0 (ini e.length (less e.length t) e) 1 with
  | none => ([], 13)
  | some (F, _) => (xs e.length F, 0) := by
  have h1 := h.1
  have hs : sideOf (less e.length t).length = e.length := side_of h.1 (by have := h.2.1; omega) (less_length _ _)
  unfold fixF lineF
  rw [if_pos h, hs, if_neg (by omega)]
  rfl
theorem fix_next {e t x : List Int} (h : right e t) (hx : fixF e t = (x, 0)) : x.length = e.length ∧ x.map Pl.of = x ∧ nx e.length e t x = x ∧ ∀ y : List Int, y.length = e.length → nx e.length e t y = y.map Pl.of → y.map Pl.of = x := by
  rw [fix_right h] at hx
  obtain ⟨o, ho⟩ : ∃ o, elim invP e.length e.length 0 (ini e.length (less e.length t) e) 1 = o := ⟨_, rfl⟩
  rw [ho] at hx
  cases o with
  | none => injection hx with _ h2; exact absurd h2 (by decide)
  | some Fe =>
    obtain ⟨F, d⟩ := Fe
    injection hx with h1 _
    subst h1
    have hc := xs_clean ho
    refine ⟨xs_length _ _, hc, ?_, fun y hy hn => told_one hy ho ((less_nx hy).2 hn)⟩
    have h3 := (less_nx (e := e) (t := t) (xs_length e.length F)).1 (told_sm ho)
    rw [hc] at h3
    exact h3
theorem fix_code {e t : List Int} (h : right e t) (h5 : e.length ≤ 5) : (fixF e t = ([], 13) ∧ Pl.of (det e.length (fun i k => (less e.length t).getD (i * e.length + k) 0)) = 0) ∨ (∃ x, fixF e t = (x, 0) ∧ Pl.of (det e.length (fun i k => (less e.length t).getD (i * e.length + k) 0)) ≠ 0) := by
  rw [fix_right h]
  obtain ⟨o, ho⟩ : ∃ o, elim invP e.length e.length 0 (ini e.length (less e.length t) e) 1 = o := ⟨_, rfl⟩
  rw [ho]
  cases o with
  | none => exact Or.inl ⟨rfl, ini_none ho h5⟩
  | some Fe =>
    obtain ⟨F, d⟩ := Fe
    obtain ⟨h1, h2⟩ := ini_some ho h5
    exact Or.inr ⟨_, rfl, by rw [← h1]; exact h2⟩
/-- the light is a sum of any depth, and what is left -/
theorem fix_rest {e t x : List Int} (hx : x.length = e.length) (hc : x.map Pl.of = x) (hn : nx e.length e t x = x) : ∀ d, plus e.length (rs e t d) (itv e.length t (d + 1) x) = x := by
  intro d
  induction d with
  | zero =>
    refine Eq.trans ?_ hn
    unfold plus nx
    refine tab_congr fun i hi => ?_
    rw [rs, map_at, itv, itv, mv_el _ _ _ hi, of_add]
  | succ d ih =>
    have e1 : nx e.length e t x = plus e.length (rs e t (d + 1)) (itv e.length t (d + 1 + 1) x) := by
      rw [itv_succ, rs]
      unfold plus
      generalize hu : itv e.length t (d + 1) x = u at *
      unfold nx
      refine tab_congr fun i hi => ?_
      rw [tab_at _ _ _ hi, mv_el _ _ _ hi, of_add]
      have e2 : Pl.of (sm e.length fun k => el t e.length i k * x.getD k 0) = Pl.of ((sm e.length fun k => el t e.length i k * (rs e t d).getD k 0) + sm e.length fun k => el t e.length i k * u.getD k 0) := by
        rw [← sm_add]
        refine of_sm_congr fun k hk => ?_
        rw [← ih]
        unfold plus
        rw [tab_at _ _ _ hk, of_mul_right, Int.mul_add]
      rw [← of_add_right, e2, of_add_right, Int.add_assoc]
    rw [← e1, hn]
end Go.Proofs.Ytpjfelbamcgnhaa.De

/- What the printed functions of layer 34 tell: plain. -/
namespace Go.Proofs.Ytpjfelbamcgnhaa.De
open Go.RowKit Go.Proofs.Ytpjfelbamcgnhaa.X Go.Proofs.YtpjfelbamcgnhaaW.PrintWords Pl Pa Pb Pc Pd Gv
set_option linter.unusedVariables false
theorem tl_det (a : List Int) (n : Nat) : det n (Tl a n) = det n (fun i k => a.getD (i * n + k) 0) := rfl
def pF (a b : List Int) (n c q : Nat) : Int := if q % n = c then b.getD (q / n) 0 else a.getD q 0
def prtL (a b : List Int) (n c : Nat) : List Int := tab (pF a b n c) (n * n)
theorem prtL_length (a b : List Int) (n c : Nat) : (prtL a b n c).length = n * n := tab_length _ _
theorem prtL_det (a b : List Int) (n c : Nat) : det n (Tl (prtL a b n c) n) = det n (prt (fun i k => a.getD (i * n + k) 0) (fun r => b.getD r 0) c) :=
  det_congr n _ _ fun i j hi hj => by
    unfold Tl prtL prt
    rw [tab_at _ _ _ (sq_lt hi hj)]
    unfold pF
    rw [sq_div hj, sq_mod hj]
theorem Part_loop {n c : Nat} {a b : List Int} (h2 : n < 13) (ha : a.length = n * n) (hb : b.length = n) : ∀ (d q : Nat), q + d = n * n →
    Ev (fun k => penumbraref34_Part.l0 k a b (n : Int) (c : Int) (tab (pF a b n c) q) (q : Int)) (prtL a b n c) := by
  have hnn : n * n ≤ 12 * 12 := Nat.mul_le_mul (by omega) (by omega)
  have w0 : wrap64 ((n : Int) * (n : Int)) = ((n * n : Nat) : Int) := by
      rw [show ((n : Int) * (n : Int)) = ((n * n : Nat) : Int) from by simp]; exact wrap_id (by omega) (by omega)
  intro d
  induction d with
  | zero =>
    intro q hq
    refine Ev.step (fun k => by rw [penumbraref34_Part.l0]) ?_
    rw [show q = n * n from by omega, w0]
    exact ev_neg (by omega) (Ev.now _)
  | succ d ih =>
    intro q hq
    obtain ⟨s1, s2, s3⟩ := sq_split (show q < n * n from by omega)
    have w1 : wrap64 (Int.tdiv (q : Int) (n : Int)) = ((q / n : Nat) : Int) := by
      rw [Int.tdiv_eq_ediv_of_nonneg (by omega), show ((q : Int) / (n : Int)) = ((q / n : Nat) : Int) from rfl]
      exact natW (by omega)
    have w2 : Int.tmod (q : Int) (n : Int) = ((q % n : Nat) : Int) := by rw [Int.tmod_eq_emod_of_nonneg (by omega)]; rfl
    have e := tab_succ (pF a b n c) q
    have hih := ih (q + 1) (by omega)
    refine Ev.step (fun k => by rw [penumbraref34_Part.l0]) ?_
    rw [w0, w1, w2]
    refine ev_pos (by omega) ?_
    refine ev_neg (by omega) ?_
    by_cases hc : q % n = c
    · have f : pF a b n c q = b.getD (q / n) 0 := by unfold pF; rw [if_pos hc]
      refine ev_pos (by rw [hc]) ?_
      refine ev_pos (Int.natCast_nonneg _) ?_
      refine ev_pos (by rw [hb]; exact_mod_cast s1) ?_
      refine ev_pos (by rw [tab_length]; omega) ?_
      rw [rd_eq, sucW q (by omega), ← f, ← e]
      exact hih
    · have f : pF a b n c q = a.getD q 0 := by unfold pF; rw [if_neg hc]
      refine ev_neg (by omega) ?_
      refine ev_pos (Int.natCast_nonneg _) ?_
      refine ev_pos (by rw [ha]; omega) ?_
      refine ev_pos (by rw [tab_length]; omega) ?_
      rw [rd_eq, sucW q (by omega), ← f, ← e]
      exact hih
theorem Part_ev {n c : Nat} {a b : List Int} (h2 : n < 13) (ha : a.length = n * n) (hb : b.length = n) : Ev (fun k => penumbraref34_Part.f k a b (n : Int) (c : Int)) (prtL a b n c) := Part_loop h2 ha hb (n * n) 0 (by omega)
def crF (a b : List Int) (n : Nat) (c : Nat) : Int := Pl.of (Pl.of (det n (Tl (prtL a b n c) n)) * invP (Pl.of (det n (Tl a n))))
theorem RLine_loop {n : Nat} {a b : List Int} (h1 : 1 ≤ n) (h2 : n < 13) (ha : a.length = n * n) (hb : b.length = n) (hd : Pl.of (det n (Tl a n)) ≠ 0) : ∀ (d c : Nat), c + d = n →
    Ev (fun k => penumbraref34_Line.l0 k a b (n : Int) (Pl.of (det n (Tl a n))) (tab (crF a b n) c) (c : Int)) (tab (crF a b n) n, true) := by
  intro d
  induction d with
  | zero =>
    intro c hc
    refine Ev.step (fun k => by rw [penumbraref34_Line.l0]) ?_
    rw [show c = n from by omega]
    exact ev_neg (by omega) (Ev.now _)
  | succ d ih =>
    intro c hc
    have e := tab_succ (crF a b n) c
    have hih := ih (c + 1) (by omega)
    refine Ev.step (fun k => by rw [penumbraref34_Line.l0]) ?_
    refine ev_pos (by omega) ?_
    refine Ev.bind (Part_ev (c := c) h2 ha hb) ?_
    refine Ev.bind (rdet_ev n (prtL a b n c) h1 (by omega) (prtL_length a b n c)) ?_
    refine Ev.bind (RInv_ev _ (by rw [of_of]; exact hd)) ?_
    rw [RMul_eq]
    refine ev_some ?_
    refine ev_pos (by rw [tab_length]; omega) ?_
    rw [sucW c (by omega)]
    rw [show tab (crF a b n) c ++ [Pl.of (Pl.of (det n (Tl (prtL a b n c) n)) * invP (Pl.of (det n (Tl a n))))] = tab (crF a b n) (c + 1) from e.symm]
    exact hih
theorem RLine_yes {n : Nat} {a b : List Int} (h1 : 1 ≤ n) (h2 : n < 13) (ha : a.length = n * n) (hb : b.length = n) (hd : Pl.of (det n (Tl a n)) ≠ 0) : Ev (fun k => penumbraref34_Line.f k a b (n : Int)) (tab (crF a b n) n, true) := by
  unfold penumbraref34_Line.f
  refine Ev.bind (rdet_ev n a h1 (by omega) ha) ?_
  exact ev_neg hd (RLine_loop h1 h2 ha hb hd n 0 (by omega))
theorem RLine_no {n : Nat} {a b : List Int} (h1 : 1 ≤ n) (h2 : n < 13) (ha : a.length = n * n) (hd : Pl.of (det n (Tl a n)) = 0) : Ev (fun k => penumbraref34_Line.f k a b (n : Int)) ([], false) := by
  unfold penumbraref34_Line.f
  refine Ev.bind (rdet_ev n a h1 (by omega) ha) ?_
  exact ev_pos hd (Ev.now _)
/-- the line by elimination is that by determinants -/
theorem told_line {n : Nat} {a b : List Int} {F : Nat → Nat → Int} {e : Int} (h1 : 1 ≤ n) (h4 : n ≤ 4) (h : elim invP n n 0 (ini n a b) 1 = some (F, e)) : xs n F = tab (crF a b n) n := by
  unfold xs
  refine tab_congr fun c hc => ?_
  unfold crF
  rw [prtL_det, tl_det, ← (ini_some h (by omega)).1]
  exact (told_cramer h1 h4 h c hc).symm
def lF (n : Nat) (t : List Int) (q : Nat) : Int := Pl.of ((if q / n = q % n then 1 else 0) - t.getD q 0)
theorem Less_loop {n : Nat} {e t : List Int} (h2 : n < 13) (ht : t.length = n * n) : ∀ (d q : Nat), q + d = n * n →
    Ev (fun k => penumbraref34_Less.l0 k (n : Int) (tab (lF n t) q) (q : Int) e t) (less n t) := by
  have hnn : n * n ≤ 12 * 12 := Nat.mul_le_mul (by omega) (by omega)
  have w0 : wrap64 ((n : Int) * (n : Int)) = ((n * n : Nat) : Int) := by
      rw [show ((n : Int) * (n : Int)) = ((n * n : Nat) : Int) from by simp]; exact wrap_id (by omega) (by omega)
  intro d
  induction d with
  | zero =>
    intro q hq
    refine Ev.step (fun k => by rw [penumbraref34_Less.l0]) ?_
    rw [show q = n * n from by omega, w0]
    exact ev_neg (by omega) (Ev.now _)
  | succ d ih =>
    intro q hq
    obtain ⟨s1, s2, s3⟩ := sq_split (show q < n * n from by omega)
    have w1 : wrap64 (Int.tdiv (q : Int) (n : Int)) = ((q / n : Nat) : Int) := by
      rw [Int.tdiv_eq_ediv_of_nonneg (by omega), show ((q : Int) / (n : Int)) = ((q / n : Nat) : Int) from rfl]
      exact natW (by omega)
    have w2 : Int.tmod (q : Int) (n : Int) = ((q % n : Nat) : Int) := by rw [Int.tmod_eq_emod_of_nonneg (by omega)]; rfl
    have e1 := tab_succ (lF n t) q
    have hih := ih (q + 1) (by omega)
    refine Ev.step (fun k => by rw [penumbraref34_Less.l0]) ?_
    rw [w0, w1, w2]
    refine ev_pos (by omega) ?_
    refine ev_neg (by omega) ?_
    by_cases hc : q / n = q % n
    · have f : lF n t q = Pl.of (1 - t.getD q 0) := by unfold lF; rw [if_pos hc]
      refine ev_pos (by rw [hc]) ?_
      refine ev_pos (Int.natCast_nonneg _) ?_
      refine ev_pos (by rw [ht]; omega) ?_
      rw [RSub_eq, rd_eq]
      refine ev_some ?_
      refine ev_pos (by rw [tab_length]; omega) ?_
      rw [sucW q (by omega), ← f, ← e1]
      exact hih
    · have f : lF n t q = Pl.of (0 - t.getD q 0) := by unfold lF; rw [if_neg hc]
      refine ev_neg (by omega) ?_
      refine ev_pos (Int.natCast_nonneg _) ?_
      refine ev_pos (by rw [ht]; omega) ?_
      rw [RSub_eq, rd_eq]
      refine ev_some ?_
      refine ev_pos (by rw [tab_length]; omega) ?_
      rw [sucW q (by omega), ← f, ← e1]
      exact hih
theorem Less_ev {e t : List Int} (h : right e t) : Ev (fun k => penumbraref34_Less.f k e t) (less e.length t) := by
  have h2 := h.2.1
  exact Less_loop (by omega) h.2.2 (e.length * e.length) 0 (by omega)
theorem det_told {n : Nat} {a : List Int} (hn : sideOf a.length = n) (h1 : 1 ≤ n) (h5 : n ≤ 5) : detF a = (Pl.of (det n (fun i k => a.getD (i * n + k) 0)), 0) := by
  unfold detF
  rw [hn, if_neg (by omega)]
  obtain ⟨o, ho⟩ : ∃ o, elim invP n n 0 (ini n a (List.replicate n 0)) 1 = o := ⟨_, rfl⟩
  rw [ho]
  cases o with
  | none => rw [ini_none ho h5]
  | some Fe =>
    obtain ⟨F, e⟩ := Fe
    rw [← (ini_some ho h5).1]
theorem det_code {a : List Int} (hn : 1 ≤ sideOf a.length) : (detF a).2 = 0 := by
  unfold detF
  rw [if_neg (by omega)]
  split <;> rfl
theorem detF_none {a : List Int} (hn : sideOf a.length = 0) : detF a = (0, 14) := by
  unfold detF
  rw [if_pos hn]
theorem Fixed_ev (e t : List Int) : Ev (fun k => solve_Fixed.f k e t) (fixF e t) := by
  unfold solve_Fixed.f fixF
  by_cases h : right e t
  · have h2 := h.2.1
    rw [if_pos h, Check_yes h]
    refine ev_some ?_
    refine ev_pos rfl ?_
    refine Ev.bind (One_ev h.1 (by omega)) ?_
    rw [Sub_yes (n := e.length) (by have := h.1; omega) (side_of h.1 (by omega) (unit_length _)) (right_side h)]
    refine ev_some ?_
    have e1 : tab (fun q => Pl.of ((unit e.length).getD q 0 - t.getD q 0)) (e.length * e.length) = less e.length t := by
      unfold less
      refine tab_congr fun q hq => ?_
      unfold unit
      rw [tab_at _ _ _ hq]
    dsimp only
    rw [e1]
    unfold solve_Line.f
    refine ev_some ?_
    exact Ev.now _
  · rw [if_neg h, Check_no h]
    refine ev_some ?_
    exact ev_neg (by decide) (Ev.now _)
theorem Rest_loop {e t : List Int} (h : right e t) {m : Nat} (hm : m ≤ 100000) : ∀ (d i : Nat) (l : List Int), i + d = m → l.length = e.length → Ev (fun k => solve_Rest.l0 k l (m : Int) (i : Int) e t) (itv e.length t d l, 0) := by
  intro d
  induction d with
  | zero =>
    intro i l hi hl
    refine Ev.step (fun k => by rw [solve_Rest.l0]) ?_
    exact ev_neg (by omega) (Ev.now _)
  | succ d ih =>
    intro i l hi hl
    refine Ev.step (fun k => by rw [solve_Rest.l0]) ?_
    refine ev_pos (by omega) ?_
    refine Ev.bind (Thrown_yes h hl) ?_
    rw [sucW i (by omega)]
    exact ih (i + 1) _ (by omega) (mv_length _ _ _)
theorem Rest_yes {e t x : List Int} (h : right e t) (hx : fixF e t = (x, 0)) (hl : x.length = e.length) {m : Nat} (hm : m ≤ 1024) : Ev (fun k => solve_Rest.f k e t (m : Int)) (itv e.length t (m + 1) x, 0) := by
  unfold solve_Rest.f
  refine Ev.bind (Fixed_ev e t) ?_
  rw [hx]
  refine ev_pos rfl ?_
  rw [Sum_yes h hm]
  refine ev_some ?_
  refine ev_pos rfl ?_
  rw [sucW m (by omega)]
  exact Rest_loop h (by omega) (m + 1) 0 x (by omega) hl
theorem Rest_range {e t x : List Int} (h : right e t) (hx : fixF e t = (x, 0)) {m : Int} (hm : m < 0 ∨ 1024 < m) : Ev (fun k => solve_Rest.f k e t m) ([], 3) := by
  unfold solve_Rest.f
  refine Ev.bind (Fixed_ev e t) ?_
  rw [hx]
  refine ev_pos rfl ?_
  rw [Sum_range h (by unfold deep; omega)]
  refine ev_some ?_
  exact ev_neg (by decide) (Ev.now _)
theorem Rest_no {e t x : List Int} {c : Int} (hx : fixF e t = (x, c)) (hc : c ≠ 0) (m : Int) : Ev (fun k => solve_Rest.f k e t m) ([], c) := by
  unfold solve_Rest.f
  refine Ev.bind (Fixed_ev e t) ?_
  rw [hx]
  exact ev_neg hc (Ev.now _)
theorem fix_one : fixF [1] [2] = ([2147483646], 0) := by
  have hr : right [1] [2] := by decide
  rcases fix_code hr (by decide) with ⟨_, h⟩ | ⟨x, hx, _⟩
  · exact absurd h (by decide)
  · obtain ⟨h1, h2, h3, h4⟩ := fix_next hr hx
    have h5 := h4 [2147483646] rfl (by decide)
    rw [hx, ← h5]
    rfl
theorem fix_zero : fixF [1] [1] = ([], 13) := by
  have hr : right [1] [1] := by decide
  rcases fix_code hr (by decide) with ⟨h, _⟩ | ⟨x, _, h⟩
  · exact h
  · exact absurd (by decide) h
theorem awake34 : Ev (fun k => penumbralaw34_awake.f k) true := by
  unfold penumbralaw34_awake.f
  refine Ev.bind (Fixed_ev [1] [2]) ?_
  unfold solve_Det.f
  rw [det_told (n := 2) (a := [1, 2, 3, 4]) (by decide) (by decide) (by decide), fix_one]
  refine ev_some ?_
  refine Ev.bind (Fixed_ev [1] [1]) ?_
  rw [fix_zero]
  refine Ev.bind (Ints_ev _ _ (by decide)) ?_
  refine ev_pos (by decide) ?_
  refine ev_pos rfl ?_
  refine ev_pos (by decide) ?_
  refine ev_pos rfl ?_
  exact Ev.now _
end Go.Proofs.Ytpjfelbamcgnhaa.De
