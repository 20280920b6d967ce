/- All paths together: the law's own loops. -/
import Derived.Test.YtgkgnihjjabapaaPy
import Derived.Test.YtgkgnihjjabapaaPw
import Derived.Test.YtgkgnihjjabapaaXxL35WalkAll
namespace Go.Proofs.Ytgkgnihjjabapaa.Pq
open Go.RowKit Go.Proofs.Ytgkgnihjjabapaa.X Go.Proofs.YtgkgnihjjabapaaW.PrintWords Go.Proofs.YtgkgnihjjabapaaW.PrintLast Pa Pb Pc Pd Pl Gv
theorem all_dark (E T G A : List Int) (on x y : Int) (b : Bool) (hb : b = true) : Ev (fun k => penumbralaw35_WalkAll.j0 k x y b E T G A on) true := by
  subst hb
  refine Ev.step (fun k => by rw [penumbralaw35_WalkAll.j0]) ?_
  exact ev_pos rfl (Ev.bind awake35 (Ev.now _))
theorem sq_wrap {n : Nat} (h : n ≤ 2) : wrap64 (((n + 1 : Nat) : Int) * ((n + 1 : Nat) : Int)) = (((n + 1) * (n + 1) : Nat) : Int) := by
  obtain rfl | rfl | rfl : n = 0 ∨ n = 1 ∨ n = 2 := by omega
  · decide +kernel
  · decide +kernel
  · decide +kernel
theorem kk_wrap {n : Nat} (h : n ≤ 2) : wrap64 ((((n + 1) * (n + 1) : Nat) : Int) * 2) = ((2 * (n + 1) * (n + 1) : Nat) : Int) := by
  obtain rfl | rfl | rfl : n = 0 ∨ n = 1 ∨ n = 2 := by omega
  · decide +kernel
  · decide +kernel
  · decide +kernel
theorem kk_le {n : Nat} (h : n ≤ 2) : 0 < 2 * (n + 1) * (n + 1) ∧ 2 * (n + 1) * (n + 1) ≤ 18 ∧ 0 < (n + 1) * (n + 1) := by
  obtain rfl | rfl | rfl : n = 0 ∨ n = 1 ∨ n = 2 := by omega
  · decide
  · decide
  · decide
theorem tmN (a b : Nat) : Int.tmod (a : Int) (b : Int) = ((a % b : Nat) : Int) := rfl
theorem tdN (a b : Nat) : Int.tdiv (a : Int) (b : Int) = ((a / b : Nat) : Int) := rfl
theorem beq_one (a : Nat) : (((a : Nat) : Int) == 1) = decide (a = 1) := by
  by_cases h : a = 1
  · subst h; rfl
  · rw [decide_eq_false h]
    exact beq_eq_false_iff_ne.mpr (by omega)
section
variable {E T G A : List Int} {on : Int}
/-- a path's choices, from its number -/
theorem digits_loop {n K : Nat} (hn : n ≤ 2) (hK : K = 2 * (n + 1) * (n + 1)) (i d : Nat) (x11 x13 x14 x15 : Int) {r : Bool} :
    ∀ (e y : Nat), y + e = d → d ≤ 2 → ∀ (acc : List S50) (x : Nat), acc.length ≤ y → x ≤ 1000000 →
    (∀ rest : Int, Ev (fun k => penumbralaw35_WalkAll.l2 k (n : Int) (i : Int) (d : Int) (K : Int) x11 x13 x14 x15 (acc ++ digs n K e x) rest (d : Int) E T G A on) r) →
    Ev (fun k => penumbralaw35_WalkAll.l2 k (n : Int) (i : Int) (d : Int) (K : Int) x11 x13 x14 x15 acc (x : Int) (y : Int) E T G A on) r := by
  intro e
  obtain ⟨hK0, hK1, hM⟩ := kk_le hn
  rw [← hK] at hK0 hK1
  induction e with
  | zero =>
    intro y hy hd acc x ha hx h
    obtain rfl : y = d := by omega
    have h := h (x : Int)
    rw [digs, List.append_nil] at h
    exact h
  | succ e ih =>
    intro y hy hd acc x ha hx h
    refine Ev.step (fun k => by rw [penumbralaw35_WalkAll.l2, sucW n (by omega), sq_wrap hn, tmN, tmN, tdN, tdN, tdN]) ?_
    have hxk : x % K < K := Nat.mod_lt _ hK0
    have hq1 : x % K / (n + 1) ≤ x % K := Nat.div_le_self _ _
    have hq2 : x % K / ((n + 1) * (n + 1)) ≤ x % K := Nat.div_le_self _ _
    have hq3 : x / K ≤ x := Nat.div_le_self _ _
    rw [natW (a := x % K / (n + 1)) (by omega), natW (a := x % K / ((n + 1) * (n + 1))) (by omega), natW (a := x / K) (by omega), tmN, beq_one, sucW y (by omega)]
    refine ev_pos (by omega) (ev_neg (by omega) (ev_neg (by omega) (ev_neg (fun hz => by have := Int.natCast_eq_zero.mp hz; omega) (ev_pos (by omega) ?_))))
    refine ih (y + 1) (by omega) hd _ (x / K) (by rw [List.length_append]; simp; omega) (by omega) (fun rest => ?_)
    have h := h rest
    rw [digs] at h
    rw [List.append_assoc]
    exact h
theorem path_ev (h : chkV E T G A on = 0) (i d : Nat) (hi : i < E.length) (K x11 : Int) (x15 : Nat) (hx : x15 ≤ 1000000) (s c : Int) (l : List S50) (rest : Int) {r : Bool}
    (hr : Ev (fun k => penumbralaw35_WalkAll.l1 k (E.length : Int) (i : Int) (d : Int) K x11 (of (s + (folV E T G A on i l).v * (folV E T G A on i l).p)) (of (c + (folV E T G A on i l).p)) ((x15 + 1 : Nat) : Int) E T G A on) r) :
    Ev (fun k => penumbralaw35_WalkAll.l2 k (E.length : Int) (i : Int) (d : Int) K x11 (of s) (of c) (x15 : Int) l rest (d : Int) E T G A on) r := by
  refine Ev.step (fun k => by rw [penumbralaw35_WalkAll.l2]) ?_
  refine ev_neg (by omega) ?_
  have hc := Check_ev E T G A on
  rw [if_pos h] at hc
  have hf : Ev (fun k => walk_Follow.f k E T G A on (i : Int) l) ((folV E T G A on i l).v, (folV E T G A on i l).p, 0) := by
    unfold walk_Follow.f folF
    refine Ev.bind hc (ev_pos rfl (ev_pos ⟨by omega, by omega⟩ ?_))
    rw [Int.toNat_natCast]
    exact Ev.now _
  refine Ev.bind hf (ev_pos rfl ?_)
  rw [RMul_eq]
  refine ev_some ?_
  rw [RAdd_eq]
  refine ev_some ?_
  rw [RAdd_eq]
  refine ev_some ?_
  rw [of_add, of_add_left, sucW x15 (by omega)]
  exact hr
theorem paths_loop (h : chkV E T G A on = 0) (hn : E.length ≤ 2) {K m : Nat} (hK : K = 2 * (E.length + 1) * (E.length + 1)) (i d : Nat) (hi : i < E.length) (hd : d ≤ 2) (hm : m ≤ 1000) {r : Bool}
    (hr : Ev (fun k => penumbralaw35_WalkAll.l1 k (E.length : Int) (i : Int) (d : Int) (K : Int) (m : Int) (of (sm m fun x => (folV E T G A on i (digs E.length K d x)).v * (folV E T G A on i (digs E.length K d x)).p)) (of (sm m fun x => (folV E T G A on i (digs E.length K d x)).p)) (m : Int) E T G A on) r) :
    ∀ (e x : Nat), x + e = m → Ev (fun k => penumbralaw35_WalkAll.l1 k (E.length : Int) (i : Int) (d : Int) (K : Int) (m : Int) (of (sm x fun x => (folV E T G A on i (digs E.length K d x)).v * (folV E T G A on i (digs E.length K d x)).p)) (of (sm x fun x => (folV E T G A on i (digs E.length K d x)).p)) (x : Int) E T G A on) r := by
  intro e
  induction e with
  | zero =>
    intro x hx
    obtain rfl : x = m := by omega
    exact hr
  | succ e ih =>
    intro x hx
    have h2 := ih (x + 1) (by omega)
    rw [sm, sm] at h2
    refine Ev.step (fun k => by rw [penumbralaw35_WalkAll.l1]) ?_
    refine ev_pos (by omega) ?_
    refine digits_loop hn hK i d _ _ _ _ d 0 (by omega) hd [] x (by simp) (by omega) (fun rest => ?_)
    rw [List.nil_append]
    exact path_ev h i d hi K m x (by omega) _ _ _ rest h2
theorem many_loop {n K : Nat} (hK : K ≤ 18) (i d : Nat) (hd : d ≤ 2) {r : Bool} (hr : Ev (fun k => penumbralaw35_WalkAll.l1 k (n : Int) (i : Int) (d : Int) (K : Int) ((K ^ d : Nat) : Int) 0 0 0 E T G A on) r) :
    ∀ (e y : Nat), y + e = d → Ev (fun k => penumbralaw35_WalkAll.l0 k (n : Int) (i : Int) (d : Int) (K : Int) ((K ^ y : Nat) : Int) (y : Int) E T G A on) r := by
  intro e
  induction e with
  | zero =>
    intro y hy
    obtain rfl : y = d := by omega
    refine Ev.step (fun k => by rw [penumbralaw35_WalkAll.l0]) ?_
    exact ev_neg (by omega) hr
  | succ e ih =>
    intro y hy
    refine Ev.step (fun k => by rw [penumbralaw35_WalkAll.l0]) ?_
    refine ev_pos (by omega) ?_
    have hb : K ^ y * K ≤ 1000000 := by
      obtain rfl | rfl : y = 0 ∨ y = 1 := by omega
      · rw [Nat.pow_zero]; omega
      · rw [Nat.pow_one]
        have := Nat.mul_le_mul hK hK
        omega
    rw [mulW' K (K ^ y) hb, sucW y (by omega), ← Nat.pow_succ]
    exact ih (y + 1) (by omega)
theorem all_main (h : chkV E T G A on = 0) (hn : E.length ≤ 2) (f p : Nat) (hf : f ≤ 255) (_ : p ≤ 255) : Ev (fun k => penumbralaw35_WalkAll.j0 k (f : Int) (p : Int) false E T G A on) true := by
  obtain ⟨hs, hon, hsc⟩ := chk_zero h
  have h1 := hs.1.1
  obtain ⟨hK0, hK1, -⟩ := kk_le hn
  refine Ev.step (fun k => by rw [penumbralaw35_WalkAll.j0, natW (a := f) (by omega), tmN, show (3 : Int) = ((3 : Nat) : Int) from rfl, tmN, natW (a := p % 3) (by omega), sucW E.length (by omega), sq_wrap hn, kk_wrap hn]) ?_
  refine ev_neg (by decide) (ev_neg (by omega) ?_)
  have hi : f % E.length < E.length := Nat.mod_lt _ (by omega)
  have hd : p % 3 ≤ 2 := by have := Nat.mod_lt p (show 0 < 3 by omega); omega
  generalize f % E.length = i at *
  generalize p % 3 = d at *
  obtain ⟨K, hK⟩ : ∃ K, 2 * (E.length + 1) * (E.length + 1) = K := ⟨_, rfl⟩
  rw [hK] at hK0 hK1 ⊢
  have hm : K ^ d ≤ 1000 := by
    obtain rfl | rfl | rfl : d = 0 ∨ d = 1 ∨ d = 2 := by omega
    · rw [Nat.pow_zero]; omega
    · rw [Nat.pow_one]; omega
    · rw [Nat.pow_two]
      have := Nat.mul_le_mul hK1 hK1
      omega
  have hmany := many_loop (n := E.length) (E := E) (T := T) (G := G) (A := A) (on := on) hK1 i d hd (r := true) ?_ d 0 (by omega)
  · rw [Nat.pow_zero] at hmany
    exact hmany
  · have hloop := paths_loop h hn hK.symm i d hi hd hm (r := true) ?_ (K ^ d) 0 (by omega)
    · exact hloop
    · refine Ev.step (fun k => by rw [penumbralaw35_WalkAll.l1]) ?_
      refine ev_neg (by omega) (Ev.bind awake35 (ev_pos rfl ?_))
      refine Ev.bind (RSum_ev hs.1 (m := d) (by omega)) (ev_pos (by omega) (ev_pos (by rw [rs_length]; omega) ?_))
      have hP := all_p (Rn E T G A on) hs.2.1 hs.2.2 d ⟨i, of (E.getD i 0), 1, 1, false⟩ hi
      have hV := all_v (Rn E T G A on) rfl hs.2.1 hs.2.2 (fun q hq hz => scanG_no hsc q (by omega) (by rw [Nat.zero_add]; exact hq) hz) hon d ⟨i, of (E.getD i 0), 1, 1, false⟩ hi
      have e1 : (Rn E T G A on).n = E.length := rfl
      rw [e1, hK] at hP hV
      have hP2 : of (sm (K ^ d) fun x => (folV E T G A on i (digs E.length K d x)).p) = 1 := hP
      have hV2 : of (sm (K ^ d) fun x => (folV E T G A on i (digs E.length K d x)).v * (folV E T G A on i (digs E.length K d x)).p) = rd (Pd.rs E T d) (i : Int) := by
        refine Eq.trans hV ?_
        rw [rd_eq, ← bey_rs, tab_at _ _ _ hi]
        show of (1 * (of (E.getD i 0) + 1 * (bey E T d).getD i 0)) = _
        rw [Int.one_mul, Int.one_mul, of_add_left]
      rw [hP2]
      refine ev_pos hV2 ?_
      exact Ev.now _
end
end Go.Proofs.Ytgkgnihjjabapaa.Pq
