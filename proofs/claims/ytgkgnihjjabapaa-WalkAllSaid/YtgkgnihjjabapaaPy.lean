/- All paths together: over the choices' numbers. Plain. -/
import Derived.Test.YtgkgnihjjabapaaPx
namespace Go.Proofs.Ytgkgnihjjabapaa.Pq
open Go.RowKit Go.Proofs.Ytgkgnihjjabapaa.X Go.Proofs.YtgkgnihjjabapaaW.PrintWords Go.Proofs.YtgkgnihjjabapaaW.PrintLast Pl Gv Pa Pb Pc Pd
theorem sm_choices (M : Nat) (hM : 0 < M) (F : Nat → Nat → Bool → Int) : sm (2 * M * M) (fun a => F (a % M) (a / M % M) (decide (a / (M * M) = 1))) = sm M fun l => sm M fun g => F l g false + F l g true := by
  have h1 := sm_digits M hM (fun a r => F a (r % M) (decide (r / M = 1))) (2 * M)
  simp only [Nat.div_div_eq_div_mul] at h1
  rw [h1]
  have h2 := sm_digits M hM (fun gg o => sm M fun a => F a gg (decide (o = 1))) 2
  rw [h2, sm_two, sm_comm M M (fun i j => F j i (decide (0 = 1))), sm_comm M M (fun i j => F j i (decide (1 = 1))), ← sm_add]
  refine sm_congr fun l _ => ?_
  rw [← sm_add]
  rfl
section
variable (R : Rw)
theorem go_mvo (s : TS) (l g : Nat) (o : Bool) : goF R s (mkCh l g o) = mvo R (askF R s l) g o := by
  unfold goF mvo mkCh
  simp only [Int.toNat_natCast]
theorem chL_mk (n a : Nat) : chL n a = mkCh (a % (n + 1)) (a / (n + 1) % (n + 1)) (decide (a / ((n + 1) * (n + 1)) = 1)) := rfl
theorem chL_le (n a : Nat) : a % (n + 1) ≤ n ∧ a / (n + 1) % (n + 1) ≤ n := by
  have h1 := Nat.mod_lt a (show 0 < n + 1 by omega)
  have h2 := Nat.mod_lt (a / (n + 1)) (show 0 < n + 1 by omega)
  omega
theorem step_true (s : TS) (a : Nat) : (stepF R s (chL R.n a)).2 = true := by
  obtain ⟨h1, h2⟩ := chL_le R.n a
  rw [chL_mk]
  cases ho : s.ov with
  | false => rw [step_go R s _ _ _ h1 h2 ho]
  | true => rw [step_ov R s _ _ _ h1 h2 ho]
/-- a sum over all choices, of a path that has not ended -/
theorem sum_go (s : TS) (ho : s.ov = false) (F : TS → Int) : sm (2 * (R.n + 1) * (R.n + 1)) (fun a => F (stepF R s (chL R.n a)).1) = sm (R.n + 1) fun l => sm (R.n + 1) fun g => F (mvo R (askF R s l) g false) + F (mvo R (askF R s l) g true) := by
  rw [← sm_choices (R.n + 1) (by omega) (fun l g o => F (mvo R (askF R s l) g o))]
  refine sm_congr fun a _ => ?_
  obtain ⟨h1, h2⟩ := chL_le R.n a
  rw [chL_mk, step_go R s _ _ _ h1 h2 ho, go_mvo]
/-- and of one that has -/
theorem sum_ov (s : TS) (ho : s.ov = true) (F : TS → Int) (h0 : F ⟨s.i, s.v, s.wt, 0, s.ov⟩ = 0) : sm (2 * (R.n + 1) * (R.n + 1)) (fun a => F (stepF R s (chL R.n a)).1) = F s := by
  have e : sm (2 * (R.n + 1) * (R.n + 1)) (fun a => F (stepF R s (chL R.n a)).1) = sm (R.n + 1) fun l => sm (R.n + 1) fun g => (if l = R.n ∧ g = R.n then F s else 0) + 0 := by
    rw [sm_congr (g := fun a => (fun (l g : Nat) (o : Bool) => if noneCh R.n (mkCh l g o) = true then F s else 0) (a % (R.n + 1)) (a / (R.n + 1) % (R.n + 1)) (decide (a / ((R.n + 1) * (R.n + 1)) = 1))) (fun a _ => by
      obtain ⟨h1, h2⟩ := chL_le R.n a
      rw [chL_mk, step_ov R s _ _ _ h1 h2 ho]
      simp only
      split
      · rfl
      · exact h0), sm_choices (R.n + 1) (by omega) (fun (l g : Nat) (o : Bool) => if noneCh R.n (mkCh l g o) = true then F s else 0)]
    refine sm_congr fun l _ => sm_congr fun g _ => ?_
    have e1 : noneCh R.n (mkCh l g true) = false := by simp [noneCh, mkCh]
    have e2 : noneCh R.n (mkCh l g false) = decide (l = R.n ∧ g = R.n) := by
      simp only [noneCh, mkCh, Bool.not_false, Bool.and_true, Int.natCast_inj, Bool.decide_and]
    rw [e1, e2]
    simp
  rw [e, sm_one (R.n + 1) R.n (by omega) _ (fun l _ hl => by
    rw [sm_congr (g := fun _ => 0) (fun g _ => by rw [if_neg (fun h => hl h.1)]; rfl), sm_zero]), sm_one (R.n + 1) R.n (by omega) _ (fun g _ hg => by
    rw [if_neg (fun h => hg h.2)]; rfl), if_pos ⟨rfl, rfl⟩, Int.add_zero]
theorem one_p (s : TS) (hi : s.i < R.n) (hG : R.G.length = R.n * R.n) (hA : R.A.length = R.n) : Cg (sm (2 * (R.n + 1) * (R.n + 1)) fun a => (stepF R s (chL R.n a)).1.p) s.p := by
  cases ho : s.ov with
  | true =>
    have h := sum_ov R s ho (fun t => t.p) rfl
    exact Cg.eq h
  | false =>
    have h := sum_go R s ho (fun t => t.p)
    refine (Cg.eq h).trans ((Cg.sm (g := fun l => (askF R s l).p) (fun l _ => ?_)).trans (asks_p R s hA))
    exact moves_p R (askF R s l) (by rw [(askF_i R s l).1]; exact hi) hG
theorem ask_wt (s : TS) (l : Nat) : (askF R s l).wt = s.wt := by unfold askF; split <;> rfl
/-- what comes from beyond, with what is asked and where it goes -/
theorem bey_next (i d : Nat) (hi : i < R.n) (hE : R.E.length = R.n) : Cg ((sm R.n fun l => R.T.getD (i * R.n + l) 0 * R.E.getD l 0 * (wts R.G R.A R.n i l).1) + sm R.n (zz R (fun j => (bey R.E R.T d).getD j 0) i)) ((bey R.E R.T (d + 1)).getD i 0) := by
  rw [bey, tab_at _ _ _ (by rw [hE]; exact hi), ← sm_add, hE]
  refine (Cg.sm (g := fun j => el R.T R.n i j * (R.E.getD j 0 + (bey R.E R.T d).getD j 0)) (fun l _ => ?_)).trans (Cg.of' _).symm
  have h := wts_one R.G R.A R.n i l
  unfold zz el
  show Cg (R.T.getD (i * R.n + l) 0 * R.E.getD l 0 * (wts R.G R.A R.n i l).1 + R.T.getD (i * R.n + l) 0 * (R.E.getD l 0 * (wts R.G R.A R.n i l).2 + (bey R.E R.T d).getD l 0)) _
  generalize (wts R.G R.A R.n i l).1 = a at *
  generalize (wts R.G R.A R.n i l).2 = b at *
  generalize R.T.getD (i * R.n + l) 0 = T
  generalize R.E.getD l 0 = E
  generalize (bey R.E R.T d).getD l 0 = y
  have h1 : Cg (a + b) 1 := h
  refine (Cg.eq (show _ = T * E * (a + b) + T * y by grind)).trans ?_
  exact (((Cg.refl (T * E)).mul h1).add (Cg.refl _)).trans (Cg.eq (by grind))
theorem one_v (s : TS) (d : Nat) (hi : s.i < R.n) (hE : R.E.length = R.n) (hG : R.G.length = R.n * R.n) (hA : R.A.length = R.n) (hT : ∀ g, g < R.n → of (R.G.getD (s.i * R.n + g) 0) = 0 → of (R.T.getD (s.i * R.n + g) 0) = 0) (hon : of R.on ≠ 0) :
    Cg (sm (2 * (R.n + 1) * (R.n + 1)) fun a => wrth (fun j => (bey R.E R.T d).getD j 0) (stepF R s (chL R.n a)).1) (wrth (fun j => (bey R.E R.T (d + 1)).getD j 0) s) := by
  cases ho : s.ov with
  | true =>
    have h := sum_ov R s ho (wrth (fun j => (bey R.E R.T d).getD j 0)) (by unfold wrth; exact Int.zero_mul _)
    refine (Cg.eq h).trans (Cg.eq ?_)
    unfold wrth
    rw [if_pos ho, if_pos ho]
  | false =>
    have h := sum_go R s ho (wrth (fun j => (bey R.E R.T d).getD j 0))
    refine (Cg.eq h).trans ((Cg.sm (g := fun l => (askF R s l).p * ((askF R s l).v + s.wt * sm R.n (zz R (fun j => (bey R.E R.T d).getD j 0) s.i))) (fun l _ => ?_)).trans ?_)
    · have hm := moves_v R (fun j => (bey R.E R.T d).getD j 0) (askF R s l) (by rw [(askF_i R s l).1]; exact hi) hG (by rw [(askF_i R s l).1]; exact hT) hon
      rw [(askF_i R s l).1, ask_wt] at hm
      exact hm
    · refine (asks_v R s hA _).trans ?_
      unfold wrth
      rw [if_neg (by rw [ho]; decide)]
      exact (Cg.refl _).mul ((Cg.refl _).add ((Cg.refl _).mul (bey_next R s.i d hi hE)))
theorem all_p (hG : R.G.length = R.n * R.n) (hA : R.A.length = R.n) : ∀ (d : Nat) (s : TS), s.i < R.n → Cg (sm ((2 * (R.n + 1) * (R.n + 1)) ^ d) fun x => (runF R s (digs R.n (2 * (R.n + 1) * (R.n + 1)) d x)).p) s.p
  | 0, s, _ => by
    rw [Nat.pow_zero]
    refine Cg.eq ?_
    simp [sm, digs, runF]
  | d + 1, s, hi => by
    have hK : 0 < 2 * (R.n + 1) * (R.n + 1) := Nat.mul_pos (by omega) (by omega)
    rw [Nat.pow_succ]
    have h := sm_digits (2 * (R.n + 1) * (R.n + 1)) hK (fun a r => (runF R (stepF R s (chL R.n a)).1 (digs R.n (2 * (R.n + 1) * (R.n + 1)) d r)).p) ((2 * (R.n + 1) * (R.n + 1)) ^ d)
    rw [sm_congr (g := fun x => (runF R (stepF R s (chL R.n (x % (2 * (R.n + 1) * (R.n + 1))))).1 (digs R.n (2 * (R.n + 1) * (R.n + 1)) d (x / (2 * (R.n + 1) * (R.n + 1))))).p) (fun x _ => by rw [digs, runF, if_pos (step_true R s _)]), h, sm_comm]
    refine (Cg.sm (fun a _ => all_p hG hA d _ (stepF_i R s _ hi))).trans ?_
    exact one_p R s hi hG hA
theorem all_v (hE : R.E.length = R.n) (hG : R.G.length = R.n * R.n) (hA : R.A.length = R.n) (hT : ∀ q, q < R.n * R.n → of (R.G.getD q 0) = 0 → of (R.T.getD q 0) = 0) (hon : of R.on ≠ 0) : ∀ (d : Nat) (s : TS), s.i < R.n → Cg (sm ((2 * (R.n + 1) * (R.n + 1)) ^ d) fun x => (runF R s (digs R.n (2 * (R.n + 1) * (R.n + 1)) d x)).v * (runF R s (digs R.n (2 * (R.n + 1) * (R.n + 1)) d x)).p) (wrth (fun j => (bey R.E R.T d).getD j 0) s)
  | 0, s, _ => by
    rw [Nat.pow_zero]
    refine Cg.eq ?_
    unfold wrth
    rw [show (fun j => (bey R.E R.T 0).getD j 0) = fun _ => 0 from funext fun j => by rw [bey, zero_at]]
    simp only [sm, digs, runF, Int.mul_zero, ite_self, Int.add_zero, Int.zero_add]
    exact Int.mul_comm _ _
  | d + 1, s, hi => by
    have hK : 0 < 2 * (R.n + 1) * (R.n + 1) := Nat.mul_pos (by omega) (by omega)
    rw [Nat.pow_succ]
    have h := sm_digits (2 * (R.n + 1) * (R.n + 1)) hK (fun a r => (runF R (stepF R s (chL R.n a)).1 (digs R.n (2 * (R.n + 1) * (R.n + 1)) d r)).v * (runF R (stepF R s (chL R.n a)).1 (digs R.n (2 * (R.n + 1) * (R.n + 1)) d r)).p) ((2 * (R.n + 1) * (R.n + 1)) ^ d)
    rw [sm_congr (g := fun x => (runF R (stepF R s (chL R.n (x % (2 * (R.n + 1) * (R.n + 1))))).1 (digs R.n (2 * (R.n + 1) * (R.n + 1)) d (x / (2 * (R.n + 1) * (R.n + 1))))).v * (runF R (stepF R s (chL R.n (x % (2 * (R.n + 1) * (R.n + 1))))).1 (digs R.n (2 * (R.n + 1) * (R.n + 1)) d (x / (2 * (R.n + 1) * (R.n + 1))))).p) (fun x _ => by rw [digs, runF, if_pos (step_true R s _)]), h, sm_comm]
    refine (Cg.sm (fun a _ => all_v hE hG hA hT hon d _ (stepF_i R s _ hi))).trans ?_
    exact one_v R s d hi hE hG hA (fun g hg => hT _ (ix_lt hi hg)) hon
end
end Go.Proofs.Ytgkgnihjjabapaa.Pq
