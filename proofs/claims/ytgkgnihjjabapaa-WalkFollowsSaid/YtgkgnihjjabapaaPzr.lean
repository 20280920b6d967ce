/- A path, and the document's: the same value, and the same chance. Plain. -/
import Derived.Test.YtgkgnihjjabapaaPcg
import Derived.Test.YtgkgnihjjabapaaKh
namespace Go.Proofs.Ytgkgnihjjabapaa.Pq
open Go.RowKit Go.Proofs.Ytgkgnihjjabapaa.X Go.Proofs.YtgkgnihjjabapaaW.PrintWords Go.Proofs.YtgkgnihjjabapaaW.PrintLast Pl Gv Pa Pb Pc Pd
theorem none_in {n : Nat} {x : S50} (h : noneCh n x = true) : inn n x.f0 = true ∧ inn n x.f1 = true := by
  unfold noneCh at h
  simp only [Bool.and_eq_true, decide_eq_true_eq] at h
  unfold inn
  rw [h.1, h.2.1]
  exact ⟨decide_eq_true ⟨by omega, by omega⟩, decide_eq_true ⟨by omega, by omega⟩⟩
theorem all1_cons (n : Nat) (x : S50) (l : List S50) : all1 n (x :: l) = if noneCh n x = true then all1 n l else 0 := by
  unfold all1
  rw [List.all_cons]
  cases noneCh n x <;> simp
/-- a path that has ended -/
theorem ended (R : Rw) : ∀ (l : List S50) (s : TS), s.ov = true → (runF R s l).v = s.v ∧ Cg (runF R s l).p (s.p * all1 R.n l)
  | [], s, _ => ⟨rfl, Cg.eq (by simp [runF, all1])⟩
  | x :: l, s, ho => by
    rw [runF, all1_cons]
    unfold stepF
    by_cases h : inn R.n x.f0 = true ∧ inn R.n x.f1 = true
    · rw [if_pos h, if_pos ho]
      simp only [↓reduceIte]
      by_cases hn : noneCh R.n x = true
      · rw [if_pos hn, if_pos hn]
        exact ended R l s ho
      · rw [if_neg hn, if_neg hn]
        obtain ⟨h1, h2⟩ := ended R l ⟨s.i, s.v, s.wt, 0, s.ov⟩ ho
        exact ⟨h1, h2.trans (Cg.eq (by simp))⟩
    · rw [if_neg h]
      have hn : ¬ noneCh R.n x = true := fun z => h (none_in z)
      rw [if_neg hn]
      simp only [Bool.false_eq_true, ↓reduceIte]
      exact ⟨trivial, Cg.eq (by simp)⟩
theorem ask_same (R : Rw) (s : TS) (j : Nat) : Cg (askF R s j).v (s.v + rVal R s.i s.wt j) ∧ Cg (askF R s j).p (s.p * rCh R j) := by
  unfold askF rVal rCh
  by_cases c : j = R.n
  · rw [if_pos c, if_pos c, if_pos c]
    refine ⟨Cg.eq (by simp), (Cg.of' _).trans ((Cg.refl _).mul ?_)⟩
    exact (Cg.of' (lft R.A)).symm.trans (Cg.eq (lft_rs R.A)) |>.symm
  · rw [if_neg c, if_neg c, if_neg c]
    refine ⟨?_, (Cg.of' _).trans ((Cg.refl _).mul (Cg.of' _).symm)⟩
    simp only
    rw [ovr_inv0]
    refine (Cg.of' _).trans ((Cg.refl s.v).add ((Cg.of' _).trans (Cg.trans (((Cg.of' _).trans (Cg.eq (show _ = (s.wt * R.T.getD (s.i * R.n + j) 0) * (R.E.getD j 0 * (wts R.G R.A R.n s.i j).1) by grind))).mul (Cg.refl _)) (Cg.symm ?_))))
    exact (Cg.of' _).trans (((Cg.of' _).trans ((Cg.of' _).mul (Cg.of' _))).mul (Cg.refl _))
theorem path_same (R : Rw) (hon : of R.on ≠ 0) : ∀ (l : List S50) (s : TS), s.ov = false → Cg (runF R s l).v (s.v + (rF R s.i s.wt l).1) ∧ Cg (runF R s l).p (s.p * (rF R s.i s.wt l).2)
  | [], s, _ => ⟨Cg.eq (by simp [runF, rF]), Cg.eq (by simp [runF, rF])⟩
  | x :: l, s, ho => by
    rw [runF, rF]
    by_cases h : inn R.n x.f0 = true ∧ inn R.n x.f1 = true
    · have hs : stepF R s x = (goF R s x, true) := by
        unfold stepF
        rw [if_pos h, if_neg (by rw [ho]; decide)]
      rw [hs, if_pos h]
      simp only [↓reduceIte]
      obtain ⟨a1, a2⟩ := ask_same R s x.f0.toNat
      obtain ⟨a3, a4⟩ := askF_i R s x.f0.toNat
      have a5 : (askF R s x.f0.toNat).wt = s.wt := by unfold askF; split <;> rfl
      unfold goF moveF
      generalize askF R s x.f0.toNat = t at *
      obtain ⟨ti, tv, tw, tp, to_⟩ := t
      simp only at a1 a2 a3 a4 a5
      subst a3 a5
      rw [ho] at a4
      subst a4
      generalize x.f1.toNat = g at *
      generalize rVal R s.i s.wt x.f0.toNat = value at *
      generalize rCh R x.f0.toNat = ch at *
      by_cases c1 : g = R.n
      · rw [if_pos c1, if_pos c1]
        simp only [↓reduceIte]
        obtain ⟨e1, e2⟩ := ended R l ⟨s.i, tv, s.wt, if x.f2 = true then 0 else of (tp * Gv.rs (rowG R s.i)), true⟩ rfl
        rw [e1]
        by_cases c2 : x.f2 = true
        · rw [if_pos c2] at e2
          simp only [if_pos c2]
          exact ⟨a1, e2.trans (Cg.eq (by simp))⟩
        · rw [if_neg c2] at e2
          simp only [if_neg c2]
          refine ⟨a1, e2.trans ?_⟩
          refine (((Cg.of' _).trans (a2.mul (Cg.refl _))).mul (Cg.refl _)).trans ?_
          have hl : Cg (Gv.rs (rowG R s.i)) (lft (rowG R s.i)) := by rw [← lft_rs]; exact Cg.of' _
          refine (((Cg.refl (s.p * ch)).mul hl).mul (Cg.refl _)).trans ?_
          refine (Cg.eq (show _ = s.p * ((ch * lft (rowG R s.i)) * all1 R.n l) by grind)).trans ((Cg.refl _).mul ?_)
          exact (((Cg.of' _).mul (Cg.refl _)).symm).trans (Cg.of' _).symm
      · rw [if_neg c1, if_neg c1]
        by_cases c2 : of (R.G.getD (s.i * R.n + g) 0) = 0
        · rw [if_pos c2, if_pos c2]
          simp only [↓reduceIte]
          obtain ⟨e1, e2⟩ := ended R l ⟨s.i, tv, s.wt, of (tp * R.G.getD (s.i * R.n + g) 0), true⟩ rfl
          rw [e1]
          refine ⟨a1, e2.trans ?_⟩
          have h0 : Cg (of (tp * R.G.getD (s.i * R.n + g) 0)) 0 := (Cg.of' _).trans (((Cg.refl tp).mul (zero_of c2)).trans (Cg.eq (Int.mul_zero _)))
          exact (h0.mul (Cg.refl _)).trans (Cg.eq (by simp))
        · rw [if_neg c2, if_neg c2]
          simp only [Bool.false_eq_true, ↓reduceIte]
          have hw : Cg (ovr (of (s.wt * R.T.getD (s.i * R.n + g) 0)) (R.G.getD (s.i * R.n + g) 0)) (rW R s.i s.wt g) := by rw [ovr_inv0]; exact Cg.refl _
          have hwe : ovr (of (s.wt * R.T.getD (s.i * R.n + g) 0)) (R.G.getD (s.i * R.n + g) 0) = rW R s.i s.wt g := by rw [ovr_inv0]; rfl
          rw [hwe]
          have hv : Cg (of (tv + of (rW R s.i s.wt g * R.E.getD g 0 * (wts R.G R.A R.n s.i g).2))) (s.v + rV R s.i s.wt value g) := by
            unfold rV
            generalize rW R s.i s.wt g = w2
            generalize (wts R.G R.A R.n s.i g).2 = b
            generalize R.E.getD g 0 = E
            refine (Cg.of' _).trans ((a1.add (Cg.of' _)).trans (Cg.symm ?_))
            refine ((Cg.refl s.v).add ((Cg.of' _).trans ((Cg.refl value).add ((Cg.of' _).trans ((Cg.refl w2).mul (Cg.of' _)))))).trans (Cg.eq (by grind))
          generalize R.G.getD (s.i * R.n + g) 0 = G at *
          have hp : Cg (of (tp * G)) (s.p * of (ch * G)) := by
            refine (Cg.of' _).trans ((a2.mul (Cg.refl G)).trans ?_)
            exact (Cg.eq (show _ = s.p * (ch * G) by grind)).trans ((Cg.refl _).mul (Cg.of' _).symm)
          generalize rV R s.i s.wt value g = v2 at *
          generalize of (tv + of (rW R s.i s.wt g * R.E.getD g 0 * (wts R.G R.A R.n s.i g).2)) = nv at *
          generalize of (ch * G) = c3 at *
          generalize of (tp * G) = np at *
          unfold onF
          by_cases c3' : x.f2 = true
          · rw [if_pos c3', if_pos c3']
            have hwo : ovr (rW R s.i s.wt g) R.on = of (rW R s.i s.wt g * inv0 R.on) := ovr_inv0 _ _
            simp only
            rw [hwo]
            obtain ⟨e1, e2⟩ := path_same R hon l ⟨g, nv, of (rW R s.i s.wt g * inv0 R.on), of (np * R.on), false⟩ rfl
            generalize rF R g (of (rW R s.i s.wt g * inv0 R.on)) l = r at *
            refine ⟨e1.trans ((hv.add (Cg.refl _)).trans ((Cg.eq (show _ = s.v + (v2 + r.1) by grind)).trans ((Cg.refl _).add (Cg.of' _).symm))), e2.trans ?_⟩
            refine (((Cg.of' _).trans (hp.mul (Cg.refl _))).mul (Cg.refl _)).trans ?_
            refine (Cg.eq (show _ = s.p * ((c3 * R.on) * r.2) by grind)).trans ((Cg.refl _).mul (Cg.symm ?_))
            exact (Cg.of' _).trans ((Cg.of' _).mul (Cg.refl _))
          · rw [if_neg c3', if_neg c3']
            simp only
            obtain ⟨e1, e2⟩ := ended R l ⟨g, nv, rW R s.i s.wt g, of (np * of (1 - R.on)), true⟩ rfl
            rw [e1]
            refine ⟨hv, e2.trans ?_⟩
            refine (((Cg.of' _).trans (hp.mul (Cg.refl _))).mul (Cg.refl _)).trans ?_
            refine (Cg.eq (show _ = s.p * ((c3 * of (1 - R.on)) * all1 R.n l) by grind)).trans ((Cg.refl _).mul (Cg.symm ?_))
            exact (Cg.of' _).trans ((Cg.of' _).mul (Cg.refl _))
    · have hs : stepF R s x = (⟨s.i, s.v, s.wt, 0, s.ov⟩, false) := by
        unfold stepF
        rw [if_neg h]
      rw [hs, if_neg h]
      simp only [Bool.false_eq_true, ↓reduceIte]
      exact ⟨Cg.eq (by simp), Cg.eq (by simp)⟩
/-! what a path tells is its own rest -/
def can (s : TS) : Prop := of s.v = s.v ∧ of s.p = s.p
theorem ask_can (R : Rw) (s : TS) (j : Nat) (h : can s) : can (askF R s j) := by
  unfold askF
  split
  · exact ⟨h.1, of_of _⟩
  · exact ⟨of_of _, of_of _⟩
theorem move_can (R : Rw) (s : TS) (g : Nat) (o : Bool) (h : can s) : can (moveF R s g o) := by
  unfold moveF
  split
  · refine ⟨h.1, ?_⟩
    show of (if o = true then 0 else of (s.p * Gv.rs (rowG R s.i))) = if o = true then 0 else of (s.p * Gv.rs (rowG R s.i))
    split
    · rfl
    · exact of_of _
  · split
    · exact ⟨h.1, of_of _⟩
    · exact ⟨of_of _, of_of _⟩
theorem on_can (R : Rw) (s : TS) (o : Bool) (h : can s) : can (onF R s o) := by
  unfold onF
  split
  · exact ⟨h.1, of_of _⟩
  · exact ⟨h.1, of_of _⟩
theorem step_can (R : Rw) (s : TS) (x : S50) (h : can s) : can (stepF R s x).1 := by
  unfold stepF
  split
  · split
    · show can (if noneCh R.n x = true then s else ⟨s.i, s.v, s.wt, 0, s.ov⟩)
      split
      · exact h
      · exact ⟨h.1, rfl⟩
    · show can (goF R s x)
      have h2 := move_can R _ x.f1.toNat x.f2 (ask_can R s x.f0.toNat h)
      unfold goF
      simp only
      split
      · exact h2
      · exact on_can R _ _ h2
  · exact ⟨h.1, rfl⟩
theorem run_can (R : Rw) : ∀ (l : List S50) (s : TS), can s → can (runF R s l)
  | [], s, h => h
  | x :: l, s, h => by
    rw [runF]
    split
    · exact run_can R l _ (step_can R s x h)
    · exact step_can R s x h
theorem rF_can (R : Rw) (i : Nat) (wt : Int) (l : List S50) : of (rF R i wt l).2 = (rF R i wt l).2 := by
  cases l with
  | nil => rfl
  | cons x l =>
    rw [rF]
    split
    · split
      · split
        · rfl
        · exact of_of _
      · split
        · rfl
        · split
          · exact of_of _
          · exact of_of _
    · rfl
/-- a path's value and chance, from a patch on -/
theorem follows_vals {E T G A : List Int} {on : Int} (hon : of on ≠ 0) (i : Nat) (l : List S50) : (folV E T G A on i l).p = (rF (Rn E T G A on) i 1 l).2 ∧ (folV E T G A on i l).v = of (E.getD i 0 + (rF (Rn E T G A on) i 1 l).1) := by
  obtain ⟨h1, h2⟩ := path_same (Rn E T G A on) hon l ⟨i, of (E.getD i 0), 1, 1, false⟩ rfl
  obtain ⟨c1, c2⟩ := run_can (Rn E T G A on) l ⟨i, of (E.getD i 0), 1, 1, false⟩ ⟨of_of _, rfl⟩
  have c3 := rF_can (Rn E T G A on) i 1 l
  unfold Cg at h1 h2
  unfold folV
  refine ⟨?_, ?_⟩
  · rw [← c2, h2, ← c3]
    show of (1 * _) = _
    rw [Int.one_mul, of_of]
  · rw [← c1, h1]
    show of (of (E.getD i 0) + _) = _
    rw [of_add_left]
end Go.Proofs.Ytgkgnihjjabapaa.Pq
