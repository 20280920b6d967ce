/- What the functions of layer 35 tell, plain: what fits, how much both ways count, the mean. -/
import Derived.Test.YtgkgnihjjabapaaPd
import Derived.Test.YtgkgnihjjabapaaKe
import Derived.Test.YtgkgnihjjabapaaXxF35b
import Derived.Test.YtgkgnihjjabapaaXxF35z
namespace Go.Proofs.Ytgkgnihjjabapaa.Pq
open Go.RowKit Go.Proofs.Ytgkgnihjjabapaa.X Go.Proofs.YtgkgnihjjabapaaW.PrintWords Go.Proofs.YtgkgnihjjabapaaW.PrintLast Pl Gv Pa Pb Pc Pd

theorem invP_one : invP 1 = 1 := inv_unique (a := 1) (invP_range 1) (by decide) (invP_mul 1 (by decide)) (by decide)
theorem ovr_one (a : Int) : ovr a 1 = of a := by
  unfold ovr
  rw [if_neg (by decide), invP_one, Int.mul_one]
/-- does a throw go where nothing goes? -/
def scanG (T G : List Int) : Nat → Nat → Bool
  | 0, _ => false
  | d + 1, i => if of (T.getD i 0) = 0 then scanG T G d (i + 1) else if of (G.getD i 0) = 0 then true else scanG T G d (i + 1)
theorem scanG_no {T G : List Int} : ∀ {d i : Nat}, scanG T G d i = false → ∀ j, i ≤ j → j < i + d → of (G.getD j 0) = 0 → of (T.getD j 0) = 0
  | 0, i, _, j, h1, h2, _ => by omega
  | d + 1, i, h, j, h1, h2, h3 => by
    rw [scanG] at h
    by_cases c : of (T.getD i 0) = 0
    · rw [if_pos c] at h
      by_cases e : j = i
      · rw [e]; exact c
      · exact scanG_no h j (by omega) (by omega) h3
    · rw [if_neg c] at h
      by_cases c2 : of (G.getD i 0) = 0
      · rw [if_pos c2] at h
        cases h
      · rw [if_neg c2] at h
        by_cases e : j = i
        · subst e
          exact absurd h3 c2
        · exact scanG_no h j (by omega) (by omega) h3
/-- do chances fit a model? -/
def shape (E T G A : List Int) : Prop := right E T ∧ G.length = E.length * E.length ∧ A.length = E.length
instance (E T G A : List Int) : Decidable (shape E T G A) := by unfold shape; exact inferInstance
def chkV (E T G A : List Int) (on : Int) : Int := if shape E T G A then (if of on = 0 then 13 else if scanG T G (E.length * E.length) 0 = true then 13 else 0) else 14
theorem chk_zero {E T G A : List Int} {on : Int} (h : chkV E T G A on = 0) : shape E T G A ∧ of on ≠ 0 ∧ scanG T G (E.length * E.length) 0 = false := by
  unfold chkV at h
  by_cases c : shape E T G A
  · rw [if_pos c] at h
    by_cases d : of on = 0
    · rw [if_pos d] at h
      cases h
    · rw [if_neg d] at h
      refine ⟨c, d, ?_⟩
      cases e : scanG T G (E.length * E.length) 0 with
      | true => rw [if_pos e] at h; cases h
      | false => rfl
  · rw [if_neg c] at h
    cases h
theorem Check_loop (x on : Int) (T G A : List Int) (n : Nat) (hT : T.length = n) (hG : G.length = n) (hn : n ≤ 1000) : ∀ (d i : Nat), i + d = n → Ev (fun k => walk_Check.l0 k x T (T.length : Int) (i : Int) G A on) (if scanG T G d i = true then (0, 13) else (x, 0)) := by
  intro d
  induction d with
  | zero =>
    intro i hi
    refine Ev.step (fun k => by rw [walk_Check.l0]) ?_
    rw [scanG, if_neg (by decide)]
    exact ev_neg (by omega) (Ev.now _)
  | succ d ih =>
    intro i hi
    refine Ev.step (fun k => by rw [walk_Check.l0]) ?_
    refine ev_pos (by omega) (ev_pos (by omega) (ev_pos (by omega) ?_))
    rw [Of_eq, rd_eq]
    refine ev_some ?_
    rw [scanG]
    by_cases c : of (T.getD i 0) = 0
    · rw [if_pos c]
      refine ev_pos c ?_
      rw [sucW i (by omega)]
      exact ih (i + 1) (by omega)
    · rw [if_neg c]
      refine ev_neg c (ev_pos (by omega) ?_)
      rw [Of_eq, rd_eq]
      refine ev_some ?_
      by_cases c2 : of (G.getD i 0) = 0
      · rw [if_pos c2, if_pos rfl]
        exact ev_pos c2 (Ev.now _)
      · rw [if_neg c2]
        refine ev_neg c2 ?_
        rw [sucW i (by omega)]
        exact ih (i + 1) (by omega)
theorem Check_ev (E T G A : List Int) (on : Int) : Ev (fun k => walk_Check.f k E T G A on) (if chkV E T G A on = 0 then ((E.length : Int), 0) else (0, chkV E T G A on)) := by
  have hj (b : Bool) (hb : b = true) (m : Int) : Ev (fun k => walk_Check.j0 k m b E T G A on) (0, 14) := by
    subst hb
    exact Ev.step (fun k => by rw [walk_Check.j0]) (ev_pos rfl (Ev.now _))
  have bad (h : ¬ shape E T G A) : (if chkV E T G A on = 0 then ((E.length : Int), (0 : Int)) else (0, chkV E T G A on)) = (0, 14) := by
    have e : chkV E T G A on = 14 := if_neg h
    rw [e, if_neg (by decide)]
  unfold walk_Check.f
  by_cases hr : right E T
  · obtain ⟨h1, h2, h3⟩ := hr
    have hsq := sq_le h2
    rw [Check_yes ⟨h1, h2, h3⟩]
    refine ev_some (ev_pos rfl ?_)
    rw [mulW' _ _ (by omega)]
    by_cases hg : G.length = E.length * E.length
    · refine ev_pos (by omega) ?_
      by_cases ha : A.length = E.length
      · have hs : shape E T G A := ⟨⟨h1, h2, h3⟩, hg, ha⟩
        have hb : ((A.length : Int) != (E.length : Int)) = false := by rw [ha]; exact bne_self_eq_false _
        refine Ev.step (fun k => by rw [walk_Check.j0]) ?_
        refine ev_neg (by simp [ha]) ?_
        rw [Of_eq]
        refine ev_some ?_
        unfold chkV
        rw [if_pos hs]
        by_cases c : of on = 0
        · rw [if_pos c, if_neg (by decide)]
          exact ev_pos c (Ev.now _)
        · rw [if_neg c]
          refine ev_neg c ?_
          have hl := Check_loop (E.length : Int) on T G A (E.length * E.length) h3 hg (by omega) (E.length * E.length) 0 (by omega)
          have e : (if (if scanG T G (E.length * E.length) 0 = true then (13 : Int) else 0) = 0 then ((E.length : Int), (0 : Int)) else (0, if scanG T G (E.length * E.length) 0 = true then (13 : Int) else 0)) = (if scanG T G (E.length * E.length) 0 = true then (0, 13) else ((E.length : Int), 0)) := by
            cases scanG T G (E.length * E.length) 0 <;> rfl
          rw [e]
          exact hl
      · rw [bad (fun h => ha h.2.2)]
        exact hj _ (by simpa using fun h => ha (by omega)) _
    · rw [bad (fun h => hg h.2.1)]
      exact ev_neg (by omega) (hj _ rfl _)
  · rw [bad (fun h => hr h.1), Check_no hr]
    exact ev_some (ev_neg (by decide) (hj _ rfl _))
theorem Right_any (e t : List Int) : penumbraref32_Right.f e t = some (decide (right e t)) := by
  by_cases c : e.length ≤ 20
  · exact Right_eq e t c
  · unfold penumbraref32_Right.f
    rw [if_pos (by omega), if_neg (by omega), decide_eq_false (fun h : right e t => by have := h.2.1; omega)]
theorem RCheck_loop (x on : Int) (E T G A : List Int) (n : Nat) (hx : wrap64 (x * x) = (n : Int)) (hT : T.length = n) (hG : G.length = n) (hn : n ≤ 1000) : ∀ (d i : Nat), i + d = n → Ev (fun k => penumbraref35_Check.l0 k x (i : Int) E T G A on) (if scanG T G d i = true then 13 else 0) := by
  intro d
  induction d with
  | zero =>
    intro i hi
    refine Ev.step (fun k => by rw [penumbraref35_Check.l0, hx]) ?_
    rw [scanG, if_neg (by decide)]
    exact ev_neg (by omega) (Ev.now _)
  | succ d ih =>
    intro i hi
    refine Ev.step (fun k => by rw [penumbraref35_Check.l0, hx]) ?_
    refine ev_pos (by omega) (ev_pos (by omega) (ev_pos (by omega) ?_))
    rw [ROf_eq, rd_eq]
    refine ev_some ?_
    rw [scanG]
    by_cases c : of (T.getD i 0) = 0
    · rw [if_pos c]
      refine ev_pos c ?_
      rw [sucW i (by omega)]
      exact ih (i + 1) (by omega)
    · rw [if_neg c]
      refine ev_neg c (ev_pos (by omega) ?_)
      rw [ROf_eq, rd_eq]
      refine ev_some ?_
      by_cases c2 : of (G.getD i 0) = 0
      · rw [if_pos c2, if_pos rfl]
        exact ev_pos c2 (Ev.now _)
      · rw [if_neg c2]
        refine ev_neg c2 ?_
        rw [sucW i (by omega)]
        exact ih (i + 1) (by omega)
theorem RCheck_ev (E T G A : List Int) (on : Int) : Ev (fun k => penumbraref35_Check.f k E T G A on) (chkV E T G A on) := by
  have hj (b : Bool) (hb : b = true) (m : Int) : Ev (fun k => penumbraref35_Check.j0 k m b E T G A on) 14 := by
    subst hb
    exact Ev.step (fun k => by rw [penumbraref35_Check.j0]) (ev_pos rfl (Ev.now _))
  have bad (h : ¬ shape E T G A) : chkV E T G A on = 14 := if_neg h
  unfold penumbraref35_Check.f
  rw [Right_any]
  refine ev_some ?_
  by_cases hr : right E T
  · refine ev_pos (decide_eq_true hr) ?_
    obtain ⟨h1, h2, h3⟩ := hr
    have hsq := sq_le h2
    rw [mulW' _ _ (by omega)]
    by_cases hg : G.length = E.length * E.length
    · refine ev_pos (by omega) ?_
      by_cases ha : A.length = E.length
      · have hs : shape E T G A := ⟨⟨h1, h2, h3⟩, hg, ha⟩
        refine Ev.step (fun k => by rw [penumbraref35_Check.j0]) ?_
        refine ev_neg (by simp [ha]) ?_
        rw [ROf_eq]
        refine ev_some ?_
        unfold chkV
        rw [if_pos hs]
        by_cases c : of on = 0
        · rw [if_pos c]
          exact ev_pos c (Ev.now _)
        · rw [if_neg c]
          refine ev_neg c ?_
          exact RCheck_loop (E.length : Int) on E T G A (E.length * E.length) (mulW' _ _ (by omega)) h3 hg (by omega) (E.length * E.length) 0 (by omega)
      · rw [bad (fun h => ha h.2.2)]
        exact hj _ (by simpa using fun h => ha (by omega)) _
    · rw [bad (fun h => hg h.2.1)]
      exact ev_neg (by omega) (hj _ rfl _)
  · rw [bad (fun h => hr h.1)]
    exact ev_neg (by simpa using hr) (hj _ rfl _)
/-! how much both ways count -/
theorem wts_one (G A : List Int) (n i j : Nat) : of ((wts G A n i j).1 + (wts G A n i j).2) = 1 := by
  unfold wts
  split
  · rfl
  · show of (_ + of (1 - _)) = 1
    rw [of_add_right]
    rw [show ∀ x : Int, x + (1 - x) = 1 from fun x => by omega]
    rfl
theorem RWeights_ev (G A : List Int) (on : Int) (n i j : Nat) (hn : n ≤ 12) (hi : i < n) (hj : j < n) (hG : G.length = n * n) (hA : A.length = n) : Ev (fun k => penumbraref35_Weights.f k G A on (n : Int) (i : Int) (j : Int)) (wts G A n i j) := by
  obtain ⟨e1, e2⟩ := ix_wrap hn hi hj
  have e3 := ix_lt hi hj
  unfold penumbraref35_Weights.f
  rw [e1, e2]
  refine ev_pos (by omega) (ev_pos (by omega) (ev_pos (by omega) (ev_pos (by omega) ?_)))
  rw [RAdd_eq, ROf_eq, rd_eq, rd_eq]
  refine ev_some (ev_some ?_)
  unfold wts
  have hj0 (b : Bool) (hb : b = true) (y : Int) : Ev (fun k => penumbraref35_Weights.j0 k (j : Int) y b G A on) (0, 1) := by
    subst hb
    exact Ev.step (fun k => by rw [penumbraref35_Weights.j0]) (ev_pos rfl (Ev.now _))
  have hj1 (b : Bool) (hb : b = false) (y : Int) (hy : of y ≠ 0) : Ev (fun k => penumbraref35_Weights.j0 k (j : Int) y b G A on) (ovr (A.getD j 0) y, of (1 - ovr (A.getD j 0) y)) := by
    subst hb
    refine Ev.step (fun k => by rw [penumbraref35_Weights.j0]) (ev_neg (by decide) (ev_pos (by omega) (ev_pos (by omega) ?_)))
    refine Ev.bind (RInv_ev y hy) ?_
    rw [rd_eq, RMul_eq]
    refine ev_some ?_
    rw [RSub_eq]
    refine ev_some ?_
    unfold ovr
    rw [if_neg hy]
    exact Ev.now _
  generalize A.getD j 0 = a at *
  generalize G.getD (i * n + j) 0 = b at *
  by_cases c1 : of a = 0
  · rw [if_pos (.inl c1)]
    exact ev_pos c1 (hj0 _ rfl _)
  · by_cases c2 : of (a + b) = 0
    · rw [if_pos (.inr c2)]
      exact ev_neg c1 (hj0 _ (by rw [c2]; rfl) _)
    · rw [if_neg (fun h => h.elim c1 c2)]
      exact ev_neg c1 (hj1 _ (beq_eq_false_iff_ne.mpr c2) _ (by rw [of_of]; exact c2))
theorem awake_follow : Ev (fun k => walk_Follow.f k [1] [2] [1] [0] 1 0 [(⟨1, 0, true⟩ : S50)]) (3, 1, 0) := by
  unfold walk_Follow.f folF
  have hc := Check_ev [1] [2] [1] [0] 1
  have e : chkV [1] [2] [1] [0] 1 = 0 := by decide +kernel
  rw [e, if_pos rfl] at hc
  refine Ev.bind hc (ev_pos rfl (ev_pos (by decide) ?_))
  have e2 : folV [1] [2] [1] [0] 1 (0 : Int).toNat [(⟨1, 0, true⟩ : S50)] = ⟨0, 3, 2, 1, false⟩ := by
    have a1 : wts [1] [0] 1 0 0 = (0, 1) := by decide +kernel
    have s1 : suml [0] = 0 := by decide +kernel
    simp [folV, runF, Rn, stepF, goF, askF, moveF, onF, inn, a1, ovr_one, Gv.rs, s1, of]
  rw [e2]
  exact Ev.now _
end Go.Proofs.Ytgkgnihjjabapaa.Pq
