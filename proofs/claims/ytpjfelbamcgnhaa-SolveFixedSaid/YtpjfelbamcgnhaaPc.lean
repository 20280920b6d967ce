/- What the functions of layer 32 tell, as plain tables. -/
import Derived.Test.YtpjfelbamcgnhaaXxC32
import Derived.Test.YtpjfelbamcgnhaaPb
namespace Go.Proofs.Ytpjfelbamcgnhaa.Pc
open Go.RowKit Go.Proofs.Ytpjfelbamcgnhaa.X Go.Proofs.YtpjfelbamcgnhaaW.PrintWords Pl Gv Pa Pb

def right (e t : List Int) : Prop := 1 ≤ e.length ∧ e.length ≤ 12 ∧ t.length = e.length * e.length
instance (e t : List Int) : Decidable (right e t) := by unfold right; exact inferInstance
theorem sq_le {n : Nat} (h : n ≤ 12) : n * n ≤ 144 := Nat.mul_le_mul h h
theorem right_side {e t : List Int} (h : right e t) : sideOf t.length = e.length := by rw [h.2.2]; exact side_sq _ (by have := h.2.1; omega) h.1
theorem Check_yes {e t : List Int} (h : right e t) : graph_Check.f e t = some ((e.length : Int), 0) := by
  obtain ⟨h1, h2, _⟩ := id h
  unfold graph_Check.f
  rw [if_neg (by omega), if_neg (by omega), Side_eq, right_side h]
  simp
theorem Check_no {e t : List Int} (h : ¬ right e t) : graph_Check.f e t = some (0, 14) := by
  unfold graph_Check.f
  by_cases c0 : e.length = 0
  · rw [if_pos (by omega)]
  · rw [if_neg (by omega)]
    by_cases c1 : e.length > 12
    · rw [if_pos (by omega)]
    · rw [if_neg (by omega), Side_eq, Option.bind_some]
      have hn : sideOf t.length ≠ e.length := by
        intro e2
        apply h
        refine ⟨by omega, by omega, ?_⟩
        rw [← e2]
        exact side_len (by omega)
      rw [if_neg (by omega)]
theorem Right_eq (e t : List Int) (ht : e.length ≤ 20) : penumbraref32_Right.f e t = some (decide (right e t)) := by
  unfold penumbraref32_Right.f
  have hw : wrap64 ((e.length : Int) * (e.length : Int)) = ((e.length * e.length : Nat) : Int) := mulW' _ _ (by have : e.length * e.length ≤ 20 * 20 := Nat.mul_le_mul ht ht; omega)
  rw [hw]
  by_cases c0 : 1 ≤ e.length
  · rw [if_pos (by omega)]
    by_cases c1 : e.length ≤ 12
    · rw [if_pos (by omega)]
      congr 1
      by_cases c2 : t.length = e.length * e.length
      · rw [decide_eq_true (show right e t from ⟨c0, c1, c2⟩), c2, beq_self_eq_true]
      · rw [decide_eq_false (fun h : right e t => c2 h.2.2)]
        exact beq_eq_false_iff_ne.2 (by omega)
    · rw [if_neg (by omega), decide_eq_false (fun h : right e t => c1 h.2.1)]
  · rw [if_neg (by omega), decide_eq_false (fun h : right e t => c0 h.1)]
theorem Few_eq (e t : List Int) : penumbraref32_Few.f e t = some (decide (e.length ≤ 20 ∧ t.length ≤ 200)) := by
  unfold penumbraref32_Few.f
  by_cases c0 : e.length ≤ 20
  · rw [if_pos (by omega)]
    congr 1
    exact decide_eq_decide.2 (by omega)
  · rw [if_neg (by omega), decide_eq_false (by omega)]
theorem Thrown_yes {e t l : List Int} (h : right e t) (hl : l.length = e.length) : Ev (fun k => graph_Thrown.f k e t l) (mv e.length t l, 0) := by
  unfold graph_Thrown.f
  rw [Check_yes h]
  refine ev_some ?_
  refine ev_pos rfl ?_
  refine Ev.bind (Apply_yes (n := e.length) (by have := h.1; omega) (right_side h) hl) ?_
  exact Ev.now _
theorem Thrown_len {e t l : List Int} (h : right e t) (hl : l.length ≠ e.length) : Ev (fun k => graph_Thrown.f k e t l) ([], 14) := by
  unfold graph_Thrown.f
  rw [Check_yes h]
  refine ev_some ?_
  refine ev_pos rfl ?_
  refine Ev.bind (Apply_no (.inr (by rw [right_side h]; exact fun e2 => hl e2.symm))) ?_
  exact Ev.now _
theorem Thrown_no {e t l : List Int} (h : ¬ right e t) : Ev (fun k => graph_Thrown.f k e t l) ([], 14) := by
  unfold graph_Thrown.f
  rw [Check_no h]
  refine ev_some ?_
  refine ev_neg (by decide) ?_
  exact Ev.now _
/-- e, and t applied to l -/
def nx (n : Nat) (e t l : List Int) : List Int := tab (fun i => of (e.getD i 0 + sm n fun k => el t n i k * l.getD k 0)) n
theorem nx_length (n : Nat) (e t l : List Int) : (nx n e t l).length = n := tab_length _ _
theorem nx_dark (n : Nat) (e t l : List Int) (h : ∀ i, e.getD i 0 = 0) : nx n e t l = mv n t l := by
  refine tab_congr fun i _ => ?_
  rw [h, Int.zero_add]
theorem RNext_in {n i : Nat} {e t l : List Int} (h2 : n < 13) (hi : i < n) (ht : t.length = n * n) (hl : l.length = n) {x : List Int} {r : List Int} (hx : x.length ≤ 100000)
    (hk : Ev (fun k => penumbraref32_Next.l0 k l (x ++ [of (e.getD i 0 + sm n fun k => el t n i k * l.getD k 0)]) (n : Int) ((i + 1 : Nat) : Int) e t) r) : ∀ (d j : Nat), j + d = n →
    Ev (fun k => penumbraref32_Next.l1 k l x (n : Int) (i : Int) (of (e.getD i 0 + sm j fun k => el t n i k * l.getD k 0)) (j : Int) e t) r := by
  intro d
  induction d with
  | zero =>
    intro j hj
    refine Ev.step (fun k => by rw [penumbraref32_Next.l1]) ?_
    refine ev_neg (by omega) ?_
    refine ev_pos (by omega) ?_
    rw [show j = n from by omega, sucW i (by omega)]
    exact hk
  | succ d ih =>
    intro j hj
    obtain ⟨b1, b2, b3⟩ := at_low h2 hi (show j < n from by omega)
    refine Ev.step (fun k => by rw [penumbraref32_Next.l1]) ?_
    refine ev_pos (by omega) ?_
    rw [mulW' n i (by omega), addW (i * n) j (by omega)]
    have c1 : (0 : Int) ≤ ((i * n + j : Nat) : Int) := Int.natCast_nonneg _
    have c2 : ((i * n + j : Nat) : Int) < (t.length : Int) := by rw [ht]; exact_mod_cast b2
    refine ev_pos c1 ?_
    refine ev_pos c2 ?_
    refine ev_pos (by omega) ?_
    refine ev_pos (by omega) ?_
    rw [RMul_eq]
    refine ev_some ?_
    rw [RAdd_eq]
    refine ev_some ?_
    rw [sucW j (by omega), of_add, Int.add_assoc]
    exact ih (j + 1) (by omega)
theorem RNext_loop {n : Nat} {e t l : List Int} (h2 : n < 13) (he : e.length = n) (ht : t.length = n * n) (hl : l.length = n) : ∀ (d i : Nat), i + d = n →
    Ev (fun k => penumbraref32_Next.l0 k l (tab (fun i => of (e.getD i 0 + sm n fun k => el t n i k * l.getD k 0)) i) (n : Int) (i : Int) e t) (nx n e t l) := by
  intro d
  induction d with
  | zero =>
    intro i hi
    refine Ev.step (fun k => by rw [penumbraref32_Next.l0]) ?_
    rw [show i = n from by omega]
    exact ev_neg (by omega) (Ev.now _)
  | succ d ih =>
    intro i hi
    refine Ev.step (fun k => by rw [penumbraref32_Next.l0]) ?_
    refine ev_pos (by omega) ?_
    refine ev_pos (by omega) ?_
    refine ev_pos (by omega) ?_
    rw [ROf_eq]
    refine ev_some ?_
    have := RNext_in (e := e) h2 (show i < n from by omega) ht hl (x := tab (fun i => of (e.getD i 0 + sm n fun k => el t n i k * l.getD k 0)) i) (r := nx n e t l) (by rw [tab_length]; omega) (by rw [← tab_succ]; exact ih (i + 1) (by omega)) n 0 (by omega)
    rw [show (sm 0 fun k => el t n i k * l.getD k 0) = 0 from rfl, Int.add_zero] at this
    exact this
theorem RNext_ev {e t l : List Int} (h : right e t) (hl : l.length = e.length) : Ev (fun k => penumbraref32_Next.f k e t l) (nx e.length e t l) := RNext_loop (n := e.length) (by have := h.2.1; omega) rfl h.2.2 hl e.length 0 (by omega)
/-- t applied, k times over -/
def itv (n : Nat) (t : List Int) : Nat → List Int → List Int
  | 0, l => l
  | k + 1, l => itv n t k (mv n t l)
theorem itv_length {n : Nat} {t : List Int} (k : Nat) : ∀ l, l.length = n → (itv n t k l).length = n := by
  induction k with
  | zero => intro l h; exact h
  | succ k ih => intro l h; rw [itv]; exact ih _ (mv_length _ _ _)
theorem itv_succ (n : Nat) (t : List Int) (k : Nat) : ∀ l, itv n t (k + 1) l = mv n t (itv n t k l) := by
  induction k with
  | zero => intro l; rfl
  | succ k ih => intro l; exact ih (mv n t l)
theorem Term_loop {e t : List Int} (h : right e t) {m : Nat} (hm : m ≤ 100000) : ∀ (d i : Nat) (l : List Int), i + d = m → l.length = e.length → Ev (fun k => graph_Term.l0 k l (m : Int) (i : Int) e t) (itv e.length t d l, 0) := by
  intro d
  induction d with
  | zero =>
    intro i l hi hl
    refine Ev.step (fun k => by rw [graph_Term.l0]) ?_
    exact ev_neg (by omega) (Ev.now _)
  | succ d ih =>
    intro i l hi hl
    refine Ev.step (fun k => by rw [graph_Term.l0]) ?_
    refine ev_pos (by omega) ?_
    refine Ev.bind (Thrown_yes h hl) ?_
    rw [sucW i (by omega)]
    exact ih (i + 1) _ (by omega) (mv_length _ _ _)
theorem Term_yes {e t : List Int} (h : right e t) {m : Nat} (hm : m ≤ 1024) : Ev (fun k => graph_Term.f k e t (m : Int)) (itv e.length t m (e.map of), 0) := by
  unfold graph_Term.f
  rw [Check_yes h]
  refine ev_some ?_
  refine ev_pos rfl ?_
  refine ev_neg (by omega) ?_
  rw [show decide ((m : Int) > 1024) = false from decide_eq_false (by omega)]
  refine Ev.step (fun k => by rw [graph_Term.j0]) ?_
  refine ev_neg (by decide) ?_
  refine Ev.bind (Clean_ev e (by have := h.2.1; omega)) ?_
  exact Term_loop h (by omega) m 0 _ (by omega) (by rw [List.length_map])
theorem Term_range {e t : List Int} (h : right e t) {m : Int} (hm : m < 0 ∨ 1024 < m) : Ev (fun k => graph_Term.f k e t m) ([], 3) := by
  have fin : Ev (fun k => graph_Term.j0 k m true e t) ([], 3) := by
    refine Ev.step (fun k => by rw [graph_Term.j0]) ?_
    exact ev_pos rfl (Ev.now _)
  unfold graph_Term.f
  rw [Check_yes h]
  refine ev_some ?_
  refine ev_pos rfl ?_
  by_cases c : m < 0
  · exact ev_pos c fin
  · refine ev_neg c ?_
    rw [show decide (m > 1024) = true from decide_eq_true (by omega)]
    exact fin
theorem Term_no {e t : List Int} (h : ¬ right e t) (m : Int) : Ev (fun k => graph_Term.f k e t m) ([], 14) := by
  unfold graph_Term.f
  rw [Check_no h]
  refine ev_some ?_
  refine ev_neg (by decide) ?_
  exact Ev.now _
theorem zeros_at (n i : Nat) : (List.replicate n (0 : Int)).getD i 0 = 0 := by
  by_cases h : i < n
  · simp [List.getD_eq_getElem?_getD, h]
  · simp [List.getD_eq_getElem?_getD, h]
theorem RTerm_loop {n : Nat} {t : List Int} {m : Nat} (hn : 1 ≤ n ∧ n ≤ 12) (ht : t.length = n * n) (hm : m ≤ 100000) : ∀ (d i : Nat) (l : List Int), i + d = m → l.length = n → Ev (fun k => penumbraref32_Term.l1 k (m : Int) l (i : Int) (List.replicate n 0) t) (itv n t d l) := by
  intro d
  induction d with
  | zero =>
    intro i l hi hl
    refine Ev.step (fun k => by rw [penumbraref32_Term.l1]) ?_
    exact ev_neg (by omega) (Ev.now _)
  | succ d ih =>
    intro i l hi hl
    refine Ev.step (fun k => by rw [penumbraref32_Term.l1]) ?_
    refine ev_pos (by omega) ?_
    have hr : right (List.replicate n 0) t := ⟨by rw [List.length_replicate]; omega, by rw [List.length_replicate]; omega, by rw [List.length_replicate]; exact ht⟩
    have := RNext_ev (l := l) hr (by rw [List.length_replicate]; exact hl)
    rw [List.length_replicate, nx_dark _ _ _ _ (zeros_at n)] at this
    refine Ev.bind this ?_
    rw [sucW i (by omega)]
    exact ih (i + 1) _ (by omega) (mv_length _ _ _)
theorem RTerm_dark {e t : List Int} (h : right e t) {m : Nat} (hm : m ≤ 100000) : ∀ (d i : Nat), i + d = e.length → Ev (fun k => penumbraref32_Term.l0 k (m : Int) (i : Int) e t (List.replicate i 0) t) (itv e.length t m (e.map of)) := by
  have h2 := h.2.1
  intro d
  induction d with
  | zero =>
    intro i hi
    refine Ev.step (fun k => by rw [penumbraref32_Term.l0]) ?_
    refine ev_neg (by omega) ?_
    refine Ev.bind (Rests_ev e (by omega)) ?_
    rw [show i = e.length from by omega]
    exact RTerm_loop ⟨h.1, h.2.1⟩ h.2.2 hm m 0 _ (by omega) (by rw [List.length_map])
  | succ d ih =>
    intro i hi
    refine Ev.step (fun k => by rw [penumbraref32_Term.l0]) ?_
    refine ev_pos (by omega) ?_
    refine ev_pos (by rw [List.length_replicate]; omega) ?_
    rw [sucW i (by omega), ← List.replicate_succ']
    exact ih (i + 1) (by omega)
theorem RTerm_ev {e t : List Int} (h : right e t) {m : Nat} (hm : m ≤ 100000) : Ev (fun k => penumbraref32_Term.f k e t (m : Int)) (itv e.length t m (e.map of)) := RTerm_dark h hm e.length 0 (by omega)
end Go.Proofs.Ytpjfelbamcgnhaa.Pc
