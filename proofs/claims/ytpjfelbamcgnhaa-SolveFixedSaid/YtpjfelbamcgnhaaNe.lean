/- The document's determinant: plain. -/
import Derived.Test.YtpjfelbamcgnhaaXxE34
import Derived.Test.YtpjfelbamcgnhaaNd
namespace Go.Proofs.Ytpjfelbamcgnhaa.De
open Go.RowKit Go.Proofs.Ytpjfelbamcgnhaa.X Go.Proofs.YtpjfelbamcgnhaaW.PrintWords Pl Pa
set_option linter.unusedVariables false
/-- the first m columns of row i, without column j -/
def rowM (a : List Int) (n j i : Nat) : Nat → List Int
  | 0 => []
  | m + 1 => rowM a n j i m ++ (if m = j then [] else [a.getD (i * n + m) 0])
/-- rows 1 to r, without column j -/
def matM (a : List Int) (n j : Nat) : Nat → List Int
  | 0 => []
  | r + 1 => matM a n j r ++ rowM a n j (r + 1) n
theorem rowM_length (a : List Int) (n j i : Nat) : ∀ m, (rowM a n j i m).length = if j < m then m - 1 else m := by
  intro m
  induction m with
  | zero => rfl
  | succ m ih =>
    rw [rowM, List.length_append, ih]
    by_cases h : m = j
    · rw [if_pos h, if_neg (by omega), if_pos (by omega)]
      simp
    · rw [if_neg h]
      simp only [List.length_singleton]
      by_cases g : j < m
      · rw [if_pos g, if_pos (by omega)]; omega
      · rw [if_neg g, if_neg (by omega)]
theorem rowM_get (a : List Int) (n j i : Nat) : ∀ m c, sk j c < m → (rowM a n j i m).getD c 0 = a.getD (i * n + sk j c) 0 := by
  intro m
  induction m with
  | zero => intro c h; omega
  | succ m ih =>
    intro c h
    have hl := rowM_length a n j i m
    rw [rowM, List.getD_eq_getElem?_getD]
    by_cases g : sk j c < m
    · have hc : c < (rowM a n j i m).length := by
        rw [hl]
        unfold sk at g
        split at g <;> split <;> omega
      rw [List.getElem?_append_left hc, ← List.getD_eq_getElem?_getD]
      exact ih c g
    · have e : sk j c = m := by omega
      have hmj : m ≠ j := by unfold sk at e; split at e <;> omega
      have hc : c = (rowM a n j i m).length := by
        rw [hl]
        unfold sk at e
        split at e <;> split <;> omega
      rw [List.getElem?_append_right (by omega), hc, Nat.sub_self, if_neg hmj, ← hc, e]
      rfl
theorem matM_length (a : List Int) (n j : Nat) (hj : j < n) : ∀ r, (matM a n j r).length = r * (n - 1) := by
  intro r
  induction r with
  | zero => rw [Nat.zero_mul]; rfl
  | succ r ih => rw [matM, List.length_append, ih, rowM_length, if_pos hj, Nat.add_mul, Nat.one_mul]
theorem matM_get (a : List Int) (n j : Nat) (hj : j < n) : ∀ R r c, r < R → c < n - 1 → (matM a n j R).getD (r * (n - 1) + c) 0 = a.getD ((r + 1) * n + sk j c) 0 := by
  intro R
  induction R with
  | zero => intro r c h; omega
  | succ R ih =>
    intro r c hr hc
    have hl := matM_length a n j hj R
    rw [matM, List.getD_eq_getElem?_getD]
    by_cases g : r < R
    · have hlt : r * (n - 1) + c < (matM a n j R).length := by
        rw [hl]
        have h := Nat.mul_le_mul_right (n - 1) (show r + 1 ≤ R from g)
        rw [Nat.add_mul, Nat.one_mul] at h
        omega
      rw [List.getElem?_append_left hlt, ← List.getD_eq_getElem?_getD]
      exact ih r c g hc
    · obtain rfl : r = R := by omega
      rw [List.getElem?_append_right (by omega), hl, Nat.add_sub_cancel_left, ← List.getD_eq_getElem?_getD]
      exact rowM_get a n j (r + 1) n c (by unfold sk; split <;> omega)
/-- a list as a table -/
def Tl (a : List Int) (n : Nat) : Nat → Nat → Int := fun i k => a.getD (i * n + k) 0
theorem minor_det (a : List Int) (n j : Nat) (hj : j < n + 1) : det n (Tl (matM a (n + 1) j n) n) = det n (mi j (Tl a (n + 1))) :=
  det_congr n _ _ fun i k hi hk => matM_get a (n + 1) j hj n i k hi hk
theorem l2_ev (a : List Int) (N j i : Nat) (sum : Int) (P : List Int) (r : Int) (hN : N ≤ 12) (hi : i < N) (ha : a.length = N * N) (hP : P.length ≤ 1000) (hk : Ev (fun k => penumbraref34_Det.l1 k a (N : Int) sum (j : Int) (P ++ rowM a N j i N) ((i + 1 : Nat) : Int)) r) :
    ∀ d m, m + d = N → Ev (fun k => penumbraref34_Det.l2 k a (N : Int) sum (j : Int) (P ++ rowM a N j i m) (i : Int) (m : Int)) r := by
  have hq : i * N + N ≤ a.length := by
    rw [ha]
    have h := Nat.mul_le_mul_right N (show i + 1 ≤ N from hi)
    rw [Nat.add_mul, Nat.one_mul] at h
    exact h
  have hq2 : N * N ≤ 144 := Nat.mul_le_mul hN hN
  have w1 : Aside0 (wrap64 ((i : Int) * (N : Int)) = ((i * N : Nat) : Int)) := ⟨by rw [← Int.natCast_mul, wrap_id (by omega) (by omega)]⟩
  intro d
  induction d with
  | zero =>
    intro m hm
    obtain rfl : m = N := by omega
    have wi : Aside0 (wrap64 ((i : Int) + 1) = ((i + 1 : Nat) : Int)) := ⟨by rw [wrap_id (by omega) (by omega)]; omega⟩
    refine Ev.step (fun k => by rw [penumbraref34_Det.l2]) (ev_neg (by omega) ?_)
    rw [wi.out]
    exact hk
  | succ d ih =>
    intro m hm
    have wm : Aside0 (wrap64 ((m : Int) + 1) = ((m + 1 : Nat) : Int)) := ⟨by rw [wrap_id (by omega) (by omega)]; omega⟩
    have h := ih (m + 1) (by omega)
    refine Ev.step (fun k => by rw [penumbraref34_Det.l2]) (ev_pos (by omega) ?_)
    by_cases e : m = j
    · refine ev_pos (by omega) ?_
      rw [rowM, if_pos e, List.append_nil] at h
      rw [wm.out]
      exact h
    · have w2 : Aside0 (wrap64 (((i * N : Nat) : Int) + (m : Int)) = ((i * N + m : Nat) : Int)) := ⟨by rw [← Int.natCast_add, wrap_id (by omega) (by omega)]⟩
      have hl := rowM_length a N j i m
      refine ev_neg (by omega) ?_
      rw [w1.out, w2.out, wm.out]
      refine ev_pos (by omega) (ev_pos (by omega) (ev_pos ?_ ?_))
      · rw [List.length_append, hl]
        split <;> omega
      · rw [rowM, if_neg e, ← List.append_assoc] at h
        rw [rd, Int.toNat_natCast]
        exact h
/-- the rows of a minor -/
theorem l1_ev (a : List Int) (N j : Nat) (sum r : Int) (hN : N ≤ 12) (hj : j < N) (ha : a.length = N * N) (hk : Ev (fun k => penumbraref34_Det.l1 k a (N : Int) sum (j : Int) (matM a N j (N - 1)) (N : Int)) r) :
    ∀ d i, i + d = N - 1 → Ev (fun k => penumbraref34_Det.l1 k a (N : Int) sum (j : Int) (matM a N j i) ((i + 1 : Nat) : Int)) r := by
  intro d
  induction d with
  | zero =>
    intro i hi
    obtain rfl : i = N - 1 := by omega
    rw [show N - 1 + 1 = N by omega]
    exact hk
  | succ d ih =>
    intro i hi
    have hl := matM_length a N j hj i
    have hb : (matM a N j i).length ≤ 1000 := by
      rw [hl]
      have := Nat.mul_le_mul (show i ≤ 12 by omega) (show N - 1 ≤ 12 by omega)
      omega
    have h := l2_ev a N j (i + 1) sum (matM a N j i) r hN (by omega) ha hb (ih (i + 1) (by omega)) N 0 (by omega)
    rw [rowM, List.append_nil] at h
    refine Ev.step (fun k => by rw [penumbraref34_Det.l1]) (ev_pos (by omega) ?_)
    exact h
/-- the document's determinant -/
theorem rdet_ev : ∀ (n : Nat) (a : List Int), 1 ≤ n → n ≤ 12 → a.length = n * n → Ev (fun k => penumbraref34_Det.f k a (n : Int)) (of (det n (Tl a n))) := by
  intro n
  induction n with
  | zero => intro a h; omega
  | succ n ihn =>
    intro a _ h12 ha
    by_cases h0 : n = 0
    · subst h0
      have hl : a.length = 1 := by omega
      refine Ev.step (fun k => by rw [penumbraref34_Det.f]) (ev_pos (by omega) (ev_pos (by omega) ?_))
      rw [ROf_eq]
      have e : of (det (0 + 1) (Tl a (0 + 1))) = of (rd a 0) := by simp [det, S, sg, Tl, rd]
      rw [e]
      exact ev_some (Ev.now _)
    · obtain ⟨N, hN⟩ : ∃ N, n + 1 = N := ⟨_, rfl⟩
      have hsq : N ≤ N * N := by
        have := Nat.mul_le_mul_left N (show 1 ≤ N by omega)
        omega
      have hlen : N ≤ a.length := by rw [ha, hN]; exact hsq
      have key : ∀ d j, j + d = N → Ev (fun k => penumbraref34_Det.l0 k a (N : Int) (of (S j fun t => sg t * Tl a N 0 t * det n (mi t (Tl a N)))) (j : Int)) (of (S N fun t => sg t * Tl a N 0 t * det n (mi t (Tl a N)))) := by
        intro d
        induction d with
        | zero =>
          intro j hj
          obtain rfl : j = N := by omega
          exact Ev.step (fun k => by rw [penumbraref34_Det.l0]) (ev_neg (by omega) (Ev.now _))
        | succ d ih =>
          intro j hj
          have hj1 := ih (j + 1) (by omega)
          refine Ev.step (fun k => by rw [penumbraref34_Det.l0]) (ev_pos (by omega) ?_)
          have hmin : det n (Tl (matM a N j n) n) = det n (mi j (Tl a N)) := by rw [← hN]; exact minor_det a n j (by omega)
          have hml : (matM a N j n).length = n * n := by rw [matM_length a N j (by omega), ← hN]; rfl
          have hI := ihn (matM a N j n) (by omega) (by omega) hml
          rw [hmin] at hI
          have wn : Aside0 (wrap64 ((N : Int) - 1) = (n : Int)) := ⟨by rw [wrap_id (by omega) (by omega)]; omega⟩
          have wj : Aside0 (wrap64 ((j : Int) + 1) = ((j + 1 : Nat) : Int)) := ⟨by rw [wrap_id (by omega) (by omega)]; omega⟩
          have h := l1_ev a N j (of (S j fun t => sg t * Tl a N 0 t * det n (mi t (Tl a N)))) (of (S N fun t => sg t * Tl a N 0 t * det n (mi t (Tl a N)))) (by omega) (by omega) (by rw [ha, hN]) (by
            refine Ev.step (fun k => by rw [penumbraref34_Det.l1]) (ev_neg (by omega) (ev_pos (by omega) (ev_pos (by omega) ?_)))
            rw [wn.out, show N - 1 = n by omega]
            refine Ev.bind hI ?_
            rw [RMul_eq, wj.out]
            refine ev_some ?_
            have hrd : rd a (j : Int) = Tl a N 0 j := by unfold rd Tl; rw [Int.toNat_natCast, Nat.zero_mul, Nat.zero_add]
            rw [hrd]
            rw [S] at hj1
            by_cases hp : j % 2 = 0
            · refine ev_pos (by rw [show (2 : Int) = ((2 : Nat) : Int) from rfl, ← Int.ofNat_tmod]; omega) ?_
              rw [RAdd_eq]
              refine ev_some ?_
              have e : of (of (S j fun t => sg t * Tl a N 0 t * det n (mi t (Tl a N))) + of (Tl a N 0 j * of (det n (mi j (Tl a N))))) = of (S j (fun t => sg t * Tl a N 0 t * det n (mi t (Tl a N))) + sg j * Tl a N 0 j * det n (mi j (Tl a N))) := by
                have hs : sg j = 1 := by unfold sg; rw [if_pos hp]
                rw [hs, Int.one_mul]
                exact Cq.of_eq (Cq.add (Cq.o _) ((Cq.o _).trans (Cq.mul (Cq.refl _) (Cq.o _))))
              rw [e]
              exact hj1
            · refine ev_neg (by rw [show (2 : Int) = ((2 : Nat) : Int) from rfl, ← Int.ofNat_tmod]; omega) ?_
              rw [RSub_eq]
              refine ev_some ?_
              have e : of (of (S j fun t => sg t * Tl a N 0 t * det n (mi t (Tl a N))) - of (Tl a N 0 j * of (det n (mi j (Tl a N))))) = of (S j (fun t => sg t * Tl a N 0 t * det n (mi t (Tl a N))) + sg j * Tl a N 0 j * det n (mi j (Tl a N))) := by
                have hs : sg j = -1 := by unfold sg; rw [if_neg hp]
                rw [hs]
                exact Cq.of_eq ((Cq.sub (Cq.o _) ((Cq.o _).trans (Cq.mul (Cq.refl _) (Cq.o _)))).trans (Cq.of (by grind)))
              rw [e]
              exact hj1) (N - 1) 0 (by omega)
          exact h
      have h := key N 0 (by omega)
      rw [hN]
      refine Ev.step (fun k => by rw [penumbraref34_Det.f]) (ev_neg (by omega) ?_)
      have e2 : det N (Tl a N) = S N fun t => sg t * Tl a N 0 t * det n (mi t (Tl a N)) := by rw [← hN]; rfl
      rw [e2]
      exact h
end Go.Proofs.Ytpjfelbamcgnhaa.De
