/- OrderVisits: plain. -/
import Derived.Test.YtjfegfhhgekcfaaPv
import Derived.Test.YtjfegfhhgekcfaaXxL41OrderVisits
namespace Go.Proofs.Ytjfegfhhgekcfaa.Pure
open Go.RowKit Go.Proofs.Ytjfegfhhgekcfaa.X Go.Proofs.YtjfegfhhgekcfaaW.PrintWords Go.Proofs.YtjfegfhhgekcfaaW.PrintLast Go.Proofs.YtjfegfhhgekcfaaW.PrintMore Gv
/-- are there pictures of these sides? -/
def mayP (a b : Int) : Prop := 1 ≤ a ∧ a ≤ 8192 ∧ 1 ≤ b ∧ b ≤ 8192 ∧ a * b ≤ 65536
theorem mul_fit {a b : Int} (h1 : 1 ≤ a) (h2 : a ≤ 8192) (h3 : 1 ≤ b) (h4 : b ≤ 8192) : wrap64 (a * b) = a * b ∧ 0 ≤ a * b ∧ a * b ≤ 8192 * 8192 := by
  have q1 : 0 ≤ a * b := Int.mul_nonneg (by omega) (by omega)
  have q2 : a * b ≤ 8192 * 8192 := Int.mul_le_mul h2 h4 (by omega) (by omega)
  refine ⟨?_, q1, q2⟩
  generalize a * b = p at *
  exact wfit p q1 (by omega)
theorem may_yes {a b : Int} (h : mayP a b) : order_may.f a b = some 0 ∧ penumbraref41_May.f a b = some true := by
  obtain ⟨h1, h2, h3, h4, h5⟩ := h
  have e := (mul_fit h1 h2 h3 h4).1
  constructor
  · unfold order_may.f
    rw [if_neg (by unfold mn; split <;> omega), if_neg (by unfold mx; split <;> omega), e, if_neg (by omega)]
  · unfold penumbraref41_May.f
    rw [if_pos (by omega), if_pos (by omega), if_pos (by omega), if_pos (by omega), e, decide_eq_true (by omega)]
theorem may_no {a b : Int} (h : ¬ mayP a b) : order_may.f a b = some 12 ∧ penumbraref41_May.f a b = some false := by
  by_cases c : 1 ≤ a ∧ a ≤ 8192 ∧ 1 ≤ b ∧ b ≤ 8192
  · obtain ⟨h1, h2, h3, h4⟩ := c
    have e := (mul_fit h1 h2 h3 h4).1
    have h5 : ¬ a * b ≤ 65536 := fun z => h ⟨h1, h2, h3, h4, z⟩
    constructor
    · unfold order_may.f
      rw [if_neg (by unfold mn; split <;> omega), if_neg (by unfold mx; split <;> omega), e, if_pos (by omega)]
    · unfold penumbraref41_May.f
      rw [if_pos (by omega), if_pos (by omega), if_pos (by omega), if_pos (by omega), e, decide_eq_false (by omega)]
  · constructor
    · unfold order_may.f
      by_cases d : 1 ≤ a ∧ 1 ≤ b
      · rw [if_neg (by unfold mn; split <;> omega), if_pos (by unfold mx; split <;> omega)]
      · rw [if_pos (by unfold mn; split <;> omega)]
    · unfold penumbraref41_May.f
      by_cases d1 : a ≥ 1
      · rw [if_pos d1]
        by_cases d2 : b ≥ 1
        · rw [if_pos d2]
          by_cases d3 : a ≤ 8192
          · rw [if_pos d3, if_neg (by omega)]
          · rw [if_neg d3]
        · rw [if_neg d2]
      · rw [if_neg d1]
theorem square_ev (n : Int) (hn : n ≤ 8192) : ∀ d j, j + d = 13 → ∃ m, m ≤ 13 ∧ n ≤ ((2 ^ m : Nat) : Int) ∧ Ev (fun k => order_square.l0 k n ((2 ^ j : Nat) : Int)) ((2 ^ m : Nat) : Int) := by
  intro d
  induction d with
  | zero =>
    intro j hj
    have e : j = 13 := by omega
    subst e
    have h13 : ((2 ^ 13 : Nat) : Int) = 8192 := by decide
    exact ⟨13, by omega, by omega, Ev.step (fun _ => rfl) (neg (by omega) (Ev.now _))⟩
  | succ d ih =>
    intro j hj
    by_cases c : ((2 ^ j : Nat) : Int) < n
    · obtain ⟨m, h1, h2, h3⟩ := ih (j + 1) (by omega)
      refine ⟨m, h1, h2, Ev.step (fun _ => rfl) (pos c ?_)⟩
      have e : wrap64 (((2 ^ j : Nat) : Int) * 2) = ((2 ^ (j + 1) : Nat) : Int) := by
        rw [Nat.pow_succ]
        generalize 2 ^ j = q at *
        rw [wfit _ (by omega) (by omega)]
        omega
      rw [e]
      exact h3
    · exact ⟨j, by omega, by omega, Ev.step (fun _ => rfl) (neg c (Ev.now _))⟩
section
variable (x y : Int) (a b c : List Int) (i p q : Int) (k : Nat)
theorem v0 : penumbralaw41_OrderVisits.j0 (k + 1) x y a b c false = penumbralaw41_OrderVisits.l0 k x y a b c 0 := by
  rw [penumbralaw41_OrderVisits.j0, if_neg (by simp)]
theorem vl : penumbralaw41_OrderVisits.l0 (k + 1) x y a b c i = if i < (wrap64 (x * y)) then (if x = 0 then (none) else (if (Int.tmod (wrap64 (Int.tdiv i x)) 2) = 1 then (penumbralaw41_OrderVisits.j2 k x y a b c i (wrap64 ((wrap64 (x - 1)) - (Int.tmod i x))) (wrap64 (Int.tdiv i x))) else (penumbralaw41_OrderVisits.j2 k x y a b c i (Int.tmod i x) (wrap64 (Int.tdiv i x))))) else ((penumbralaw41_awake.f k).bind fun t115 => (some t115)) := by
  rw [penumbralaw41_OrderVisits.l0]
theorem v2 : penumbralaw41_OrderVisits.j2 (k + 1) x y a b c i p q = if 0 ≤ i then (if i < (b.length : Int) then (if (rd b i) = i then (if i < (c.length : Int) then (if (rd c i) = (wrap64 ((wrap64 (q * x)) + p)) then (if i < (a.length : Int) then (if (rd a i) < 0 then (penumbralaw41_OrderVisits.j3 k x y a b c i true) else (penumbralaw41_OrderVisits.j3 k x y a b c i (decide ((rd a i) ≥ (wrap64 (x * y)))))) else (none)) else (penumbralaw41_OrderVisits.j3 k x y a b c i true)) else (none)) else (penumbralaw41_OrderVisits.j3 k x y a b c i true)) else (none)) else (none) := by
  rw [penumbralaw41_OrderVisits.j2]
theorem v3 : penumbralaw41_OrderVisits.j3 (k + 1) x y a b c i false = if i > 0 then (if 0 ≤ (wrap64 (i - 1)) then (if (wrap64 (i - 1)) < (a.length : Int) then (if x = 0 then (none) else ((penumbraref41_Code.f k (Int.tmod (rd a (wrap64 (i - 1))) x) (wrap64 (Int.tdiv (rd a (wrap64 (i - 1))) x))).bind fun t122 => (if 0 ≤ i then (if i < (a.length : Int) then ((penumbraref41_Code.f k (Int.tmod (rd a i) x) (wrap64 (Int.tdiv (rd a i) x))).bind fun t125 => (if t122 ≥ t125 then (some false) else (penumbralaw41_OrderVisits.l0 k x y a b c (wrap64 (i + 1))))) else (none)) else (none)))) else (none)) else (none)) else (penumbralaw41_OrderVisits.l0 k x y a b c (wrap64 (i + 1))) := by
  rw [penumbralaw41_OrderVisits.j3, if_neg (by simp)]
end
theorem rd_nat (l : List Int) (i : Nat) : rd l (i : Int) = l.getD i 0 := by simp [rd]
theorem tdivn (i W : Nat) (h : i < 1000000000) : wrap64 (Int.tdiv (i : Int) (W : Int)) = ((i / W : Nat) : Int) := by
  rw [show Int.tdiv (i : Int) (W : Int) = ((i / W : Nat) : Int) from rfl]
  have h2 := Nat.div_le_self i W
  generalize i / W = u at h2 ⊢
  exact wfit _ (by omega) (by omega)
theorem tmodn (i W : Nat) : Int.tmod (i : Int) (W : Int) = ((i % W : Nat) : Int) := rfl
theorem code_at {W : Nat} (hW : 1 ≤ W) (hW2 : W ≤ 8192) (p : Nat) (hp : p < 65536) : Ev (fun k => penumbraref41_Code.f k (Int.tmod (p : Int) (W : Int)) (wrap64 (Int.tdiv (p : Int) (W : Int)))) (pc W (p : Int) : Int) := by
  rw [tmodn, tdivn p W (by omega)]
  have h1 := Nat.mod_lt p (show W > 0 by omega)
  have h2 := Nat.div_le_self p W
  exact rcode_ev 16 (p % W) (p / W) (by decide) (by rw [show (2 : Nat) ^ 16 = 65536 from by decide]; omega) (by rw [show (2 : Nat) ^ 16 = 65536 from by decide]; omega)
theorem visits_loop {W H : Nat} {a b c : List Int} (hW : 1 ≤ W) (hW2 : W ≤ 8192) (hn : W * H ≤ 65536) (ha : a.length = W * H) (hb : b.length = W * H) (hc : c.length = W * H)
    (hb2 : ∀ i, i < W * H → b.getD i 0 = (i : Int)) (hc2 : ∀ i, i < W * H → c.getD i 0 = (((i / W) * W + (if i / W % 2 = 1 then W - 1 - i % W else i % W) : Nat) : Int))
    (ha2 : ∀ i, i < W * H → ∃ p : Nat, a.getD i 0 = (p : Int) ∧ p < W * H) (ha3 : ∀ i, i + 1 < W * H → pc W (a.getD i 0) < pc W (a.getD (i + 1) 0)) : ∀ d i, i + d = W * H →
    Ev (fun k => penumbralaw41_OrderVisits.l0 k (W : Int) (H : Int) a b c (i : Int)) true := by
  have en : wrap64 ((W : Int) * (H : Int)) = ((W * H : Nat) : Int) := by
    rw [← Int.natCast_mul]
    exact wfit _ (by omega) (by omega)
  intro d
  induction d with
  | zero =>
    intro i hi
    refine Ev.step (fun k => vl (W : Int) (H : Int) a b c (i : Int) k) (neg (by rw [en]; omega) (Ev.bind awake41 (Ev.now _)))
  | succ d ih =>
    intro i hi
    have h := ih (i + 1) (by omega)
    have hlt : i < W * H := by omega
    generalize W * H = n at *
    -- behind the looks at the three lists
    have h3 : Ev (fun k => penumbralaw41_OrderVisits.j3 k (W : Int) (H : Int) a b c (i : Int) false) true := by
      refine Ev.step (fun k => v3 (W : Int) (H : Int) a b c (i : Int) k) ?_
      have es : wrap64 ((i : Int) + 1) = ((i + 1 : Nat) : Int) := suc (by omega)
      by_cases z : i = 0
      · refine neg (by omega) ?_
        rw [es]
        exact h
      · obtain ⟨j, hj⟩ : ∃ j, i = j + 1 := ⟨i - 1, by omega⟩
        subst hj
        have ep : wrap64 (((j + 1 : Nat) : Int) - 1) = (j : Int) := by rw [wfit _ (by omega) (by omega)]; omega
        obtain ⟨p, e1, e2⟩ := ha2 j (by omega)
        obtain ⟨q, e3, e4⟩ := ha2 (j + 1) hlt
        have e5 := ha3 j hlt
        rw [e1, e3] at e5
        refine pos (by omega) (pos (by rw [ep]; omega) (pos (by rw [ep]; omega) (neg (by omega) (Ev.bind (a := (pc W (p : Int) : Int)) ?_ (pos (by omega) (pos (by omega) (Ev.bind (a := (pc W (q : Int) : Int)) ?_ (neg (by omega) ?_))))))))
        · rw [ep, rd_nat, e1]
          exact code_at hW hW2 p (by omega)
        · rw [rd_nat, e3]
          exact code_at hW hW2 q (by omega)
        · rw [es]
          exact h
    have h2 : ∀ p q : Int, wrap64 (wrap64 (q * (W : Int)) + p) = c.getD i 0 → Ev (fun k => penumbralaw41_OrderVisits.j2 k (W : Int) (H : Int) a b c (i : Int) p q) true := by
      intro p q hpq
      obtain ⟨u, e1, e2⟩ := ha2 i hlt
      refine Ev.step (fun k => v2 (W : Int) (H : Int) a b c (i : Int) p q k) (pos (by omega) (pos (by omega) (pos (by rw [rd_nat]; exact hb2 i hlt) (pos (by omega) (pos (by rw [rd_nat]; exact hpq.symm) (pos (by omega) (neg (by rw [rd_nat, e1]; omega) ?_)))))))
      rw [rd_nat, e1, en, decide_eq_false (by omega)]
      exact h3
    have hd := Nat.div_add_mod i W
    have hm := Nat.mod_lt i (show W > 0 by omega)
    have hq : i / W * W ≤ i := Nat.div_mul_le_self i W
    have eq1 : ((i / W : Nat) : Int) * (W : Int) = ((i / W * W : Nat) : Int) := by simp
    refine Ev.step (fun k => vl (W : Int) (H : Int) a b c (i : Int) k) (pos (by rw [en]; omega) (neg (by omega) ?_))
    rw [tdivn i W (by omega), tmodn]
    by_cases o : i / W % 2 = 1
    · refine pos (by rw [show (2 : Int) = ((2 : Nat) : Int) from rfl, tmodn]; omega) (h2 _ _ ?_)
      rw [hc2 i hlt, if_pos o, eq1, wfit ((i / W * W : Nat) : Int) (by omega) (by omega), wfit ((W : Int) - 1) (by omega) (by omega), wfit ((W : Int) - 1 - ((i % W : Nat) : Int)) (by omega) (by omega), wfit _ (by omega) (by omega)]
      omega
    · refine neg (by rw [show (2 : Int) = ((2 : Nat) : Int) from rfl, tmodn]; omega) (h2 _ _ ?_)
      rw [hc2 i hlt, if_neg o, eq1, wfit ((i / W * W : Nat) : Int) (by omega) (by omega), wfit _ (by omega) (by omega)]
      omega
theorem getD_mem (l : List Int) (i : Nat) (h : i < l.length) : l.getD i 0 ∈ l := by
  rw [List.getD_eq_getElem?_getD, List.getElem?_eq_getElem h]
  exact List.getElem_mem h
theorem OrderVisits : penumbralaw41_OrderVisits.Pure := by
  unfold penumbralaw41_OrderVisits.Pure
  intro x y _ _
  refine Ev.rounds ?_
  unfold penumbralaw41_OrderVisits.f
  by_cases hM : mayP x y
  · obtain ⟨m1, m2⟩ := may_yes hM
    obtain ⟨h1, h2, h3, h4, h5⟩ := hM
    obtain ⟨W, rfl⟩ := Int.eq_ofNat_of_zero_le (show 0 ≤ x by omega)
    obtain ⟨H, rfl⟩ := Int.eq_ofNat_of_zero_le (show 0 ≤ y by omega)
    have hn : W * H ≤ 65536 := by rw [← Int.natCast_mul] at h5; omega
    have en : wrap64 ((W : Int) * (H : Int)) = ((W * H : Nat) : Int) := by
      rw [← Int.natCast_mul]
      exact wfit _ (by omega) (by omega)
    obtain ⟨m, hm, hge, hsq⟩ := square_ev (if (W : Int) < H then (H : Int) else W) (by split <;> omega) 13 0 (by omega)
    have hWm : W ≤ 2 ^ m := by split at hge <;> omega
    have hHm : H ≤ 2 ^ m := by split at hge <;> omega
    have eW : Ev (fun k => order_Winding.f k (W : Int) (H : Int)) (vis W H m 0 0, 0) := by
      unfold order_Winding.f windF
      rw [m1]
      refine Ev.bind (g := fun _ => some 0) (Ev.now _) (pos rfl (Ev.bind (a := ((2 ^ m : Nat) : Int)) hsq ?_))
      rw [show ((2 ^ m : Nat) : Int).toNat = 2 ^ m from Int.toNat_natCast _, Nat.log2_two_pow, Int.toNat_natCast, Int.toNat_natCast]
      exact Ev.now _
    have eR : Ev (fun k => order_Rows.f k (W : Int) (H : Int)) (rowsL (W * H), 0) := by
      unfold order_Rows.f
      rw [m1, en]
      exact Ev.bind (g := fun _ => some 0) (Ev.now _) (pos rfl (rows_loop (W * H) hn (W * H) 0 (by omega)))
    have eS : Ev (fun k => order_Snake.f k (W : Int) (H : Int)) (snTo (rowsL (W * H)) W (H / 2), 0) := by
      unfold order_Snake.f snakeF
      refine Ev.bind eR (pos rfl ?_)
      rw [Int.toNat_natCast, Int.toNat_natCast]
      exact Ev.now _
    have lV : (vis W H m 0 0).length = W * H := by
      rw [vis_len]
      have c1 : clip 0 W (2 ^ m) = W := by unfold clip; generalize 2 ^ m = u at *; omega
      have c2 : clip 0 H (2 ^ m) = H := by unfold clip; generalize 2 ^ m = u at *; omega
      rw [c1, c2]
    have lR := rowsL_length (W * H)
    have lS : (snTo (rowsL (W * H)) W (H / 2)).length = W * H := by rw [snTo_length, lR]
    refine Ev.bind eW (Ev.bind eR (Ev.bind eS (Ev.bind (g := fun _ => penumbraref41_May.f (W : Int) (H : Int)) (a := true) (by rw [m2]; exact Ev.now _) (pos rfl (pos rfl (pos rfl (pos rfl (pos (by rw [en, lV]) (pos (by rw [en, lR]) ?_)))))))))
    rw [en, lS, bne_self_eq_false]
    refine Ev.step (fun k => v0 (W : Int) (H : Int) _ _ _ k) (visits_loop (by omega) (by omega) hn lV lR lS (fun i hi => rowsL_at _ _ hi) (fun i hi => ?_) (fun i hi => vis_in W H m 0 0 _ (getD_mem _ _ (by omega))) (fun i hi => ?_) (W * H) 0 (by omega))
    · have hW0 : 0 < W := by omega
      have hd := Nat.div_add_mod i W
      have hmod := Nat.mod_lt i hW0
      have hy : i / W < H := Nat.div_lt_of_lt_mul hi
      have hs := sn_at (rowsL (W * H)) W H lR (i % W) hmod (H / 2) (Nat.le_refl _) (i / W) hy
      have hqq := Nat.mul_le_mul_right W (show i / W + 1 ≤ H by omega)
      rw [Nat.add_mul, Nat.one_mul, Nat.mul_comm H W] at hqq
      rw [Nat.mul_comm] at hd
      rw [hd] at hs
      rw [hs]
      by_cases o : i / W % 2 = 1
      · rw [if_pos ⟨o, by omega⟩, if_pos o, rowsL_at _ _ (by omega)]
      · rw [if_neg (by omega), if_neg o, rowsL_at _ _ hi, hd]
    · have hp := (vis_code W H m 0 0 (by omega)).2
      rw [Nat.mul_zero] at hp
      have h1 : i < (vis W H m 0 0).length := by omega
      have h2 : i + 1 < (vis W H m 0 0).length := by omega
      have := List.pairwise_iff_getElem.mp hp i (i + 1) h1 h2 (by omega)
      simpa [List.getD_eq_getElem?_getD, h1, h2] using this
  · obtain ⟨m1, m2⟩ := may_no hM
    have eW : Ev (fun k => order_Winding.f k x y) ([], 12) := by
      unfold order_Winding.f windF
      rw [m1]
      exact Ev.bind (g := fun _ => some 12) (Ev.now _) (neg (by decide) (Ev.now _))
    have eR : Ev (fun k => order_Rows.f k x y) ([], 12) := by
      unfold order_Rows.f
      rw [m1]
      exact Ev.bind (g := fun _ => some 12) (Ev.now _) (neg (by decide) (Ev.now _))
    have eS : Ev (fun k => order_Snake.f k x y) ([], 12) := by
      unfold order_Snake.f snakeF
      exact Ev.bind eR (neg (by decide) (Ev.now _))
    refine Ev.bind eW (Ev.bind eR (Ev.bind eS (Ev.bind (g := fun _ => penumbraref41_May.f x y) (a := false) (by rw [m2]; exact Ev.now _) (neg (by simp) (Ev.bind awake41 (pos rfl (pos rfl (pos rfl (pos rfl ?_)))))))))
    exact Ev.congr (f := fun _ => some true) (fun _ => by decide +kernel) (Ev.now _)
end Go.Proofs.Ytjfegfhhgekcfaa.Pure
