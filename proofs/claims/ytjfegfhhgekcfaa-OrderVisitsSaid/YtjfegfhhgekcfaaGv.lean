/- order.Winding: the closure that visits quarters. -/
import Derived.Test.YtjfegfhhgekcfaaGsn
import Derived.WalkMore
import Derived.ScopeJumps
namespace Go.Proofs.Ytjfegfhhgekcfaa.Gv
open Go.RowKit Go.Proofs.Ytjfegfhhgekcfaa.X Go.Proofs.YtjfegfhhgekcfaaW.PrintWords Go.Proofs.YtjfegfhhgekcfaaW.PrintLast Go.Proofs.YtjfegfhhgekcfaaW.PrintMore

/-- the pixels of a quarter of side 2^m, by their codes -/
def vis (W H : Nat) : Nat → Nat → Nat → List Int
  | 0, x, y => if W ≤ x ∨ H ≤ y then [] else [((y * W + x : Nat) : Int)]
  | m + 1, x, y => if W ≤ x ∨ H ≤ y then [] else vis W H m x y ++ vis W H m (x + 2 ^ m) y ++ vis W H m x (y + 2 ^ m) ++ vis W H m (x + 2 ^ m) (y + 2 ^ m)
theorem vis_out {W H m x y : Nat} (h : W ≤ x ∨ H ≤ y) : vis W H m x y = [] := by
  cases m <;> (unfold vis; exact if_pos h)
theorem vis_length (W H : Nat) : ∀ m x y, (vis W H m x y).length ≤ 4 ^ m := by
  intro m
  induction m with
  | zero => intro x y; unfold vis; split <;> simp
  | succ m ih =>
    intro x y
    unfold vis
    split
    · simp
    · have h1 := ih x y
      have h2 := ih (x + 2 ^ m) y
      have h3 := ih x (y + 2 ^ m)
      have h4 := ih (x + 2 ^ m) (y + 2 ^ m)
      simp only [List.length_append]
      rw [Nat.pow_succ]
      omega
/-- one quarter -/
def qr (W H m x y k : Nat) : List Int := vis W H m (x + k % 2 * 2 ^ m) (y + k / 2 * 2 ^ m)
/-- the first k quarters -/
def qrs (W H m x y : Nat) : Nat → List Int
  | 0 => []
  | k + 1 => qrs W H m x y k ++ qr W H m x y k
theorem qrs_four {W H m x y : Nat} (h : ¬ (W ≤ x ∨ H ≤ y)) : qrs W H m x y 4 = vis W H (m + 1) x y := by
  rw [vis, if_neg h]
  simp [qrs, qr]
theorem qrs_length (W H m x y : Nat) : ∀ k, (qrs W H m x y k).length ≤ k * 4 ^ m
  | 0 => by simp [qrs]
  | k + 1 => by
    have h1 := qrs_length W H m x y k
    have h2 := vis_length W H m (x + k % 2 * 2 ^ m) (y + k / 2 * 2 ^ m)
    rw [qrs, List.length_append, Nat.add_mul, Nat.one_mul]
    unfold qr
    omega
/-- the boxes that the closure captured, and the row that grows -/
structure VS (w : World) (H0 W H bw bh bo bv : Nat) (xs : List Int) : Prop where
  cw : w.heap[bw]? = some (.cells #[.int .i64 W] 3 (0, 0))
  ch : w.heap[bh]? = some (.cells #[.int .i64 H] 3 (0, 0))
  cv : w.heap[bv]? = some (.cells #[.func (.func 24) #[] #[.pointer (some ⟨bw, 0, none⟩), .pointer (some ⟨bh, 0, none⟩), .pointer (some ⟨bo, 0, none⟩), .pointer (some ⟨bv, 0, none⟩)]] 43 (0, 0))
  co : ∃ v, w.heap[bo]? = some (.cells #[v] 30 (0, 0)) ∧ w.ownsRow H0 3 1 v xs.length (nums .i64 xs)
  hs : H0 ≤ w.heap.size
  lt : bw < H0 ∧ bh < H0 ∧ bo < H0 ∧ bv < H0
  ne : bw ≠ bo ∧ bh ≠ bo ∧ bv ≠ bo
theorem VS.cells {w : World} {H0 W H bw bh bo bv : Nat} {xs : List Int} (h : VS w H0 W H bw bh bo bv xs) :
    w.cell? ⟨bw, 0, none⟩ = some (.int .i64 W) ∧ w.cell? ⟨bh, 0, none⟩ = some (.int .i64 H) ∧ w.cell? ⟨bv, 0, none⟩ = some (.func (.func 24) #[] #[.pointer (some ⟨bw, 0, none⟩), .pointer (some ⟨bh, 0, none⟩), .pointer (some ⟨bo, 0, none⟩), .pointer (some ⟨bv, 0, none⟩)]) :=
  ⟨(blk_cell h.cw 0).trans rfl, (blk_cell h.ch 0).trans rfl, (blk_cell h.cv 0).trans rfl⟩
/-- the row has grown elsewhere, and the box holds it -/
theorem VS.put {w w1 : World} {H0 W H bw bh bo bv : Nat} {xs ys : List Int} {v : Value} (h : VS w H0 W H bw bh bo bv xs) (hb : Below H0 w w1) (ho : w1.ownsRow H0 3 1 v ys.length (nums .i64 ys)) : VS (w1.setCell ⟨bo, 0, none⟩ v) H0 W H bw bh bo bv ys := by
  obtain ⟨v0, hv0, _⟩ := h.co
  have l := h.lt
  have n := h.ne
  have hne : some bo ≠ v.ownBlock := fun e => by have := own_base ho bo e.symm; omega
  refine ⟨?_, ?_, ?_, ⟨v, ?_, own_setCell (p := ⟨bo, 0, none⟩) ho hne v⟩, ?_, l, n⟩
  · rw [Below.heap_setCell _ _ _ _ (show bw ≠ bo from n.1)]
    exact (hb.block _ l.1).trans h.cw
  · rw [Below.heap_setCell _ _ _ _ (show bh ≠ bo from n.2.1)]
    exact (hb.block _ l.2.1).trans h.ch
  · rw [Below.heap_setCell _ _ _ _ (show bv ≠ bo from n.2.2)]
    exact (hb.block _ l.2.2.2).trans h.cv
  · exact blk_put ((hb.block _ l.2.2.1).trans hv0) 0 v rfl
  · simpa using Nat.le_trans h.hs hb.size
set_option maxHeartbeats 1000000 in
theorem visit_out (H0 W H bw bh bo bv : Nat) (xs : List Int) (x y n : Nat) (w : World) (hV : VS w H0 W H bw bh bo bv xs) (h : W ≤ x ∨ H ≤ y) :
    Calls Try.prog 24 #[.int .i64 x, .int .i64 y, .int .i64 n, .pointer (some ⟨bw, 0, none⟩), .pointer (some ⟨bh, 0, none⟩), .pointer (some ⟨bo, 0, none⟩), .pointer (some ⟨bv, 0, none⟩)] w fun e w' => e = .returned (.tuple #[]) ∧ w = w' := by
  obtain ⟨k1, k2, _⟩ := hV.cells
  clear hV
  by_cases c : W ≤ x
  · have c1 : (W : Int) ≤ x := by omega
    clear c h
    go_enter Try.func24, Try.ntmps24
    go_step3
    go_wp2
    try rw [Exit.noGoto_ret]
    refine bodyPost_ret (results_none rfl _ _ _) rfl ?_
    exact ⟨rfl, rfl⟩
  · have c1 : (x : Int) < W := by omega
    have c2 : (H : Int) ≤ y := by omega
    clear c h
    go_enter Try.func24, Try.ntmps24
    go_step3
    go_wp2
    try rw [Exit.noGoto_ret]
    refine bodyPost_ret (results_none rfl _ _ _) rfl ?_
    exact ⟨rfl, rfl⟩
set_option maxHeartbeats 2000000 in
theorem visit_one (w0 : World) (B H0 W H bw bh bo bv : Nat) (xs : List Int) (x y : Nat) (w : World) (hV : VS w H0 W H bw bh bo bv xs) (hB : Below B w0 w) (hb0 : B ≤ H0) (hb1 : B ≤ bo)
    (hx : x < W) (hy : y < H) (hW : W ≤ 8192) (hH : H ≤ 8192) (hl : xs.length + 1 ≤ 1000000000) :
    Calls Try.prog 24 #[.int .i64 x, .int .i64 y, .int .i64 1, .pointer (some ⟨bw, 0, none⟩), .pointer (some ⟨bh, 0, none⟩), .pointer (some ⟨bo, 0, none⟩), .pointer (some ⟨bv, 0, none⟩)] w fun e w' => e = .returned (.tuple #[]) ∧ VS w' H0 W H bw bh bo bv (xs ++ [((y * W + x : Nat) : Int)]) ∧ Below B w0 w' := by
  obtain ⟨k1, k2, _⟩ := hV.cells
  obtain ⟨v, hc, hR⟩ := hV.co
  have k3 : w.cell? ⟨bo, 0, none⟩ = some v := (blk_cell hc 0).trans rfl
  have HV := Aside0.mk hV
  have HC := Aside0.mk hc
  have HR := Aside0.mk hR
  have HB := Aside0.mk hB
  have HL := Aside0.mk hV.lt
  have HS := Aside0.mk hV.hs
  have q1 : (0 : Int) ≤ (y : Int) * W := Int.mul_nonneg (by omega) (by omega)
  have q2 : (y : Int) * W ≤ 8192 * 8192 := Int.mul_le_mul (by omega) (by omega) (by omega) (by omega)
  have e1 : Aside0 ((y : Int) * W + x = ((y * W + x : Nat) : Int)) := Aside0.mk (by simp)
  clear hV hc hR hB
  go_enter Try.func24, Try.ntmps24
  go_step3
  go_wp2_with (at_builtin; refine print_append_num (w0 := w) H0 rfl (.tmp 23) (.tmp 29) 30 3 .i64 8 rfl Try.underlying30 info3 (by decide) v xs ((y : Int) * W + x) rfl rfl HR.out (Below.refl _ _) HS.out (by omega) ?_; intro v1 w1 hown hb hg hat; obtain ⟨A1, c1, rfl⟩ := own_slice hown; have HO := Aside0.mk hown; have HW := Aside0.mk hb; have k4 : w1.cell? ⟨bo, 0, none⟩ = some v := (hb.cell HL.out.2.2.1).trans k3; have k5 : w1.frozen? ⟨bo, 0, none⟩ = false := blk_frozen ((hb.block _ HL.out.2.2.1).trans HC.out) 0; clear hown hb hg hat)
  try rw [Exit.noGoto_ret]
  refine bodyPost_ret (results_none rfl _ _ _) rfl ?_
  refine ⟨rfl, ?_, ?_⟩
  · rw [← e1.out]
    have hh := VS.put HV.out HW.out HO.out
    simp only [List.length_append, List.length_cons, List.length_nil, Nat.zero_add] at hh
    exact hh
  · exact Below.setCell (HB.out.trans (HW.out.mono hb0)) (p := ⟨bo, 0, none⟩) hb1 _
set_option maxHeartbeats 4000000 in
theorem visit_any (w0 : World) (B H0 W H bw bh bo bv : Nat) (hb0 : B ≤ H0) (hb1 : B ≤ bo) (hW : W ≤ 8192) (hH : H ≤ 8192) : ∀ (m : Nat) (xs : List Int) (x y : Nat) (w : World), m ≤ 13 → x ≤ 8192 → y ≤ 8192 → VS w H0 W H bw bh bo bv xs → Below B w0 w → xs.length + 4 ^ m ≤ 1000000000 →
    Calls Try.prog 24 #[.int .i64 x, .int .i64 y, .int .i64 ((2 ^ m : Nat) : Int), .pointer (some ⟨bw, 0, none⟩), .pointer (some ⟨bh, 0, none⟩), .pointer (some ⟨bo, 0, none⟩), .pointer (some ⟨bv, 0, none⟩)] w fun e w' => e = .returned (.tuple #[]) ∧ VS w' H0 W H bw bh bo bv (xs ++ vis W H m x y) ∧ Below B w0 w' := by
  intro m
  induction m with
  | zero =>
    intro xs x y w _ hx hy hV hB hl
    by_cases h : W ≤ x ∨ H ≤ y
    · refine (visit_out H0 W H bw bh bo bv xs x y 1 w hV h).mono ?_
      rintro e w' ⟨rfl, rfl⟩
      rw [vis_out h, List.append_nil]
      exact ⟨rfl, hV, hB⟩
    · rw [vis, if_neg h]
      exact visit_one w0 B H0 W H bw bh bo bv xs x y w hV hB hb0 hb1 (by omega) (by omega) hW hH (by simpa using hl)
  | succ m ih =>
    intro xs x y w hm hx hy hV hB hl
    by_cases h : W ≤ x ∨ H ≤ y
    · refine (visit_out H0 W H bw bh bo bv xs x y (2 ^ (m + 1)) w hV h).mono ?_
      rintro e w' ⟨rfl, rfl⟩
      rw [vis_out h, List.append_nil]
      exact ⟨rfl, hV, hB⟩
    · have IH := Aside0.mk (fun xs x y w => ih xs x y w (by omega))
      obtain ⟨k1, k2, k3⟩ := hV.cells
      have Q4 := Aside0.mk (qrs_four (m := m) h)
      have QL := Aside0.mk (qrs_length W H m x y)
      have P4 := Aside0.mk (show xs.length + 4 * 4 ^ m ≤ 1000000000 from by rw [Nat.pow_succ] at hl; omega)
      have HV := Aside0.mk hV
      have HB := Aside0.mk hB
      have hp1 : 1 ≤ 2 ^ m := Nat.one_le_two_pow
      have hp2 : 2 ^ m ≤ 8192 := Nat.le_trans (Nat.pow_le_pow_right (by omega) (show m ≤ 13 by omega)) (by decide)
      have ep : ((2 ^ (m + 1) : Nat) : Int) = 2 * ((2 ^ m : Nat) : Int) := by rw [Nat.pow_succ, Nat.mul_comm]; simp
      rw [ep]
      clear ep hl ih hV hB
      obtain ⟨p, hp⟩ : ∃ p : Nat, p = 2 ^ m := ⟨_, rfl⟩
      have HP := Aside0.mk hp
      rw [← hp] at hp1 hp2
      rw [← hp]
      clear hp
      have c1 : ¬ W ≤ x := by omega
      have c2 : ¬ H ≤ y := by omega
      have c3 : (2 * (p : Int) == 1) = false := by simp; omega
      clear h
      go_enter Try.func24, Try.ntmps24
      go_step3
      go_wp2
      go_step3
      go_wp2
      go_loopw [33, 10, 11, 12] (fun i _ _ _ wr => ∃ k : Nat, k ≤ 4 ∧ i = .int .i64 k ∧ Aside0 (VS wr H0 W H bw bh bo bv (xs ++ qrs W H m x y k)) ∧ Aside0 (Below B w0 wr)) (fun i _ _ _ _ => 4 - (intOf i).toNat)
      case atStart => exact ⟨0, by omega, rfl, ⟨by rw [qrs, List.append_nil]; exact HV.out⟩, HB⟩
      case round =>
        obtain ⟨k, hk, rfl, HVk, HBk⟩ := hrel
        obtain ⟨j1, j2, j3⟩ := HVk.out.cells
        obtain rfl | rfl | rfl | rfl | rfl : k = 0 ∨ k = 1 ∨ k = 2 ∨ k = 3 ∨ k = 4 := by omega
        · have EQ : qr W H m x y 0 = vis W H m (x) (y) := by (first | rw [HP.out] | skip); simp [qr]
          have HQ := Aside0.mk (show qrs W H m x y (0 + 1) = qrs W H m x y 0 ++ vis W H m (x) (y) from by rw [← EQ]; rfl)
          clear EQ
          by_cases hq : W ≤ x ∨ H ≤ y
          · exfalso; omega
          · have HC := IH.out (xs ++ qrs W H m x y 0) (x) (y) wr (by omega) (by omega) HVk.out HBk.out (by have h1 := QL.out 0; have h2 := P4.out; rw [List.length_append]; omega)
            rw [← HP.out, List.append_assoc, ← HQ.out] at HC
            have HC := Aside0.mk HC
            go_wp2_with (go_at_call 24; refine HC.out.mono ?_; rintro e w5 ⟨rfl, hV5, hB5⟩; have HV5 := Aside0.mk hV5; have HB5 := Aside0.mk hB5; clear hV5 hB5)
            go_roundw
            case rel => first | exact ⟨0 + 1, by omega, rfl, HV5, HB5⟩ | exact ⟨0 + 1, by omega, rfl, HV5⟩ | exact ⟨_, _, _, _, ⟨0 + 1, by omega, rfl, HV5, HB5⟩, rfl, rfl, rfl, rfl⟩ | exact ⟨_, _, _, _, ⟨0 + 1, by omega, rfl, HV5⟩, rfl, rfl, rfl, rfl⟩
            case measure => simp [intOf]
        · have EQ : qr W H m x y 1 = vis W H m (x + p) (y) := by (first | rw [HP.out] | skip); simp [qr]
          have HQ := Aside0.mk (show qrs W H m x y (1 + 1) = qrs W H m x y 1 ++ vis W H m (x + p) (y) from by rw [← EQ]; rfl)
          clear EQ
          by_cases hq : W ≤ x + p ∨ H ≤ y
          · have HN := Aside0.mk (show qrs W H m x y (1 + 1) = qrs W H m x y 1 from by rw [HQ.out, vis_out hq, List.append_nil])
            go_wp2
            all_goals (go_roundw; (· first | exact ⟨1 + 1, by omega, rfl, ⟨by rw [HN.out]; exact HVk.out⟩, HBk⟩ | exact ⟨1 + 1, by omega, rfl, ⟨by rw [HN.out]; exact HVk.out⟩⟩ | exact ⟨_, _, _, _, ⟨1 + 1, by omega, rfl, ⟨by rw [HN.out]; exact HVk.out⟩, HBk⟩, rfl, rfl, rfl, rfl⟩ | exact ⟨_, _, _, _, ⟨1 + 1, by omega, rfl, ⟨by rw [HN.out]; exact HVk.out⟩⟩, rfl, rfl, rfl, rfl⟩); (· simp [intOf]))
          · have HC := IH.out (xs ++ qrs W H m x y 1) (x + p) (y) wr (by omega) (by omega) HVk.out HBk.out (by have h1 := QL.out 1; have h2 := P4.out; rw [List.length_append]; omega)
            rw [← HP.out, List.append_assoc, ← HQ.out] at HC
            have HC := Aside0.mk HC
            go_wp2_with (go_at_call 24; refine HC.out.mono ?_; rintro e w5 ⟨rfl, hV5, hB5⟩; have HV5 := Aside0.mk hV5; have HB5 := Aside0.mk hB5; clear hV5 hB5)
            go_roundw
            case rel => first | exact ⟨1 + 1, by omega, rfl, HV5, HB5⟩ | exact ⟨1 + 1, by omega, rfl, HV5⟩ | exact ⟨_, _, _, _, ⟨1 + 1, by omega, rfl, HV5, HB5⟩, rfl, rfl, rfl, rfl⟩ | exact ⟨_, _, _, _, ⟨1 + 1, by omega, rfl, HV5⟩, rfl, rfl, rfl, rfl⟩
            case measure => simp [intOf]
        · have EQ : qr W H m x y 2 = vis W H m (x) (y + p) := by (first | rw [HP.out] | skip); simp [qr]
          have HQ := Aside0.mk (show qrs W H m x y (2 + 1) = qrs W H m x y 2 ++ vis W H m (x) (y + p) from by rw [← EQ]; rfl)
          clear EQ
          by_cases hq : W ≤ x ∨ H ≤ y + p
          · have HN := Aside0.mk (show qrs W H m x y (2 + 1) = qrs W H m x y 2 from by rw [HQ.out, vis_out hq, List.append_nil])
            go_wp2
            all_goals (go_roundw; (· first | exact ⟨2 + 1, by omega, rfl, ⟨by rw [HN.out]; exact HVk.out⟩, HBk⟩ | exact ⟨2 + 1, by omega, rfl, ⟨by rw [HN.out]; exact HVk.out⟩⟩ | exact ⟨_, _, _, _, ⟨2 + 1, by omega, rfl, ⟨by rw [HN.out]; exact HVk.out⟩, HBk⟩, rfl, rfl, rfl, rfl⟩ | exact ⟨_, _, _, _, ⟨2 + 1, by omega, rfl, ⟨by rw [HN.out]; exact HVk.out⟩⟩, rfl, rfl, rfl, rfl⟩); (· simp [intOf]))
          · have HC := IH.out (xs ++ qrs W H m x y 2) (x) (y + p) wr (by omega) (by omega) HVk.out HBk.out (by have h1 := QL.out 2; have h2 := P4.out; rw [List.length_append]; omega)
            rw [← HP.out, List.append_assoc, ← HQ.out] at HC
            have HC := Aside0.mk HC
            go_wp2_with (go_at_call 24; refine HC.out.mono ?_; rintro e w5 ⟨rfl, hV5, hB5⟩; have HV5 := Aside0.mk hV5; have HB5 := Aside0.mk hB5; clear hV5 hB5)
            go_roundw
            case rel => first | exact ⟨2 + 1, by omega, rfl, HV5, HB5⟩ | exact ⟨2 + 1, by omega, rfl, HV5⟩ | exact ⟨_, _, _, _, ⟨2 + 1, by omega, rfl, HV5, HB5⟩, rfl, rfl, rfl, rfl⟩ | exact ⟨_, _, _, _, ⟨2 + 1, by omega, rfl, HV5⟩, rfl, rfl, rfl, rfl⟩
            case measure => simp [intOf]
        · have EQ : qr W H m x y 3 = vis W H m (x + p) (y + p) := by (first | rw [HP.out] | skip); simp [qr]
          have HQ := Aside0.mk (show qrs W H m x y (3 + 1) = qrs W H m x y 3 ++ vis W H m (x + p) (y + p) from by rw [← EQ]; rfl)
          clear EQ
          by_cases hq : W ≤ x + p ∨ H ≤ y + p
          · have HN := Aside0.mk (show qrs W H m x y (3 + 1) = qrs W H m x y 3 from by rw [HQ.out, vis_out hq, List.append_nil])
            go_wp2
            all_goals (go_roundw; (· first | exact ⟨3 + 1, by omega, rfl, ⟨by rw [HN.out]; exact HVk.out⟩, HBk⟩ | exact ⟨3 + 1, by omega, rfl, ⟨by rw [HN.out]; exact HVk.out⟩⟩ | exact ⟨_, _, _, _, ⟨3 + 1, by omega, rfl, ⟨by rw [HN.out]; exact HVk.out⟩, HBk⟩, rfl, rfl, rfl, rfl⟩ | exact ⟨_, _, _, _, ⟨3 + 1, by omega, rfl, ⟨by rw [HN.out]; exact HVk.out⟩⟩, rfl, rfl, rfl, rfl⟩); (· simp [intOf]))
          · have HC := IH.out (xs ++ qrs W H m x y 3) (x + p) (y + p) wr (by omega) (by omega) HVk.out HBk.out (by have h1 := QL.out 3; have h2 := P4.out; rw [List.length_append]; omega)
            rw [← HP.out, List.append_assoc, ← HQ.out] at HC
            have HC := Aside0.mk HC
            go_wp2_with (go_at_call 24; refine HC.out.mono ?_; rintro e w5 ⟨rfl, hV5, hB5⟩; have HV5 := Aside0.mk hV5; have HB5 := Aside0.mk hB5; clear hV5 hB5)
            go_roundw
            case rel => first | exact ⟨3 + 1, by omega, rfl, HV5, HB5⟩ | exact ⟨3 + 1, by omega, rfl, HV5⟩ | exact ⟨_, _, _, _, ⟨3 + 1, by omega, rfl, HV5, HB5⟩, rfl, rfl, rfl, rfl⟩ | exact ⟨_, _, _, _, ⟨3 + 1, by omega, rfl, HV5⟩, rfl, rfl, rfl, rfl⟩
            case measure => simp [intOf]
        · have HE := HVk.out
          rw [Q4.out] at HE
          have HE := Aside0.mk HE
          go_wp2
          try rw [Exit.noGoto_normal]
          go_end0
          exact ⟨rfl, HE.out, HBk.out⟩
end Go.Proofs.Ytjfegfhhgekcfaa.Gv
