/- order.Winding. -/
import Derived.Test.YtjfegfhhgekcfaaGv
import Derived.Laws.EntriesVeiled
namespace Go.Proofs.Ytjfegfhhgekcfaa.Gv
open Go.RowKit Go.Proofs.Ytjfegfhhgekcfaa.X Go.Proofs.YtjfegfhhgekcfaaW.PrintWords Go.Proofs.YtjfegfhhgekcfaaW.PrintLast Go.Proofs.YtjfegfhhgekcfaaW.PrintMore
attribute [local go_sem] max2_int min2_int max_two min_two
theorem square_pow (n : Int) (hn : n ≤ 8192) : ∀ k j s, j ≤ 13 → order_square.l0 k n ((2 ^ j : Nat) : Int) = some s → ∃ m, m ≤ 13 ∧ s = ((2 ^ m : Nat) : Int) := by
  intro k
  induction k with
  | zero => intro j s _ h; simp [order_square.l0] at h
  | succ k ih =>
    intro j s hj h
    rw [order_square.l0] at h
    by_cases c : ((2 ^ j : Nat) : Int) < n
    · rw [if_pos c] at h
      have hj2 : j + 1 ≤ 13 := by
        by_cases e : j = 13
        · subst e
          exfalso
          have : ((2 ^ 13 : Nat) : Int) = 8192 := by decide
          omega
        · omega
      refine ih (j + 1) s hj2 ?_
      have hp : 2 ^ j ≤ 2 ^ 13 := Nat.pow_le_pow_right (by omega) hj
      have hp2 : (2 : Nat) ^ 13 = 8192 := by decide
      have e : wrap64 (((2 ^ j : Nat) : Int) * 2) = ((2 ^ (j + 1) : Nat) : Int) := by
        rw [Nat.pow_succ]; generalize 2 ^ j = q at hp ⊢; unfold wrap64; simp; omega
      rw [e] at h
      exact h
    · rw [if_neg c] at h
      exact ⟨j, hj, (Option.some.inj h).symm⟩
theorem new_at (w : World) (o : Obj) : (w.alloc o).heap[w.heap.size]? = some o := (MapKept.heap_alloc w o).1
theorem new_older (w : World) (o u : Obj) (k : Nat) (h : w.heap[k]? = some u) : (w.alloc o).heap[k]? = some u := by
  have hk : k < w.heap.size := by
    cases Nat.lt_or_ge k w.heap.size with
    | inl h' => exact h'
    | inr h' => rw [Array.getElem?_eq_none h'] at h; cases h
  exact (Below.heap_alloc _ _ _ hk).trans h
theorem VS.below {w w1 : World} {H0 W H bw bh bo bv : Nat} {xs : List Int} (h : VS w H0 W H bw bh bo bv xs) (hb : Below w.heap.size w w1) : VS w1 H0 W H bw bh bo bv xs := by
  obtain ⟨v0, hv0, ho⟩ := h.co
  have l := h.lt
  have s := h.hs
  exact ⟨(hb.block _ (by omega)).trans h.cw, (hb.block _ (by omega)).trans h.ch, (hb.block _ (by omega)).trans h.cv, ⟨v0, (hb.block _ (by omega)).trans hv0, pw_own_below ho hb⟩, Nat.le_trans s hb.size, l, h.ne⟩
theorem VS.drew {w : World} {H0 W H bw bh bo bv : Nat} {xs : List Int} (h : VS w H0 W H bw bh bo bv xs) : VS w.drew H0 W H bw bh bo bv xs := h.below (below_drew (Below.refl _ _))
theorem VS.drewN {w : World} {H0 W H bw bh bo bv : Nat} {xs : List Int} (h : VS w H0 W H bw bh bo bv xs) (m : Nat) : VS (w.drewN m) H0 W H bw bh bo bv xs := h.below (pw_below_drewN (Below.refl _ _) m)
theorem boxes_below {w w1 : World} {A B : Obj} (h : Below ((w.alloc A).alloc B).heap.size ((w.alloc A).alloc B) w1) : Below w.heap.size w w1 := by
  have h1 : Below w.heap.size w (w.alloc A) := Below.alloc (Below.refl _ _) (Nat.le_refl _) A
  have h2 : Below w.heap.size w ((w.alloc A).alloc B) := Below.alloc h1 h1.size B
  exact below_then h2 h2.size h
theorem VS_start {w w1 : World} {W H : Nat} (h : Below ((w.alloc (.cells #[.int .i64 W] 3)).alloc (.cells #[.int .i64 H] 3)).heap.size ((w.alloc (.cells #[.int .i64 W] 3)).alloc (.cells #[.int .i64 H] 3)) w1) :
    ∃ H0, VS ((w1.alloc (.cells #[.slice none 0 0] 30)).alloc (.cells #[.func (.func 24) #[] #[.pointer (some ⟨w.heap.size, 0, none⟩), .pointer (some ⟨w.heap.size + 1, 0, none⟩), .pointer (some ⟨w1.heap.size, 0, none⟩), .pointer (some ⟨w1.heap.size + 1, 0, none⟩)]] 43)) H0 W H w.heap.size (w.heap.size + 1) w1.heap.size (w1.heap.size + 1) []
      ∧ w.heap.size ≤ H0 ∧ w.heap.size ≤ w1.heap.size := by
  have hs := h.size
  simp at hs
  have e1 : ((w.alloc (.cells #[.int .i64 W] 3)).alloc (.cells #[.int .i64 H] 3)).heap[w.heap.size]? = some (.cells #[.int .i64 W] 3 (0, 0)) := new_older _ _ _ _ (new_at _ _)
  have e2 : ((w.alloc (.cells #[.int .i64 W] 3)).alloc (.cells #[.int .i64 H] 3)).heap[w.heap.size + 1]? = some (.cells #[.int .i64 H] 3 (0, 0)) := by
    have := new_at (w.alloc (.cells #[.int .i64 W] 3)) (.cells #[.int .i64 H] 3)
    simpa using this
  refine ⟨w1.heap.size + 2, ⟨?_, ?_, ?_, ⟨_, ?_, own_nil _ _ _ _⟩, ?_, ⟨by omega, by omega, by omega, by omega⟩, ⟨by omega, by omega, by omega⟩⟩, by omega, by omega⟩
  · exact new_older _ _ _ _ (new_older _ _ _ _ ((h.block _ (by simp; omega)).trans e1))
  · exact new_older _ _ _ _ (new_older _ _ _ _ ((h.block _ (by simp)).trans e2))
  · have := new_at (w1.alloc (.cells #[.slice none 0 0] 30)) (.cells #[.func (.func 24) #[] #[.pointer (some ⟨w.heap.size, 0, none⟩), .pointer (some ⟨w.heap.size + 1, 0, none⟩), .pointer (some ⟨w1.heap.size, 0, none⟩), .pointer (some ⟨w1.heap.size + 1, 0, none⟩)]] 43)
    simpa using this
  · exact new_older _ _ _ _ (new_at _ _)
  · simp
set_option maxHeartbeats 2000000 in
theorem wind_err (_k : Nat) (a b e0 : Int) (w : World) (hm : order_may.f a b = some e0) (h0 : e0 ≠ 0) :
    Calls Try.prog 10 #[.int .i64 a, .int .i64 b] w fun e w' => e = .returned (.tuple #[.slice none 0 0, .int .i64 e0]) ∧ Below w.heap.size w w' := by
  have HM := Aside0.mk hm
  have c1 : (e0 == 0) = false := by simpa using h0
  clear hm
  go_enter Try.func10, Try.ntmps10
  go_wp2_with (go_at_call 23; refine (order_may.calls _ _ e0 _ HM.out).mono ?_; rintro e w1 ⟨rfl, hb1⟩; have HB1 := Aside0.mk hb1; clear hb1)
  go_ret2
  exact ⟨rfl, boxes_below HB1.out⟩
theorem visit_p (w0 : World) (B H0 W H bw bh bo bv : Nat) (hb0 : B ≤ H0) (hb1 : B ≤ bo) (hW : W ≤ 8192) (hH : H ≤ 8192) (m p : Nat) (hp : p = 2 ^ m) (xs : List Int) (w : World) (h1 : m ≤ 13) (h4 : VS w H0 W H bw bh bo bv xs) (h5 : Below B w0 w) (h6 : xs.length + 4 ^ m ≤ 1000000000) :
    Calls Try.prog 24 #[.int .i64 0, .int .i64 0, .int .i64 p, .pointer (some ⟨bw, 0, none⟩), .pointer (some ⟨bh, 0, none⟩), .pointer (some ⟨bo, 0, none⟩), .pointer (some ⟨bv, 0, none⟩)] w fun e w' => e = .returned (.tuple #[]) ∧ VS w' H0 W H bw bh bo bv (xs ++ vis W H m 0 0) ∧ Below B w0 w' := by
  subst hp
  exact visit_any w0 B H0 W H bw bh bo bv hb0 hb1 hW hH m xs 0 0 w h1 (Nat.zero_le _) (Nat.zero_le _) h4 h5 h6
set_option maxHeartbeats 4000000 in
theorem wind_ok (k : Nat) (W H m : Nat) (w : World) (hW : W ≤ 8192) (hH : H ≤ 8192) (hm : order_may.f W H = some 0) (hk : m ≤ 13) (p : Nat) (hp : p = 2 ^ m) (q : Int) (hq : (if W < H then (H : Int) else (W : Int)) = q) (hs : order_square.f k q = some (p : Int)) :
    Calls Try.prog 10 #[.int .i64 W, .int .i64 H] w fun e w' => ∃ v : Value, e = .returned (.tuple #[v, .int .i64 0]) ∧ Kd.R (Kd.int .i64) 3 w' w.heap.size (fun _ => True) v (vis W H m 0 0) ∧ Below w.heap.size w w' := by
  have HM := Aside0.mk hm
  have HS := Aside0.mk hs
  have HP2 := Aside0.mk hp
  clear hm hs hp
  go_enter Try.func10, Try.ntmps10
  go_wp2_with (go_at_call 23; refine (order_may.calls _ _ 0 _ HM.out).mono ?_; rintro e w1 ⟨rfl, hb1⟩; have HB1 := Aside0.mk hb1; clear hb1)
  obtain ⟨H0, hV, hb0, hb2⟩ := VS_start HB1.out
  have hB : Below w.heap.size w ((w1.alloc (.cells #[.slice none 0 0] 30)).alloc (.cells #[.func (.func 24) #[] #[.pointer (some ⟨w.heap.size, 0, none⟩), .pointer (some ⟨w.heap.size + 1, 0, none⟩), .pointer (some ⟨w1.heap.size, 0, none⟩), .pointer (some ⟨w1.heap.size + 1, 0, none⟩)]] 43)) := by
    have h1 := boxes_below HB1.out
    have h2 := Below.alloc h1 h1.size (.cells #[.slice none 0 0] 30)
    exact Below.alloc h2 h2.size _
  revert hV hB
  generalize ((w1.alloc (.cells #[.slice none 0 0] 30)).alloc (.cells #[.func (.func 24) #[] #[.pointer (some ⟨w.heap.size, 0, none⟩), .pointer (some ⟨w.heap.size + 1, 0, none⟩), .pointer (some ⟨w1.heap.size, 0, none⟩), .pointer (some ⟨w1.heap.size + 1, 0, none⟩)]] 43)) = W0
  intro hV hB
  obtain ⟨g1, g2, g3⟩ := hV.cells
  have HV := Aside0.mk hV
  have HB := Aside0.mk hB
  have HP := Aside0.mk (show ([] : List Int).length + 4 ^ m ≤ 1000000000 from by have := Nat.pow_le_pow_right (show 0 < 4 by omega) hk; simp; omega)
  clear hV hB
  go_region_with ((first | (go_at_call 25; with_reducible refine (order_square.calls k _ _ _ HS.out).mono ?_; rintro e w2 ⟨rfl, m2, rfl⟩) | (go_at_call 24; with_reducible refine (visit_p w w.heap.size H0 W H _ _ _ _ hb0 hb2 hW hH m p HP2.out [] _ hk ?hv ?hbb HP.out).mono ?_; (case hv => first | exact HV.out.drew.drewN _ | exact HV.out.drewN _ | exact (HV.out.drewN _).drew); (case hbb => first | exact pw_below_drewN (below_drew HB.out) _ | exact pw_below_drewN HB.out _ | exact below_drew (pw_below_drewN HB.out _)); rintro e w3 ⟨rfl, hV3, hB3⟩; rw [List.nil_append] at hV3; obtain ⟨v3, hv3, ho3⟩ := hV3.co; obtain ⟨A3, c3, rfl⟩ := own_slice ho3; have g4 := (blk_cell hv3 0).trans rfl; have HO3 := Aside0.mk ho3; have HB3 := Aside0.mk hB3; clear hV3 hB3 hv3 ho3)))
  all_goals (go_wp2; go_ret2; exact ⟨_, rfl, Kd.R_of_own (own_weaken HO3.out hb0) (fun _ _ => trivial), HB3.out⟩)
end Go.Proofs.Ytjfegfhhgekcfaa.Gv
