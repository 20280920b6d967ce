/- package cut: Term, times, Bound by hand. -/
import Derived.Test.YtgkncmnkbhgjmaaXxG36
import Derived.Deep.RegionHeld3
import Derived.BigQuiet
import Derived.Deep.QuietTactic
import Derived.RegionTactic
import Derived.OwnWalk
import Derived.Deep.AppendLies
import Derived.Laws.EntriesVeiled
import Derived.IntWalk
namespace Go.Proofs.Ytgkncmnkbhgjmaa.Gv
open Go.RowKit Go.Proofs.Ytgkncmnkbhgjmaa.X Go.Proofs.YtgkncmnkbhgjmaaW.PrintWords Go.Proofs.YtgkncmnkbhgjmaaW.PrintLast Go.Proofs.YtgkncmnkbhgjmaaW.PrintMore
theorem new_at' (w : World) (o : Obj) (b : Nat) (h : b = w.heap.size) : (w.alloc o).heap[b]? = some o := by rw [h]; exact (MapKept.heap_alloc w o).1
theorem new_older (w : World) (o u : Obj) (k : Nat) (h : w.heap[k]? = some u) : (w.alloc o).heap[k]? = some u := by
  have hk : k < w.heap.size := by
    cases Nat.lt_or_ge k w.heap.size with
    | inl h' => exact h'
    | inr h' => rw [Array.getElem?_eq_none h'] at h; cases h
  exact (Below.heap_alloc _ _ _ hk).trans h
/-- n, so many times multiplied -/
def pw (b : Int) : Nat → Int → Int
  | 0, n => n
  | k + 1, n => pw b k (wrap64 (n * b))
set_option maxHeartbeats 1000000 in
theorem times1_any (b n : Int) (m : Nat) (hm2 : m ≤ 1000000) (pm pb : Addr) (w : World) (hm : w.cell? pm = some (.int .i64 m)) (hb : w.cell? pb = some (.int .i64 b)) :
    Calls Try.prog 21 #[.int .i64 n, .pointer (some pm), .pointer (some pb)] w fun e w' => e = .returned (.int .i64 (pw b m n)) ∧ w = w' := by
  go_enter Try.func21, Try.ntmps21
  go_wp2
  go_loop [0, 6] (fun x i => ∃ (j : Nat) (z : Int), j ≤ m ∧ i = .int .i64 j ∧ x = .int .i64 z ∧ Aside0 (pw b (m - j) z = pw b m n)) (fun _ i => m - (intOf i).toNat)
  case atStart => exact ⟨0, n, Nat.zero_le _, rfl, rfl, ⟨rfl⟩⟩
  case round =>
    obtain ⟨j, z, hj, rfl, rfl, HZ⟩ := hrel
    by_cases hlt : j < m
    · have HS := Aside0.mk (show pw b (m - (j + 1)) (wrap64 (z * b)) = pw b m n from by
        have h := HZ.out
        rw [show m - j = (m - (j + 1)) + 1 from by omega, pw] at h
        exact h)
      go_wp2
      go_round
      case rel => exact ⟨j + 1, _, by omega, by go_num, rfl, HS⟩
      case measure => simp [intOf]; omega
    · have e : j = m := by omega
      have HE := Aside0.mk (show z = pw b m n from by have h := HZ.out; rw [e, Nat.sub_self, pw] at h; exact h)
      clear e
      go_wp2
      go_ret
      exact ⟨by rw [← HE.out]; rfl, rfl⟩
set_option maxHeartbeats 1000000 in
theorem times_any (b m : Int) (w : World) :
    Calls Try.prog 20 #[.int .i64 b, .int .i64 m] w fun e w' => e = .returned (.func (.func 21) #[] #[.pointer (some ⟨w.heap.size + 1, 0, none⟩), .pointer (some ⟨w.heap.size, 0, none⟩)]) ∧ (w.alloc (.cells #[.int .i64 b] 3)).alloc (.cells #[.int .i64 m] 3) = w' := by
  go_enter Try.func20, Try.ntmps20
  go_wp2
  go_ret
  exact ⟨rfl, rfl⟩
theorem within1 (lo hi a : Int) : cut_within.f 3 lo hi [a] = some (decide (lo ≤ a ∧ a ≤ hi)) := by
  have e : rd [a] 0 = a := rfl
  have w1 : wrap64 (0 + 1) = 1 := by decide +kernel
  unfold cut_within.f
  rw [cut_within.l0, if_pos (by simp), if_pos (by omega), if_pos (by simp), e]
  by_cases c1 : a < lo
  · rw [if_pos c1, decide_eq_false (by omega)]
  · rw [if_neg c1]
    by_cases c2 : a > hi
    · rw [if_pos c2, decide_eq_false (by omega)]
    · rw [if_neg c2, w1, cut_within.l0, if_neg (by simp), decide_eq_true (by omega)]
theorem within_lit (lo hi a : Int) (b : Bool) (hb : decide (lo ≤ a ∧ a ≤ hi) = b) (W : World) :
    Calls Try.prog 18 #[.int .i64 lo, .int .i64 hi, .slice (some ⟨W.heap.size, 0, none⟩) 1 1] (W.alloc (.cells #[.int .i64 a] 3)) fun e w' => e = .returned (.bool b) ∧ Below W.heap.size W w' := by
  have hC : Kd.C (Kd.int .i64) (W.alloc (.cells #[.int .i64 a] 3)) (some ⟨W.heap.size, 0, none⟩) [a].length [a] := by
    refine Kd.C_of_reads (h1 := fun _ => rfl) (d := (0 : Int)) ⟨rfl, by simp, fun _ => ⟨_, rfl, fun j hj => ?_⟩⟩
    simp only [List.length_cons, List.length_nil, Nat.zero_add] at hj
    have : j = 0 := by omega
    subst this
    exact (blk_cell (g := W.heap.size) (t := 3) (cs := #[.int .i64 a]) (MapKept.heap_alloc W _).1 0).trans rfl
  refine (cut_within.calls 3 lo hi _ 1 [a] b _ hC (by simp) (by rw [within1, hb])).mono ?_
  rintro e w' ⟨rfl, hd⟩
  have h1 : Below W.heap.size W (W.alloc (.cells #[.int .i64 a] 3)) := Below.alloc (Below.refl _ _) (Nat.le_refl _) _
  exact ⟨rfl, below_then h1 h1.size hd.below⟩
/-- cut.Bound's answer -/
def boundF (k : Nat) (e : List Int) (r a : Int) : Option Int := (cut_Most.f k e).bind fun m => if 0 ≤ a ∧ a ≤ 4 then (if 1024 < m then some 0 else (if 0 ≤ r ∧ r ≤ 1024 then some (pw r a.toNat m) else some 0)) else some 0
theorem boundF_mono (e : List Int) (r a : Int) (k : Nat) : LeO (boundF k e r a) (boundF (k + 1) e r a) := by
  unfold boundF
  exact LeO.bind (cut_Most.mono _ _) (fun _ => LeO.refl _)
set_option maxHeartbeats 2000000 in
theorem bound_any (k : Nat) (A0 : Option Addr) (c0 : Nat) (l0 : List Int) (r a z : Int) (w : World) (hr0 : Kd.C (Kd.int .i64) w A0 l0.length l0) (hc0 : l0.length ≤ c0) (h : boundF k l0 r a = some z) :
    Calls Try.prog 15 #[.slice A0 l0.length c0, .int .i64 r, .int .i64 a] w fun e w' => e = .returned (.int .i64 z) ∧ Below w.heap.size w w' := by
  unfold boundF at h
  obtain ⟨m, hm, h⟩ := Option.bind_eq_some_iff.mp h
  have HM := Aside0.mk (cut_Most.calls k A0 c0 l0 m w hr0 hc0 hm)
  clear hm hr0 hc0
  by_cases c1 : 0 ≤ a ∧ a ≤ 4
  · rw [if_pos c1] at h
    have W1 := Aside0.mk (within_lit 0 4 a true (decide_eq_true c1))
    obtain ⟨n, rfl⟩ := Int.eq_ofNat_of_zero_le c1.1
    have hn : n ≤ 4 := by omega
    clear c1
    by_cases c2 : 1024 < m
    · rw [if_pos c2] at h
      obtain rfl := Option.some.inj h
      have c2b : decide (1024 < m) = true := decide_eq_true c2
      clear h
      go_enter Try.func15, Try.ntmps15
      go_wp2_with (first | (go_at_call 13; refine HM.out.mono ?_; rintro e w1 ⟨rfl, hb1⟩) | (go_at_call 18; (with_reducible refine (W1.out _).mono ?_); rintro e w2 ⟨rfl, hb2⟩))
      go_ret
      exact ⟨rfl, below_then hb1 hb1.size hb2⟩
    · rw [if_neg c2] at h
      have c2b : decide (1024 < m) = false := decide_eq_false c2
      by_cases c3 : 0 ≤ r ∧ r ≤ 1024
      · rw [if_pos c3, Int.toNat_natCast] at h
        obtain rfl := Option.some.inj h
        have W2 := Aside0.mk (within_lit 0 1024 r true (decide_eq_true c3))
        clear h c3
        go_enter Try.func15, Try.ntmps15
        go_wp2_with (first | (go_at_call 13; refine HM.out.mono ?_; rintro e w1 ⟨rfl, hb1⟩) | (go_at_call 18; (with_reducible refine (W1.out _).mono ?_); rintro e w2 ⟨rfl, hb2⟩) | (go_at_call 18; (with_reducible refine (W2.out _).mono ?_); rintro e w3 ⟨rfl, hb3⟩) | (go_at_call 20; refine (times_any r n w3).mono ?_; rintro e w4 ⟨rfl, rfl⟩) | (go_at_call 21; refine (times1_any r m n (by omega) _ _ _ ?s1 ?s2).mono ?_; (case s1 => exact (blk_cell (new_at' _ _ _ (by simp)) 0).trans rfl); (case s2 => exact (blk_cell (new_older _ _ _ _ (MapKept.heap_alloc _ _).1) 0).trans rfl); rintro e w5 ⟨rfl, rfl⟩))
        go_ret
        exact ⟨rfl, Below.alloc (Below.alloc (below_then (below_then hb1 hb1.size hb2) (Nat.le_trans hb1.size hb2.size) hb3) (Nat.le_trans (Nat.le_trans hb1.size hb2.size) hb3.size) _) (by have := Nat.le_trans (Nat.le_trans hb1.size hb2.size) hb3.size; simp; omega) _⟩
      · rw [if_neg c3] at h
        obtain rfl := Option.some.inj h
        have W2 := Aside0.mk (within_lit 0 1024 r false (decide_eq_false c3))
        clear h c3
        go_enter Try.func15, Try.ntmps15
        go_wp2_with (first | (go_at_call 13; refine HM.out.mono ?_; rintro e w1 ⟨rfl, hb1⟩) | (go_at_call 18; (with_reducible refine (W1.out _).mono ?_); rintro e w2 ⟨rfl, hb2⟩) | (go_at_call 18; (with_reducible refine (W2.out _).mono ?_); rintro e w3 ⟨rfl, hb3⟩))
        go_ret
        exact ⟨rfl, below_then (below_then hb1 hb1.size hb2) (Nat.le_trans hb1.size hb2.size) hb3⟩
  · rw [if_neg c1] at h
    obtain rfl := Option.some.inj h
    have W1 := Aside0.mk (within_lit 0 4 a false (decide_eq_false c1))
    clear h c1
    go_enter Try.func15, Try.ntmps15
    go_wp2_with (first | (go_at_call 13; refine HM.out.mono ?_; rintro e w1 ⟨rfl, hb1⟩) | (go_at_call 18; (with_reducible refine (W1.out _).mono ?_); rintro e w2 ⟨rfl, hb2⟩))
    go_ret
    exact ⟨rfl, below_then hb1 hb1.size hb2⟩
end Go.Proofs.Ytgkncmnkbhgjmaa.Gv
