/- Is there one draw in each part: the walk of Even. -/
import Derived.Test.YtkmdbidjdppdnaaQd
namespace Go.Proofs.Ytkmdbidjdppdnaa.Gv
open Go.RowKit Go.Proofs.Ytkmdbidjdppdnaa.X Go.Proofs.YtkmdbidjdppdnaaW.PrintWords Go.Proofs.YtkmdbidjdppdnaaW.PrintLast Go.Proofs.YtkmdbidjdppdnaaW.PrintMore
set_option linter.unusedVariables false
set_option linter.unusedSimpArgs false
def allOne (l : List Int) : Bool := l.all (· == 1)
theorem allOne_drop (l : List Int) (k : Nat) (h : k < l.length) : allOne (l.drop k) = (l.getD k 0 == 1 && allOne (l.drop (k + 1))) := by
  unfold allOne
  rw [List.drop_eq_getElem_cons h, List.all_cons, List.getD_eq_getElem?_getD, List.getElem?_eq_getElem h]
  rfl
theorem ret_b' {a b : Bool} (h : a = b) : Ending.returned (.bool a) = .returned (.bool b) := by rw [h]
theorem even_no (n : Int) (h : n < 1 ∨ 64 < n) (A : Option Addr) (L c : Nat) (w : World) :
    Calls Try.prog 10 #[.int .i64 n, .slice A L c] w fun e w' => e = .returned (.bool false) ∧ Below w.heap.size w w' := by
  go_enter Try.func10, Try.ntmps10
  go_wp2
  go_step3
  go_wp2_with (go_at_call 19; refine (cells_no n h A L c _).mono ?_; rintro e w' ⟨rfl, rfl⟩)
  go_step3
  go_wp2
  go_loopw [6, 17] (fun a k' wr => a = .bool false ∧ k' = .int .i64 0 ∧ wr = w) (fun _ k' _ => 0)
  case atStart => exact ⟨rfl, rfl, rfl⟩
  case round =>
    obtain ⟨rfl, rfl, rfl⟩ := hrel
    go_wp2
    try rw [Exit.noGoto_ret]
    go_ret
    exact ⟨rfl, Below.refl _ _⟩
set_option maxHeartbeats 4000000 in
theorem even_any (n : Nat) (h1 : 1 ≤ n) (h2 : n ≤ 64) (A : Option Addr) (c : Nat) (l : List (Nat × Nat)) (w : World) (hr : PK.C w A l.length l) (hl : l.length ≤ 1000000) :
    Calls Try.prog 10 #[.int .i64 (n : Int), .slice A l.length c] w fun e w' => e = .returned (.bool (allOne (cellsL n l l.length))) ∧ Below w.heap.size w w' := by
  have hnn : n * n ≤ 4096 := Nat.mul_le_mul h2 h2
  have hpos : 1 ≤ n * n := Nat.mul_pos h1 h1
  have HC := Aside0.mk (cells_any n h1 h2 A c l w hr hl)
  have hlen := cellsL_length n l l.length
  obtain ⟨q, hq⟩ : ∃ q, n * n = q := ⟨_, rfl⟩
  rw [hq] at hnn hpos HC hlen
  generalize cellsL n l l.length = cs at *
  have hgt : decide ((q : Int) > 0) = true := decide_eq_true (by omega)
  clear hr hq
  go_enter Try.func10, Try.ntmps10
  go_wp2
  go_step3
  go_wp2_with (go_at_call 19; refine HC.out.mono ?_; rintro e w2 ⟨g, rfl, hg, ho, hb⟩; have HO := Aside0.mk ho; have HB := Aside0.mk hb; clear ho hb)
  go_step3
  go_wp2
  go_loopw [6, 17] (fun a k' wr => ∃ k : Nat, k ≤ q ∧ .bool true = a ∧ .int .i64 (k : Int) = k' ∧ Aside0 (allOne cs = allOne (cs.drop k)) ∧ wr = w2) (fun _ k' _ => q - (intOf k').toNat)
  case atStart => exact ⟨0, Nat.zero_le _, by simp; omega, rfl, ⟨rfl⟩, rfl⟩
  case round =>
    obtain ⟨k, hk, rfl, rfl, ha, rfl⟩ := hrel
    by_cases hlt : k < q
    · have z0 : (0 : Int) ≤ (k : Int) := by omega
      have z1 : (k : Int) < (q : Int) := by omega
      obtain ⟨hy, -⟩ := Kd.R_celln 0 HO.out (k : Int) z0 z1
      rw [Int.toNat_natCast] at hy
      have Y : rdOf 0 cs (k : Int) = cs.getD k 0 := by unfold rdOf; rw [Int.toNat_natCast]
      rw [Y] at hy
      have HD := Aside0.mk (allOne_drop cs k (by omega))
      clear Y
      generalize cs.getD k 0 = y at *
      by_cases hy1 : y = 1
      · have e2 : (y != 1) = false := bne_eq_false_iff_eq.mpr hy1
        have HY := Aside0.mk hy1
        clear hy1
        go_wp2
        go_roundw
        case rel => exact ⟨k + 1, by omega, rfl, by go_num, ⟨by rw [ha.out, HD.out, HY.out]; rfl⟩, (by first | rfl | trivial)⟩
        case measure => simp [intOf]; omega
      · have e2 : (y != 1) = true := bne_iff_ne.mpr hy1
        have HY := Aside0.mk (show (y == 1) = false from beq_eq_false_iff_ne.mpr hy1)
        clear hy1
        go_wp2
        try rw [Exit.noGoto_ret]
        go_ret
        exact ⟨ret_b' (by rw [ha.out, HD.out, HY.out]; rfl), HB.out⟩
    · have hkq : k = q := by omega
      have HE := Aside0.mk hkq
      have HN := Aside0.mk hlen
      clear hkq
      go_wp2
      try rw [Exit.noGoto_ret]
      go_ret
      exact ⟨ret_b' (by rw [ha.out, List.drop_eq_nil_of_le (by rw [HN.out, HE.out]; exact Nat.le_refl _)]; rfl), HB.out⟩
end Go.Proofs.Ytkmdbidjdppdnaa.Gv
