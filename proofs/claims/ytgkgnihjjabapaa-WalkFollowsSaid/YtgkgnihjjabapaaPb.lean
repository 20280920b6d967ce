/- What the functions of layer 31 tell, as plain tables. -/
import Derived.Test.YtgkgnihjjabapaaXxB31
import Derived.Test.YtgkgnihjjabapaaPa
import Derived.Test.YtgkgnihjjabapaaZb
namespace Go.Proofs.Ytgkgnihjjabapaa.Pb
open Go.RowKit Go.Proofs.Ytgkgnihjjabapaa.X Go.Proofs.YtgkgnihjjabapaaW.PrintWords Pl Gv Pa

theorem side_sq : ∀ n, n < 13 → 1 ≤ n → sideOf (n * n) = n := by decide
theorem side_of {n : Nat} {l : List Int} (h1 : 1 ≤ n) (h2 : n < 13) (h : l.length = n * n) : sideOf l.length = n := by rw [h]; exact side_sq n h2 h1
theorem side_len {l : List Int} (h : sideOf l.length ≠ 0) : l.length = sideOf l.length * sideOf l.length := (sideOf_sq _ h).symm
theorem byte_wf {c : Int} (h : (Lit.int .u8 c).wf = true) : 0 ≤ c ∧ c ≤ 255 := by
  simp [Lit.wf, IntKind.min, IntKind.max, IntKind.signed, IntKind.bits] at h
  omega
theorem natW {a : Nat} (h : a ≤ 9223372036854775807) : wrap64 (a : Int) = (a : Int) := wrap_id (by omega) (by omega)
theorem mulW (n i : Nat) (h : i * n ≤ 1000000) : wrap64 ((n : Int) * (i : Int)) = ((i * n : Nat) : Int) := by
  rw [show ((n : Int) * (i : Int)) = ((i * n : Nat) : Int) from by rw [Int.mul_comm]; simp]
  exact natW (by omega)
theorem mulW' (n i : Nat) (h : i * n ≤ 1000000) : wrap64 ((i : Int) * (n : Int)) = ((i * n : Nat) : Int) := by
  rw [show ((i : Int) * (n : Int)) = ((i * n : Nat) : Int) from by simp]
  exact natW (by omega)
theorem addW (a b : Nat) (h : a + b ≤ 1000000) : wrap64 ((a : Int) + (b : Int)) = ((a + b : Nat) : Int) := by
  rw [show ((a : Int) + (b : Int)) = ((a + b : Nat) : Int) from by simp]
  exact natW (by omega)
theorem sucW (a : Nat) (h : a ≤ 1000000) : wrap64 ((a : Int) + 1) = ((a + 1 : Nat) : Int) := wrap_id (by omega) (by omega)
theorem at_low {n i j : Nat} (h2 : n < 13) (hi : i < n) (hj : j < n) : i * n ≤ 144 ∧ i * n + j < n * n ∧ n * n ≤ 144 := by
  have hle : i * n + n ≤ n * n := by rw [← Nat.succ_mul]; exact Nat.mul_le_mul_right n (by omega)
  have hnn : n * n ≤ 12 * 12 := Nat.mul_le_mul (by omega) (by omega)
  omega
theorem Side_eq (l : List Int) : matrix_Side.f l = some ((sideOf l.length : Nat) : Int) := rfl

theorem Rests_loop (l : List Int) (hl : l.length ≤ 1000000) : ∀ (d i : Nat), i + d = l.length → Ev (fun k => penumbraref31_Rests.l0 k l ((l.take i).map of) (i : Int)) (l.map of) := by
  intro d
  induction d with
  | zero =>
    intro i hi
    refine Ev.step (fun k => by rw [penumbraref31_Rests.l0]) ?_
    rw [List.take_of_length_le (by omega)]
    exact ev_neg (by omega) (Ev.now _)
  | succ d ih =>
    intro i hi
    refine Ev.step (fun k => by rw [penumbraref31_Rests.l0]) ?_
    refine ev_pos (by omega) ?_
    refine ev_pos (by omega) ?_
    rw [ROf_eq]
    refine ev_some ?_
    refine ev_pos (by rw [List.length_map, List.length_take]; omega) ?_
    have e : (l.take i).map of ++ [of (rd l i)] = (l.take (i + 1)).map of := by
      rw [take_snoc l i (by omega), List.map_append]; rfl
    rw [wrap_id (n := (i : Int) + 1) (by omega) (by omega), e]
    exact ih (i + 1) (by omega)
theorem Rests_ev (l : List Int) (hl : l.length ≤ 1000000) : Ev (fun k => penumbraref31_Rests.f k l) (l.map of) := Rests_loop l hl l.length 0 (by omega)
end Go.Proofs.Ytgkgnihjjabapaa.Pb
