/- Contracts of package matrix's functions that take or make function values. -/
import Derived.Test.YtgkgnihjjabapaaGa
import Derived.Deep.RegionHeld3
import Derived.BigQuiet
import Derived.Handy
import Derived.RegionTactic
import Derived.OwnWalk
namespace Go.Proofs.Ytgkgnihjjabapaa.Gv
open Go.RowKit Go.Proofs.YtgkgnihjjabapaaW.PrintWords Pl




/-- the side of a table of so many numbers; 0: it is none -/
def sideFrom (N : Nat) : Nat → Nat → Nat
  | 0, _ => 0
  | f + 1, m => if m * m = N then m else sideFrom N f (m + 1)
def sideOf (N : Nat) : Nat := sideFrom N 12 1
theorem sideOf_range (N : Nat) : sideOf N ≤ 12 := by
  have key : ∀ f m, f + m ≤ 13 → sideFrom N f m ≤ 12 := by
    intro f
    induction f with
    | zero => intro m _; simp [sideFrom]
    | succ f ih => intro m h; unfold sideFrom; split; omega; exact ih _ (by omega)
  exact key 12 1 (by omega)
theorem sideOf_sq (N : Nat) : sideOf N ≠ 0 → sideOf N * sideOf N = N := by
  have key : ∀ f m, sideFrom N f m ≠ 0 → sideFrom N f m * sideFrom N f m = N := by
    intro f
    induction f with
    | zero => intro m h; simp [sideFrom] at h
    | succ f ih => intro m; unfold sideFrom; split; · intro _; assumption
                   · exact ih _
  exact key 12 1
set_option maxHeartbeats 1000000 in
theorem Side_any (A : Option Addr) (c N : Nat) (w : World) : Calls Try.prog 43 #[.slice A N c] w fun e w' => e = .returned (.int .i64 (sideOf N)) ∧ w = w' := by
  go_enter Try.func43, Try.ntmps43
  go_wp2
  go_loop [3] (fun i => ∃ f m : Nat, f + m = 13 ∧ i = .int .i64 m ∧ Aside0 (sideOf N = sideFrom N f m)) (fun i => 13 - (intOf i).toNat)
  case atStart => exact ⟨12, 1, rfl, rfl, ⟨rfl⟩⟩
  case round =>
    obtain ⟨f, m, hfm, rfl, hs⟩ := hrel
    have hfm1 : f + m ≤ 13 := by omega
    have hfm2 : 13 ≤ f + m := by omega
    clear hfm
    have q0 : 0 ≤ (m : Int) * m := Int.mul_nonneg (by omega) (by omega)
    have q1 : (m : Int) * m ≤ 13 * 13 := Int.mul_le_mul (by omega) (by omega) (by omega) (by omega)
    have HS := hs.out
    cases f with
    | zero =>
      have hm : ¬ (m : Int) ≤ 12 := by omega
      have H := Aside0.mk (show sideOf N = 0 from HS)
      clear HS hs
      go_wp2
      go_ret
      exact ⟨ret_i (by rw [H.out]; rfl), rfl⟩
    | succ f =>
      have hm : (m : Int) ≤ 12 := by omega
      rw [sideFrom] at HS
      by_cases e : m * m = N
      · rw [if_pos e] at HS
        have H := Aside0.mk HS
        have e1 : ((m : Int) * m == N) = true := by simp; exact_mod_cast e
        clear HS hs e
        go_wp2
        go_ret
        exact ⟨ret_i (by rw [H.out]), rfl⟩
      · rw [if_neg e] at HS
        have H := Aside0.mk HS
        have e1 : ((m : Int) * m == N) = false := by simp; exact_mod_cast e
        clear HS hs e
        go_wp2
        go_round
        case rel => exact ⟨f, m + 1, by omega, by go_num, H⟩
        case measure => simp [intOf]; omega

def mulTo (a b : List Int) (n i j : Nat) : Nat → Int
  | 0 => 0
  | k + 1 => of (mulTo a b n i j k + of (a.getD (i * n + k) 0 * b.getD (k * n + j) 0))
theorem lt_sq {n i j : Nat} (hi : i < n) (hj : j < n) : i * n + j < n * n := by
  have : i * n + n ≤ n * n := by rw [← Nat.succ_mul]; exact Nat.mul_le_mul_right n hi
  omega
theorem info3 : (Try.prog.info? 3).map (fun i => (i.zero, i.size, i.bytes)) = some (some (.int .i64 0), 1, 8) := by kernel_rfl
/-- the first m of a table's numbers -/
def tabTo (F : Nat → Int) (m : Nat) : List Int := (List.range m).map F
theorem tabTo_length (F : Nat → Int) (m : Nat) : (tabTo F m).length = m := by simp [tabTo]
theorem tabTo_succ (F : Nat → Int) (m : Nat) : tabTo F (m + 1) = tabTo F m ++ [F m] := by simp [tabTo, List.range_succ]



end Go.Proofs.Ytgkgnihjjabapaa.Gv
