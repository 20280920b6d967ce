/- Contracts of package field's functions that take or make function values. -/
import Derived.Test.YtgkgnihjjabapaaProg
import Derived.WalkKit
import Derived.Deep.LoopGhost
import Derived.Deep.RegionHeld3
import Derived.BigQuiet
import Derived.Handy
import Derived.RegionTactic
import Derived.OwnWalk
import Derived.Test.YtgkgnihjjabapaaWMore
import Derived.Test.YtgkgnihjjabapaaZa
namespace Go.Proofs.Ytgkgnihjjabapaa.Gv
open Go.RowKit Go.Proofs.YtgkgnihjjabapaaW.PrintWords Pl

theorem ret_i {a b : Int} (h : a = b) : Ending.returned (.int .i64 a) = .returned (.int .i64 b) := by rw [h]

/-- field.Of -/
theorem Of_any (n : Int) (w : World) : Calls Try.prog 20 #[.int .i64 n] w fun e w' => e = .returned (.int .i64 (of n)) ∧ w = w' := by
  have h := tmod_range n
  have e := of_go n
  by_cases c : Int.tmod n 2147483647 < 0
  · rw [if_pos c] at e
    have H := Aside0.mk e; clear e
    go_enter Try.func20, Try.ntmps20
    go_wp2
    go_ret
    exact ⟨ret_i H.out, rfl⟩
  · rw [if_neg c] at e
    have H := Aside0.mk e; clear e
    go_enter Try.func20, Try.ntmps20
    go_wp2
    go_ret
    exact ⟨ret_i H.out, rfl⟩

/-- the two closures -/
theorem addf_any (a b : Int) (w : World) (h1 : -9223372036854775808 ≤ a + b) (h2 : a + b ≤ 9223372036854775807) : Calls Try.prog 42 #[.int .i64 a, .int .i64 b] w fun e w' => e = .returned (.int .i64 (a + b)) ∧ w = w' := by
  go_enter Try.func42, Try.ntmps42
  go_wp2
  go_ret
  exact ⟨rfl, rfl⟩
theorem mulf_any (a b : Int) (w : World) (h1 : -9223372036854775808 ≤ a * b) (h2 : a * b ≤ 9223372036854775807) : Calls Try.prog 41 #[.int .i64 a, .int .i64 b] w fun e w' => e = .returned (.int .i64 (a * b)) ∧ w = w' := by
  go_enter Try.func41, Try.ntmps41
  go_wp2
  go_ret
  exact ⟨rfl, rfl⟩

set_option maxHeartbeats 1000000 in
theorem fold_add (A : Option Addr) (c : Nat) (l : List Int) (w : World) (hr : ReadsInt w .i64 A l.length l) :
    Calls Try.prog 40 #[.int .i64 0, .slice A l.length c, .func (.func 42) #[] #[]] w fun e w' => e = .returned (.int .i64 (sumTo l l.length)) ∧ w = w' := by
  go_enter Try.func40, Try.ntmps40
  go_wp2
  have hlen := hr.2.1
  go_loop [7, 13] (fun v i => ∃ k : Nat, k ≤ l.length ∧ i = .int .i64 k ∧ v = .int .i64 (sumTo l k)) (fun _ i => l.length - (intOf i).toNat)
  case atStart => exact ⟨0, Nat.zero_le _, rfl, by rw [sumTo_zero]⟩
  case round =>
    obtain ⟨k, hk, rfl, rfl⟩ := hrel
    by_cases hlt : k < l.length
    · obtain ⟨ad, rfl, hc⟩ := hr.at_ k (by omega) (by omega)
      rw [Int.toNat_natCast] at hc
      have hb := sumTo_range l k
      have hx0 := of_nonneg (rd l k)
      have hx1 := of_lt (rd l k)
      have hs := Aside0.mk (sumTo_succ l k hlt)
      clear hr
      go_wp2_with (first | (go_at_call 20; refine (Of_any _ _).mono ?_; rintro e w' ⟨rfl, rfl⟩) | (go_at_call 42; refine (addf_any _ _ _ (by omega) (by omega)).mono ?_; rintro e w' ⟨rfl, rfl⟩))
      go_round
      case rel => exact ⟨k + 1, by omega, by go_num, by rw [hs.out]; rfl⟩
      case measure => simp [intOf]; omega
    · have hlt' : k = l.length := by omega
      have hlt2 := Aside0.mk hlt'
      clear hlt'
      go_wp2
      go_ret
      exact ⟨ret_i (by rw [hlt2.out]), rfl⟩
set_option maxHeartbeats 1000000 in
theorem fold_mul (A : Option Addr) (c : Nat) (l : List Int) (w : World) (hr : ReadsInt w .i64 A l.length l) :
    Calls Try.prog 40 #[.int .i64 1, .slice A l.length c, .func (.func 41) #[] #[]] w fun e w' => e = .returned (.int .i64 (prodTo l l.length)) ∧ w = w' := by
  go_enter Try.func40, Try.ntmps40
  go_wp2
  have hlen := hr.2.1
  go_loop [7, 13] (fun v i => ∃ k : Nat, k ≤ l.length ∧ i = .int .i64 k ∧ v = .int .i64 (prodTo l k)) (fun _ i => l.length - (intOf i).toNat)
  case atStart => exact ⟨0, Nat.zero_le _, rfl, by rw [prodTo_zero]⟩
  case round =>
    obtain ⟨k, hk, rfl, rfl⟩ := hrel
    by_cases hlt : k < l.length
    · obtain ⟨ad, rfl, hc⟩ := hr.at_ k (by omega) (by omega)
      rw [Int.toNat_natCast] at hc
      have hb := prodTo_range l k
      have hm := mul_bound (prodTo l k) (rd l k)
      rw [of_id hb.1 hb.2] at hm
      have hx0 := of_nonneg (rd l k)
      have hx1 := of_lt (rd l k)
      have hs := Aside0.mk (prodTo_succ l k hlt)
      clear hr
      go_wp2_with (first | (go_at_call 20; refine (Of_any _ _).mono ?_; rintro e w' ⟨rfl, rfl⟩) | (go_at_call 41; refine (mulf_any _ _ _ (by omega) (by omega)).mono ?_; rintro e w' ⟨rfl, rfl⟩))
      go_round
      case rel => exact ⟨k + 1, by omega, by go_num, by rw [hs.out]; rfl⟩
      case measure => simp [intOf]; omega
    · have hlt' : k = l.length := by omega
      have hlt2 := Aside0.mk hlt'
      clear hlt'
      go_wp2
      go_ret
      exact ⟨ret_i (by rw [hlt2.out]), rfl⟩

/-- field.Add, field.Mul -/
theorem add_any (A : Option Addr) (c : Nat) (l : List Int) (w : World) (hr : ReadsInt w .i64 A l.length l) :
    Calls Try.prog 30 #[.slice A l.length c] w fun e w' => e = .returned (.int .i64 (suml l)) ∧ w = w' := by
  have hf := sumTo_all l
  have H := Aside0.mk hf; clear hf
  go_enter Try.func30, Try.ntmps30
  go_wp2_with (go_at_call 40; refine (fold_add A c l _ hr).mono ?_; rintro e w' ⟨rfl, rfl⟩)
  go_ret
  exact ⟨ret_i H.out, rfl⟩
theorem mul_any (A : Option Addr) (c : Nat) (l : List Int) (w : World) (hr : ReadsInt w .i64 A l.length l) :
    Calls Try.prog 29 #[.slice A l.length c] w fun e w' => e = .returned (.int .i64 (prodl' l)) ∧ w = w' := by
  have hf := prodTo_all l
  have H := Aside0.mk hf; clear hf
  go_enter Try.func29, Try.ntmps29
  go_wp2_with (go_at_call 40; refine (fold_mul A c l _ hr).mono ?_; rintro e w' ⟨rfl, rfl⟩)
  go_ret
  exact ⟨ret_i H.out, rfl⟩

/-- two numbers in a row -/
theorem reads_two {w : World} {b : Nat} {x y : Int} (h : w.heap[b]? = some (.cells #[.int .i64 x, .int .i64 y] 3 (0, 0))) : ReadsInt w .i64 (some ⟨b, 0, none⟩) [x, y].length [x, y] := by
  refine ⟨rfl, by simp, fun _ => ⟨_, rfl, fun j hj => ?_⟩⟩
  simp at hj
  rw [add_plain]
  match j, hj with
  | 0, _ => simp [World.cell?, h]
  | 1, _ => simp [World.cell?, h]
theorem new_drew (w : World) (o : Obj) : (w.alloc o).drew.heap[w.heap.size]? = some o := (MapKept.heap_alloc w o).1
theorem new_at (w : World) (o : Obj) : (w.alloc o).heap[w.heap.size]? = some o := (MapKept.heap_alloc w o).1
theorem add2_any (b c : Nat) (x y : Int) (w : World) (h : w.heap[b]? = some (.cells #[.int .i64 x, .int .i64 y] 3 (0, 0))) :
    Calls Try.prog 30 #[.slice (some ⟨b, 0, none⟩) 2 c] w fun e w' => e = .returned (.int .i64 (of (x + y))) ∧ w = w' :=
  (add_any _ c [x, y] w (reads_two h)).mono fun e w' ⟨he, hw⟩ => ⟨by rw [he]; simp [suml], hw⟩
theorem mul2_any (b c : Nat) (x y : Int) (w : World) (h : w.heap[b]? = some (.cells #[.int .i64 x, .int .i64 y] 3 (0, 0))) :
    Calls Try.prog 29 #[.slice (some ⟨b, 0, none⟩) 2 c] w fun e w' => e = .returned (.int .i64 (of (x * y))) ∧ w = w' :=
  (mul_any _ c [x, y] w (reads_two h)).mono fun e w' ⟨he, hw⟩ => ⟨by rw [he]; simp [prodl'], hw⟩
theorem new_at' (w : World) (o : Obj) (b : Nat) (h : b = w.heap.size) : (w.alloc o).heap[b]? = some o := by rw [h]; exact (MapKept.heap_alloc w o).1
theorem new_drew' (w : World) (o : Obj) (b : Nat) (h : b = w.heap.size) : (w.alloc o).drew.heap[b]? = some o := by rw [h]; exact (MapKept.heap_alloc w o).1
theorem cell_later' {w w1 : World} (hb : Below w.heap.size w w1) {a : Addr} {v : Value} (hc : w.cell? a = some v) : w1.cell? a = some v := pw_cell_below hb hc

theorem sub_any (a b : Int) (w : World) : Calls Try.prog 39 #[.int .i64 a, .int .i64 b] w fun e w' => e = .returned (.int .i64 (of (a - b))) ∧ w = w' := by
  have h1 := of_nonneg a
  have h2 := of_lt a
  have h3 := of_nonneg b
  have h4 := of_lt b
  have H := Aside0.mk (of_sub a b)
  go_enter Try.func39, Try.ntmps39
  go_wp2_with (go_at_call 20; refine (Of_any _ _).mono ?_; rintro e w' ⟨rfl, rfl⟩)
  go_ret
  exact ⟨ret_i H.out, rfl⟩
end Go.Proofs.Ytgkgnihjjabapaa.Gv
