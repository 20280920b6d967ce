/- Contracts of package field's functions that take or make function values. -/
import Derived.Test.YtpjfelbamcgnhaaProg
import Derived.WalkKit
import Derived.Deep.LoopGhost
import Derived.Deep.RegionHeld3
import Derived.BigQuiet
import Derived.Handy
import Derived.RegionTactic
import Derived.OwnWalk
import Derived.Test.YtpjfelbamcgnhaaWMore
import Derived.Test.YtpjfelbamcgnhaaZa
namespace Go.Proofs.Ytpjfelbamcgnhaa.Gv
open Go.RowKit Go.Proofs.YtpjfelbamcgnhaaW.PrintWords Pl

theorem ret_i {a b : Int} (h : a = b) : Ending.returned (.int .i64 a) = .returned (.int .i64 b) := by rw [h]

/-- field.Of -/
theorem Of_any (n : Int) (w : World) : Calls Try.prog 39 #[.int .i64 n] w fun e w' => e = .returned (.int .i64 (of n)) ∧ w = w' := by
  have h := tmod_range n
  have e := of_go n
  by_cases c : Int.tmod n 2147483647 < 0
  · rw [if_pos c] at e
    have H := Aside0.mk e; clear e
    go_enter Try.func39, Try.ntmps39
    go_wp2
    go_ret
    exact ⟨ret_i H.out, rfl⟩
  · rw [if_neg c] at e
    have H := Aside0.mk e; clear e
    go_enter Try.func39, Try.ntmps39
    go_wp2
    go_ret
    exact ⟨ret_i H.out, rfl⟩

/-- the two closures -/
theorem addf_any (a b : Int) (w : World) (h1 : -9223372036854775808 ≤ a + b) (h2 : a + b ≤ 9223372036854775807) : Calls Try.prog 62 #[.int .i64 a, .int .i64 b] w fun e w' => e = .returned (.int .i64 (a + b)) ∧ w = w' := by
  go_enter Try.func62, Try.ntmps62
  go_wp2
  go_ret
  exact ⟨rfl, rfl⟩
theorem mulf_any (a b : Int) (w : World) (h1 : -9223372036854775808 ≤ a * b) (h2 : a * b ≤ 9223372036854775807) : Calls Try.prog 57 #[.int .i64 a, .int .i64 b] w fun e w' => e = .returned (.int .i64 (a * b)) ∧ w = w' := by
  go_enter Try.func57, Try.ntmps57
  go_wp2
  go_ret
  exact ⟨rfl, rfl⟩

set_option maxHeartbeats 1000000 in
theorem fold_add (A : Option Addr) (c : Nat) (l : List Int) (w : World) (hr : ReadsInt w .i64 A l.length l) :
    Calls Try.prog 56 #[.int .i64 0, .slice A l.length c, .func (.func 62) #[] #[]] w fun e w' => e = .returned (.int .i64 (sumTo l l.length)) ∧ w = w' := by
  go_enter Try.func56, Try.ntmps56
  go_wp2
  have hlen := hr.2.1
  go_loop [7, 13] (fun v i => ∃ k : Nat, k ≤ l.length ∧ i = .int .i64 k ∧ v = .int .i64 (sumTo l k)) (fun _ i => l.length - (intOf i).toNat)
  case atStart => exact ⟨0, Nat.zero_le _, rfl, by rw [sumTo_zero]⟩
  case round =>
    obtain ⟨k, hk, rfl, rfl⟩ := hrel
    by_cases hlt : k < l.length
    · obtain ⟨ad, rfl, hc⟩ := hr.at_ k (by omega) (by omega)
      rw [Int.toNat_natCast] at hc
      have hb := sumTo_range l k
      have hx0 := of_nonneg (rd l k)
      have hx1 := of_lt (rd l k)
      have hs := Aside0.mk (sumTo_succ l k hlt)
      clear hr
      go_wp2_with (first | (go_at_call 39; refine (Of_any _ _).mono ?_; rintro e w' ⟨rfl, rfl⟩) | (go_at_call 62; refine (addf_any _ _ _ (by omega) (by omega)).mono ?_; rintro e w' ⟨rfl, rfl⟩))
      go_round
      case rel => exact ⟨k + 1, by omega, by go_num, by rw [hs.out]; rfl⟩
      case measure => simp [intOf]; omega
    · have hlt' : k = l.length := by omega
      have hlt2 := Aside0.mk hlt'
      clear hlt'
      go_wp2
      go_ret
      exact ⟨ret_i (by rw [hlt2.out]), rfl⟩
set_option maxHeartbeats 1000000 in
theorem fold_mul (A : Option Addr) (c : Nat) (l : List Int) (w : World) (hr : ReadsInt w .i64 A l.length l) :
    Calls Try.prog 56 #[.int .i64 1, .slice A l.length c, .func (.func 57) #[] #[]] w fun e w' => e = .returned (.int .i64 (prodTo l l.length)) ∧ w = w' := by
  go_enter Try.func56, Try.ntmps56
  go_wp2
  have hlen := hr.2.1
  go_loop [7, 13] (fun v i => ∃ k : Nat, k ≤ l.length ∧ i = .int .i64 k ∧ v = .int .i64 (prodTo l k)) (fun _ i => l.length - (intOf i).toNat)
  case atStart => exact ⟨0, Nat.zero_le _, rfl, by rw [prodTo_zero]⟩
  case round =>
    obtain ⟨k, hk, rfl, rfl⟩ := hrel
    by_cases hlt : k < l.length
    · obtain ⟨ad, rfl, hc⟩ := hr.at_ k (by omega) (by omega)
      rw [Int.toNat_natCast] at hc
      have hb := prodTo_range l k
      have hm := mul_bound (prodTo l k) (rd l k)
      rw [of_id hb.1 hb.2] at hm
      have hx0 := of_nonneg (rd l k)
      have hx1 := of_lt (rd l k)
      have hs := Aside0.mk (prodTo_succ l k hlt)
      clear hr
      go_wp2_with (first | (go_at_call 39; refine (Of_any _ _).mono ?_; rintro e w' ⟨rfl, rfl⟩) | (go_at_call 57; refine (mulf_any _ _ _ (by omega) (by omega)).mono ?_; rintro e w' ⟨rfl, rfl⟩))
      go_round
      case rel => exact ⟨k + 1, by omega, by go_num, by rw [hs.out]; rfl⟩
      case measure => simp [intOf]; omega
    · have hlt' : k = l.length := by omega
      have hlt2 := Aside0.mk hlt'
      clear hlt'
      go_wp2
      go_ret
      exact ⟨ret_i (by rw [hlt2.out]), rfl⟩

/-- field.Add, field.Mul -/
theorem add_any (A : Option Addr) (c : Nat) (l : List Int) (w : World) (hr : ReadsInt w .i64 A l.length l) :
    Calls Try.prog 61 #[.slice A l.length c] w fun e w' => e = .returned (.int .i64 (suml l)) ∧ w = w' := by
  have hf := sumTo_all l
  have H := Aside0.mk hf; clear hf
  go_enter Try.func61, Try.ntmps61
  go_wp2_with (go_at_call 56; refine (fold_add A c l _ hr).mono ?_; rintro e w' ⟨rfl, rfl⟩)
  go_ret
  exact ⟨ret_i H.out, rfl⟩
theorem mul_any (A : Option Addr) (c : Nat) (l : List Int) (w : World) (hr : ReadsInt w .i64 A l.length l) :
    Calls Try.prog 47 #[.slice A l.length c] w fun e w' => e = .returned (.int .i64 (prodl' l)) ∧ w = w' := by
  have hf := prodTo_all l
  have H := Aside0.mk hf; clear hf
  go_enter Try.func47, Try.ntmps47
  go_wp2_with (go_at_call 56; refine (fold_mul A c l _ hr).mono ?_; rintro e w' ⟨rfl, rfl⟩)
  go_ret
  exact ⟨ret_i H.out, rfl⟩

/-- two numbers in a row -/
theorem reads_two {w : World} {b : Nat} {x y : Int} (h : w.heap[b]? = some (.cells #[.int .i64 x, .int .i64 y] 3 (0, 0))) : ReadsInt w .i64 (some ⟨b, 0, none⟩) [x, y].length [x, y] := by
  refine ⟨rfl, by simp, fun _ => ⟨_, rfl, fun j hj => ?_⟩⟩
  simp at hj
  rw [add_plain]
  match j, hj with
  | 0, _ => simp [World.cell?, h]
  | 1, _ => simp [World.cell?, h]
theorem new_drew (w : World) (o : Obj) : (w.alloc o).drew.heap[w.heap.size]? = some o := (MapKept.heap_alloc w o).1
theorem new_at (w : World) (o : Obj) : (w.alloc o).heap[w.heap.size]? = some o := (MapKept.heap_alloc w o).1
theorem add2_any (b c : Nat) (x y : Int) (w : World) (h : w.heap[b]? = some (.cells #[.int .i64 x, .int .i64 y] 3 (0, 0))) :
    Calls Try.prog 61 #[.slice (some ⟨b, 0, none⟩) 2 c] w fun e w' => e = .returned (.int .i64 (of (x + y))) ∧ w = w' :=
  (add_any _ c [x, y] w (reads_two h)).mono fun e w' ⟨he, hw⟩ => ⟨by rw [he]; simp [suml], hw⟩
theorem mul2_any (b c : Nat) (x y : Int) (w : World) (h : w.heap[b]? = some (.cells #[.int .i64 x, .int .i64 y] 3 (0, 0))) :
    Calls Try.prog 47 #[.slice (some ⟨b, 0, none⟩) 2 c] w fun e w' => e = .returned (.int .i64 (of (x * y))) ∧ w = w' :=
  (mul_any _ c [x, y] w (reads_two h)).mono fun e w' ⟨he, hw⟩ => ⟨by rw [he]; simp [prodl'], hw⟩
theorem new_at' (w : World) (o : Obj) (b : Nat) (h : b = w.heap.size) : (w.alloc o).heap[b]? = some o := by rw [h]; exact (MapKept.heap_alloc w o).1
theorem new_drew' (w : World) (o : Obj) (b : Nat) (h : b = w.heap.size) : (w.alloc o).drew.heap[b]? = some o := by rw [h]; exact (MapKept.heap_alloc w o).1
theorem cell_later' {w w1 : World} (hb : Below w.heap.size w w1) {a : Addr} {v : Value} (hc : w.cell? a = some v) : w1.cell? a = some v := pw_cell_below hb hc

theorem sub_any (a b : Int) (w : World) : Calls Try.prog 44 #[.int .i64 a, .int .i64 b] w fun e w' => e = .returned (.int .i64 (of (a - b))) ∧ w = w' := by
  have h1 := of_nonneg a
  have h2 := of_lt a
  have h3 := of_nonneg b
  have h4 := of_lt b
  have H := Aside0.mk (of_sub a b)
  go_enter Try.func44, Try.ntmps44
  go_wp2_with (go_at_call 39; refine (Of_any _ _).mono ?_; rintro e w' ⟨rfl, rfl⟩)
  go_ret
  exact ⟨ret_i H.out, rfl⟩
def dotTo (a b : List Int) : Nat → Int
  | 0 => 0
  | k + 1 => of (dotTo a b k + of (a.getD k 0 * b.getD k 0))
def dotOf (a b : List Int) : Int := dotTo a b (min a.length b.length)
set_option maxHeartbeats 2000000 in
theorem dot_any (xs ys : List Int) (A B : Option Addr) (ca cb : Nat) (w : World) (hra : ReadsInt w .i64 A xs.length xs) (hrb : ReadsInt w .i64 B ys.length ys) :
    Calls Try.prog 55 #[.slice A xs.length ca, .slice B ys.length cb] w fun e w' => e = .returned (.int .i64 (dotOf xs ys)) ∧ Below w.heap.size w w' := by
  have hlx := hra.2.1
  have hly := hrb.2.1
  obtain ⟨N, hN⟩ : ∃ N : Nat, min xs.length ys.length = N := ⟨_, rfl⟩
  have hN1 : N ≤ xs.length := by omega
  have hN2 : N ≤ ys.length := by omega
  have hmin : (if ys.length < xs.length then (ys.length : Int) else (xs.length : Int)) = (N : Int) := by split <;> omega
  have HN : Aside0 (dotOf xs ys = dotTo xs ys N) := ⟨by unfold dotOf; rw [hN]⟩
  clear hN
  have hra' := Aside0.mk hra
  have hrb' := Aside0.mk hrb
  clear hra hrb
  go_enter Try.func55, Try.ntmps55
  go_wp2
  go_loopw [5, 12] (fun s c wr => ∃ k : Nat, k ≤ N ∧ c = .int .i64 k ∧ s = .int .i64 (dotTo xs ys k) ∧ Below w.heap.size w wr) (fun _ c _ => N - (intOf c).toNat)
  case atStart => exact ⟨0, Nat.zero_le _, rfl, rfl, Below.refl _ _⟩
  case round =>
    obtain ⟨k, hk, rfl, rfl, hb⟩ := hrel
    by_cases hlt : k < N
    · have b1 : k < xs.length := by omega
      have b2 : k < ys.length := by omega
      obtain ⟨ada, hA, hx⟩ := hra'.out.at_ (k : Int) (by omega) (by omega)
      obtain ⟨adb, hB, hy⟩ := hrb'.out.at_ (k : Int) (by omega) (by omega)
      rw [Int.toNat_natCast] at hx hy
      cases hA
      cases hB
      have hx1 := cell_later' hb hx
      have hy1 := cell_later' hb hy
      have X : rd xs (k : Int) = xs.getD k 0 := rfl
      have Y : rd ys (k : Int) = ys.getD k 0 := rfl
      rw [X] at hx1 hx
      rw [Y] at hy1 hy
      clear X Y hx hy
      have z0 : (0 : Int) ≤ k := by omega
      have z1 : (k : Int) < xs.length := by omega
      have z2 : (k : Int) < ys.length := by omega
      generalize hxx : xs.getD k 0 = x at *
      generalize hyy : ys.getD k 0 = y at *
      have Hxx := Aside0.mk hxx
      have Hyy := Aside0.mk hyy
      clear hxx hyy
      generalize hss : dotTo xs ys k = s at *
      have Hss := Aside0.mk hss
      clear hss
      go_wp2
      go_region_held3 (fun w' => w'.cell? (ada.add k) = some (.int .i64 x) ∧ w'.cell? (adb.add k) = some (.int .i64 y)) (go_keep)
        (first | (go_at_call 47; refine (mul2_any wr.heap.size 2 x y _ ?hh).mono ?_; (case hh => first | exact new_drew' _ _ _ (by simp) | exact new_at' _ _ _ (by simp)); rintro e w' ⟨rfl, rfl⟩) | (go_at_call 61; refine (add2_any (wr.heap.size + 1) 2 s (of (x * y)) _ ?hh).mono ?_; (case hh => first | exact new_drew' _ _ _ (by simp) | exact new_at' _ _ _ (by simp)); rintro e w' ⟨rfl, rfl⟩))
      go_wp2
      go_roundw
      case rel => exact ⟨k + 1, by omega, by go_num, by rw [dotTo, Hxx.out, Hyy.out, Hss.out], by have hz := hb.size; go_grown⟩
      case measure => simp [intOf]; omega
    · have hkn : k = N := by omega
      have H := Aside0.mk hkn
      clear hkn
      go_wp2
      go_ret
      exact ⟨ret_i (by rw [H.out, HN.out]), hb⟩
end Go.Proofs.Ytpjfelbamcgnhaa.Gv
