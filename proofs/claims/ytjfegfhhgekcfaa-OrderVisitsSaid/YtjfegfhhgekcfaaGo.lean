/- Contracts of package order's functions that take or make function values. -/
import Derived.Test.YtjfegfhhgekcfaaXxH41
import Derived.Deep.RegionHeld3
import Derived.BigQuiet
import Derived.Deep.QuietTactic
import Derived.Handy
import Derived.RegionTactic
import Derived.OwnWalk
namespace Go.Proofs.Ytjfegfhhgekcfaa.Gv
open Go.RowKit Go.Proofs.Ytjfegfhhgekcfaa.X Go.Proofs.YtjfegfhhgekcfaaW.PrintWords Go.Proofs.YtjfegfhhgekcfaaW.PrintLast Go.Proofs.YtjfegfhhgekcfaaW.PrintMore

theorem ret_i {a b : Int} (h : a = b) : Ending.returned (.int .i64 a) = .returned (.int .i64 b) := by rw [h]
/-- the bits of n spread from a place on: the first k of them -/
def spr (n f : Int) : Nat → Int
  | 0 => 0
  | k + 1 => Go.bits .or .i64 (spr n f k) (IntKind.i64.wrap (Go.bits .and .i64 (n / 2 ^ k) 1 * 2 ^ (2 * (k : Int) + f).toNat))
set_option maxHeartbeats 1000000 in
theorem spreadc_any (n f : Int) (pa : Addr) (w : World) (hp : w.cell? pa = some (.int .i64 f)) (h0 : 0 ≤ f) (h1 : f ≤ 1) :
    Calls Try.prog 27 #[.int .i64 n, .pointer (some pa)] w fun e w' => e = .returned (.int .i64 (spr n f 16)) ∧ Below w.heap.size w w' := by
  go_enter Try.func27, Try.ntmps27
  go_wp2
  go_loopw [4, 6] (fun v i wr => ∃ k : Nat, k ≤ 16 ∧ i = .int .i64 k ∧ v = .int .i64 (spr n f k) ∧ Below w.heap.size w wr) (fun _ i _ => 16 - (intOf i).toNat)
  case atStart => exact ⟨0, Nat.zero_le _, rfl, rfl, Below.refl _ _⟩
  case round =>
    obtain ⟨k, hk, rfl, rfl, hb⟩ := hrel
    by_cases hlt : k < 16
    · have hp1 := pw_cell_below hb hp
      generalize hs : spr n f k = s at *
      have Hs2 := Aside0.mk hs
      clear hs
      have z0 : (0 : Int) ≤ k := by omega
      have e1 : IntKind.i64.wrap (2 * (k : Int)) = 2 * (k : Int) := IntWalk.i64_in _ (by omega)
      have e2 : IntKind.i64.wrap (2 * (k : Int) + f) = 2 * (k : Int) + f := IntWalk.i64_in _ (by omega)
      have z1 : (0 : Int) ≤ 2 * (k : Int) + f := by omega
      have z2 : 2 * (k : Int) + f ≤ 40 := by omega
      go_wp2
      go_region_held3 (fun w' => w'.cell? pa = some (.int .i64 f)) (go_keep) (fail)
      go_wp2
      go_roundw
      case rel => exact ⟨k + 1, by omega, by go_num, by rw [spr, Hs2.out], by go_grown⟩
      case measure => simp [intOf]; omega
    · have hkn : k = 16 := by omega
      have H := Aside0.mk hkn
      clear hkn
      go_wp2
      go_ret
      exact ⟨ret_i (by rw [H.out]), hb⟩
def codeVal (x y : Int) : Int × Int := if 0 ≤ x ∧ x < 65536 ∧ 0 ≤ y ∧ y < 65536 then (Go.bits .or .i64 (spr x 0 16) (spr y 1 16), 0) else (0, 3)
theorem side_any (x : Int) (w : World) (h0 : 0 ≤ x) (h1 : x < 65536) : Calls Try.prog 19 #[.int .i64 x] w fun e w' => e = .returned (.bool true) ∧ w = w' := by
  go_enter Try.func19, Try.ntmps19
  go_wp2
  go_ret
  exact ⟨rfl, rfl⟩
theorem side_low (x : Int) (w : World) (h0 : x < 0) : Calls Try.prog 19 #[.int .i64 x] w fun e w' => e = .returned (.bool false) ∧ w = w' := by
  have h1 : decide (0 ≤ x) = false := by simpa using h0
  go_enter Try.func19, Try.ntmps19
  go_wp2
  go_ret
  exact ⟨rfl, rfl⟩
theorem side_high (x : Int) (w : World) (h0 : 65536 ≤ x) : Calls Try.prog 19 #[.int .i64 x] w fun e w' => e = .returned (.bool false) ∧ w = w' := by
  have h1 : 0 ≤ x := by omega
  have h2 : decide (x < 65536) = false := by simpa using h0
  go_enter Try.func19, Try.ntmps19
  go_wp2
  go_ret
  exact ⟨rfl, rfl⟩
theorem side_no (x : Int) (w : World) (h : ¬ (0 ≤ x ∧ x < 65536)) : Calls Try.prog 19 #[.int .i64 x] w fun e w' => e = .returned (.bool false) ∧ w = w' := by
  by_cases c : x < 0
  · exact side_low x w c
  · exact side_high x w (by omega)
theorem spread_any (f : Int) (w : World) : Calls Try.prog 20 #[.int .i64 f] w fun e w' => ∃ pa : Addr, e = .returned (.func (.func 27) #[] #[.pointer (some pa)]) ∧ w'.cell? pa = some (.int .i64 f) ∧ Below w.heap.size w w' := by
  have hmf : ∀ (fn : Fn) (first cap : Array Value) (w : World), (Instr.makeFunc fn first cap).run Try.prog w = .ok (.func fn first cap) w := fun _ _ _ _ => rfl
  go_enter Try.func20, Try.ntmps20
  go_wp2
  go_ret
  exact ⟨_, rfl, (blk_cell (blk_new _ _) 0).trans rfl, by go_grown⟩
theorem below_thru {w W w1 : World} (h : Below w.heap.size w W) (hb : Below W.heap.size W w1) : Below w.heap.size w w1 := below_then h h.size hb
set_option maxHeartbeats 1000000 in
theorem code_ok (x y : Int) (w : World) (hx0 : 0 ≤ x) (hx1 : x < 65536) (hy0 : 0 ≤ y) (hy1 : y < 65536) :
    Calls Try.prog 6 #[.int .i64 x, .int .i64 y] w fun e w' => e = .returned (.tuple #[.int .i64 (Go.bits .or .i64 (spr x 0 16) (spr y 1 16)), .int .i64 0]) ∧ Below w.heap.size w w' := by
  go_enter Try.func6, Try.ntmps6
  go_wp2_with (first
    | (go_at_call 19; (with_reducible refine (side_any x _ hx0 hx1).mono ?_); rintro e w' ⟨rfl, rfl⟩)
    | (go_at_call 19; (with_reducible refine (side_any y _ hy0 hy1).mono ?_); rintro e w' ⟨rfl, rfl⟩)
    | (go_at_call 20; (with_reducible refine (spread_any 0 w).mono ?_); rintro e w1 ⟨p1, rfl, hc1, hb1⟩)
    | (go_at_call 27; (with_reducible refine (spreadc_any x 0 p1 w1 hc1 (by omega) (by omega)).mono ?_); rintro e w2 ⟨rfl, hb2⟩)
    | (go_at_call 20; (with_reducible refine (spread_any 1 w2).mono ?_); rintro e w3 ⟨p3, rfl, hc3, hb3⟩)
    | (go_at_call 27; (with_reducible refine (spreadc_any y 1 p3 w3 hc3 (by omega) (by omega)).mono ?_); rintro e w4 ⟨rfl, hb4⟩))
  go_ret2
  exact ⟨rfl, below_thru (below_thru (below_thru hb1 hb2) hb3) hb4⟩
set_option maxHeartbeats 1000000 in
theorem code_no1 (x y : Int) (w : World) (hx : ¬ (0 ≤ x ∧ x < 65536)) :
    Calls Try.prog 6 #[.int .i64 x, .int .i64 y] w fun e w' => e = .returned (.tuple #[.int .i64 0, .int .i64 3]) ∧ Below w.heap.size w w' := by
  have HX := Aside0.mk (fun w => side_no x w hx)
  clear hx
  go_enter Try.func6, Try.ntmps6
  go_wp2_with (go_at_call 19; refine (HX.out _).mono ?_; rintro e w' ⟨rfl, rfl⟩)
  go_ret2
  exact ⟨rfl, Below.refl _ _⟩
set_option maxHeartbeats 1000000 in
theorem code_no2 (x y : Int) (w : World) (hx0 : 0 ≤ x) (hx1 : x < 65536) (hy : ¬ (0 ≤ y ∧ y < 65536)) :
    Calls Try.prog 6 #[.int .i64 x, .int .i64 y] w fun e w' => e = .returned (.tuple #[.int .i64 0, .int .i64 3]) ∧ Below w.heap.size w w' := by
  have HX := Aside0.mk (fun w => side_any x w hx0 hx1)
  have HY := Aside0.mk (fun w => side_no y w hy)
  clear hy
  go_enter Try.func6, Try.ntmps6
  go_wp2_with (first | (go_at_call 19; refine (HX.out _).mono ?_; rintro e w' ⟨rfl, rfl⟩) | (go_at_call 19; refine (HY.out _).mono ?_; rintro e w' ⟨rfl, rfl⟩))
  go_ret2
  exact ⟨rfl, Below.refl _ _⟩
theorem code_any (x y : Int) (r1 r2 : Int) (w : World) (h : codeVal x y = (r1, r2)) :
    Calls Try.prog 6 #[.int .i64 x, .int .i64 y] w fun e w' => e = .returned (.tuple #[.int .i64 r1, .int .i64 r2]) ∧ Below w.heap.size w w' := by
  unfold codeVal at h
  by_cases c : 0 ≤ x ∧ x < 65536 ∧ 0 ≤ y ∧ y < 65536
  · rw [if_pos c] at h
    obtain ⟨rfl, rfl⟩ := Prod.mk.inj h
    exact code_ok x y w c.1 c.2.1 c.2.2.1 c.2.2.2
  · rw [if_neg c] at h
    obtain ⟨rfl, rfl⟩ := Prod.mk.inj h
    by_cases cx : 0 ≤ x ∧ x < 65536
    · exact code_no2 x y w cx.1 cx.2 (fun hy => c ⟨cx.1, cx.2, hy.1, hy.2⟩)
    · exact code_no1 x y w cx
end Go.Proofs.Ytjfegfhhgekcfaa.Gv
