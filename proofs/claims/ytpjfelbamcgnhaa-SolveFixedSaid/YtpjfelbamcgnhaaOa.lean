/- package solve: a row in memory, and what is done to each of its numbers. (Written by gen34o.py of this repo.) -/
import Derived.Test.YtpjfelbamcgnhaaGa
import Derived.Deep.RegionHeld3
import Derived.BigQuiet
import Derived.Handy
import Derived.RegionTactic
import Derived.OwnWalk
namespace Go.Proofs.Ytpjfelbamcgnhaa.Gv
open Go.RowKit Go.Proofs.YtpjfelbamcgnhaaW.PrintWords Go.Proofs.YtpjfelbamcgnhaaW.PrintLast Pl
set_option linter.unusedVariables false
/-- block g begins with n numbers -/
def RowIs (w : World) (g n : Nat) (X : Nat → Int) : Prop := ∃ cs : Array Value, w.heap[g]? = some (.cells cs 3 (0, 0)) ∧ ∀ k, k < n → cs[k]? = some (.int .i64 (X k))
theorem RowIs.cell {w : World} {g n : Nat} {X : Nat → Int} (h : RowIs w g n X) (k : Nat) (hk : k < n) : w.cell? ⟨g, k, none⟩ = some (.int .i64 (X k)) ∧ w.frozen? ⟨g, k, none⟩ = false := by
  obtain ⟨cs, h1, h2⟩ := h
  exact ⟨(blk_cell h1 k).trans (h2 k hk), blk_frozen h1 k⟩
theorem RowIs.below {w w1 : World} {g n : Nat} {X : Nat → Int} (h : RowIs w g n X) (hb : Below w.heap.size w w1) : RowIs w1 g n X := by
  obtain ⟨cs, h1, h2⟩ := h
  exact ⟨cs, blk_below h1 hb, h2⟩
theorem RowIs.lt {w : World} {g n : Nat} {X : Nat → Int} (h : RowIs w g n X) : g < w.heap.size := by
  obtain ⟨cs, h1, h2⟩ := h
  exact blk_lt h1
theorem RowIs.congr {w : World} {g n : Nat} {X Y : Nat → Int} (h : RowIs w g n X) (e : ∀ k, k < n → X k = Y k) : RowIs w g n Y := by
  obtain ⟨cs, h1, h2⟩ := h
  exact ⟨cs, h1, fun k hk => by rw [h2 k hk, e k hk]⟩
theorem RowIs.put {w : World} {g n : Nat} {X : Nat → Int} (h : RowIs w g n X) (k : Nat) (y : Int) : RowIs (w.setCell ⟨g, k, none⟩ (.int .i64 y)) g n (fun j => if j = k then y else X j) := by
  obtain ⟨cs, h1, h2⟩ := h
  refine ⟨_, blk_set h1 k _, fun j hj => ?_⟩
  rw [Array.getElem?_setIfInBounds]
  have hjs := h2 j hj
  by_cases e : j = k
  · subst e
    rw [if_pos rfl]
    have hlt : j < cs.size := by
      rw [Array.getElem?_eq_some_iff] at hjs
      exact hjs.1
    rw [if_pos hlt]
    show _ = some (Value.int .i64 (if j = j then y else X j))
    rw [if_pos rfl]
  · rw [if_neg (fun h => e h.symm)]
    show _ = some (Value.int .i64 (if j = k then y else X j))
    rw [if_neg e]
    exact hjs
theorem grown_below' {w w1 : World} (hb : Below w.heap.size w w1) (o : Option Nat) : w.grownBy w1 o := ⟨hb.os, hb.tape, hb.output, hb.size, fun k hk _ => hb.block k hk⟩
theorem grown_then {a b c : World} {g : Option Nat} (h : a.grownBy b g) (k : b.grownBy c g) : a.grownBy c g :=
  ⟨k.os.trans h.os, k.tape.trans h.tape, k.output.trans h.output, Nat.le_trans h.size k.size, fun i hi hn => (k.block i (Nat.lt_of_lt_of_le hi h.size) hn).trans (h.block i hi hn)⟩
theorem grown_put (w : World) (g i : Nat) (v : Value) : w.grownBy (w.setCell ⟨g, i, none⟩ v) (some g) := ⟨rfl, rfl, rfl, by simp [World.setCell], fun k _ hk => Below.heap_setCell _ _ _ _ (fun e => hk (by rw [e]))⟩
theorem add_row (g k : Nat) : (⟨g, 0, none⟩ : Addr).add k = ⟨g, k, none⟩ := by
  simp [Addr.add]
  omega
set_option maxHeartbeats 1000000 in
theorem c2_any (k n cap : Nat) (x i : Int) (pr pi : Addr) (g : Nat) (w : World) (hpr : w.cell? pr = some (.slice (some ⟨g, 0, none⟩) n cap)) (hpi : w.cell? pi = some (.int .i64 i)) (hx : w.cell? ⟨g, k, none⟩ = some (.int .i64 x)) (hk : k < n) :
    Calls Try.prog 50 #[.int .i64 k, .pointer (some pr), .pointer (some pi)] w fun e w' => e = .returned (.int .i64 (of (x * i))) ∧ Below w.heap.size w w' := by
  have e0 : (0 : Int) ≤ (k : Int) := by omega
  have e1 : (k : Int) < (n : Int) := by omega
  go_enter Try.func50, Try.ntmps50
  go_wp2
  go_region_held3 (fun w' => w'.cell? pr = some (.slice (some ⟨g, 0, none⟩) n cap) ∧ w'.cell? pi = some (.int .i64 i) ∧ w'.cell? ⟨g, k, none⟩ = some (.int .i64 x)) (go_keep)
    (first | (go_at_call 47; refine (mul2_any w.heap.size 2 x i _ ?hh).mono ?_; (case hh => first | exact new_drew _ _ | exact new_at _ _); rintro e w' ⟨rfl, rfl⟩))
  go_wp2
  go_ret
  exact ⟨rfl, ((Below.refl _ _).alloc (Nat.le_refl _) _).drew⟩
set_option maxHeartbeats 1000000 in
theorem c3_any (k n cap capr : Nat) (x y z : Int) (pr px prow : Addr) (g h : Nat) (w : World) (hpr : w.cell? pr = some (.slice (some ⟨g, 0, none⟩) n cap)) (hpx : w.cell? px = some (.int .i64 x)) (hprow : w.cell? prow = some (.slice (some ⟨h, 0, none⟩) n capr)) (hy : w.cell? ⟨g, k, none⟩ = some (.int .i64 y)) (hz : w.cell? ⟨h, k, none⟩ = some (.int .i64 z)) (hk : k < n) :
    Calls Try.prog 51 #[.int .i64 k, .pointer (some pr), .pointer (some px), .pointer (some prow)] w fun e w' => e = .returned (.int .i64 (of (y - of (x * z)))) ∧ Below w.heap.size w w' := by
  have e0 : (0 : Int) ≤ (k : Int) := by omega
  have e1 : (k : Int) < (n : Int) := by omega
  go_enter Try.func51, Try.ntmps51
  go_wp2
  go_region_held3 (fun w' => w'.cell? pr = some (.slice (some ⟨g, 0, none⟩) n cap) ∧ w'.cell? px = some (.int .i64 x) ∧ w'.cell? prow = some (.slice (some ⟨h, 0, none⟩) n capr) ∧ w'.cell? ⟨g, k, none⟩ = some (.int .i64 y) ∧ w'.cell? ⟨h, k, none⟩ = some (.int .i64 z)) (go_keep)
    (first | (go_at_call 47; refine (mul2_any w.heap.size 2 x z _ ?hh).mono ?_; (case hh => first | exact new_drew _ _ | exact new_at _ _); rintro e w' ⟨rfl, rfl⟩) | (go_at_call 44; refine (sub_any y (of (x * z)) _).mono ?_; rintro e w' ⟨rfl, rfl⟩))
  go_wp2
  go_ret
  exact ⟨rfl, ((Below.refl _ _).alloc (Nat.le_refl _) _).drew⟩

set_option maxHeartbeats 2000000 in
theorem each_two (p0 p1 : Addr) (g n cap : Nat) (X Y : Nat → Int) (w : World) (hn : n ≤ 13) (hrow : RowIs w g n X)
    (hclos : ∀ (V : World) (k : Nat), k < n → w.grownBy V (some g) → RowIs V g n (fun j => if j < k then Y j else X j) → Calls Try.prog 50 #[.int .i64 k, .pointer (some p0), .pointer (some p1)] V fun e V' => e = .returned (.int .i64 (Y k)) ∧ Below V.heap.size V V') :
    Calls Try.prog 49 #[.slice (some ⟨g, 0, none⟩) n cap, .func (.func 50) #[] #[.pointer (some p0), .pointer (some p1)]] w fun e w' => e = .returned (.tuple #[]) ∧ RowIs w' g n Y ∧ w.grownBy w' (some g) := by
  have HC := Aside0.mk hclos
  have HR := Aside0.mk hrow
  clear hclos hrow
  go_enter Try.func49, Try.ntmps49
  go_wp2
  go_loopw [7] (fun c wr => ∃ k : Nat, k ≤ n ∧ c = .int .i64 k ∧ Aside0 (RowIs wr g n (fun j => if j < k then Y j else X j)) ∧ Aside0 (w.grownBy wr (some g))) (fun c _ => n - (intOf c).toNat)
  case atStart => exact ⟨0, Nat.zero_le _, rfl, ⟨HR.out.congr (fun k _ => by rw [if_neg (Nat.not_lt_zero k)])⟩, ⟨grown_below' (Below.refl _ _) _⟩⟩
  case round =>
    obtain ⟨k, hk, rfl, hr, hg⟩ := hrel
    by_cases hlt : k < n
    · have HC2 := Aside0.mk (HC.out wr k hlt hg.out hr.out)
      have e0 : (0 : Int) ≤ (k : Int) := by omega
      have e1 : (k : Int) < (n : Int) := by omega
      go_wp2_with (go_at_call 50; refine HC2.out.mono ?_; rintro e w3 ⟨rfl, hb3⟩; have HR3 := Aside0.mk (hr.out.below hb3); have HG3 := Aside0.mk (grown_then hg.out (grown_below' hb3 _)); obtain ⟨k0, k1⟩ := HR3.out.cell k hlt; clear hb3)
      go_roundw
      case rel => exact ⟨k + 1, by omega, by go_num, ⟨(RowIs.put HR3.out k (Y k)).congr (fun j _ => by by_cases e : j = k; (· rw [if_pos e, if_pos (by omega), e]); (· rw [if_neg e]; by_cases f : j < k; (· rw [if_pos f, if_pos (by omega)]); (· rw [if_neg f, if_neg (by omega)])))⟩, ⟨grown_then HG3.out (grown_put _ _ _ _)⟩⟩
      case measure => simp [intOf]; omega
    · have hkn : k = n := by omega
      have HE := Aside0.mk hkn
      clear hkn
      go_wp2
      go_end0
      exact ⟨rfl, hr.out.congr (fun j hj => by rw [if_pos (by rw [HE.out]; omega)]), hg.out⟩

set_option maxHeartbeats 2000000 in
theorem each_three (p0 p1 p2 : Addr) (g n cap : Nat) (X Y : Nat → Int) (w : World) (hn : n ≤ 13) (hrow : RowIs w g n X)
    (hclos : ∀ (V : World) (k : Nat), k < n → w.grownBy V (some g) → RowIs V g n (fun j => if j < k then Y j else X j) → Calls Try.prog 51 #[.int .i64 k, .pointer (some p0), .pointer (some p1), .pointer (some p2)] V fun e V' => e = .returned (.int .i64 (Y k)) ∧ Below V.heap.size V V') :
    Calls Try.prog 49 #[.slice (some ⟨g, 0, none⟩) n cap, .func (.func 51) #[] #[.pointer (some p0), .pointer (some p1), .pointer (some p2)]] w fun e w' => e = .returned (.tuple #[]) ∧ RowIs w' g n Y ∧ w.grownBy w' (some g) := by
  have HC := Aside0.mk hclos
  have HR := Aside0.mk hrow
  clear hclos hrow
  go_enter Try.func49, Try.ntmps49
  go_wp2
  go_loopw [7] (fun c wr => ∃ k : Nat, k ≤ n ∧ c = .int .i64 k ∧ Aside0 (RowIs wr g n (fun j => if j < k then Y j else X j)) ∧ Aside0 (w.grownBy wr (some g))) (fun c _ => n - (intOf c).toNat)
  case atStart => exact ⟨0, Nat.zero_le _, rfl, ⟨HR.out.congr (fun k _ => by rw [if_neg (Nat.not_lt_zero k)])⟩, ⟨grown_below' (Below.refl _ _) _⟩⟩
  case round =>
    obtain ⟨k, hk, rfl, hr, hg⟩ := hrel
    by_cases hlt : k < n
    · have HC2 := Aside0.mk (HC.out wr k hlt hg.out hr.out)
      have e0 : (0 : Int) ≤ (k : Int) := by omega
      have e1 : (k : Int) < (n : Int) := by omega
      go_wp2_with (go_at_call 51; refine HC2.out.mono ?_; rintro e w3 ⟨rfl, hb3⟩; have HR3 := Aside0.mk (hr.out.below hb3); have HG3 := Aside0.mk (grown_then hg.out (grown_below' hb3 _)); obtain ⟨k0, k1⟩ := HR3.out.cell k hlt; clear hb3)
      go_roundw
      case rel => exact ⟨k + 1, by omega, by go_num, ⟨(RowIs.put HR3.out k (Y k)).congr (fun j _ => by by_cases e : j = k; (· rw [if_pos e, if_pos (by omega), e]); (· rw [if_neg e]; by_cases f : j < k; (· rw [if_pos f, if_pos (by omega)]); (· rw [if_neg f, if_neg (by omega)])))⟩, ⟨grown_then HG3.out (grown_put _ _ _ _)⟩⟩
      case measure => simp [intOf]; omega
    · have hkn : k = n := by omega
      have HE := Aside0.mk hkn
      clear hkn
      go_wp2
      go_end0
      exact ⟨rfl, hr.out.congr (fun j hj => by rw [if_pos (by rw [HE.out]; omega)]), hg.out⟩
end Go.Proofs.Ytpjfelbamcgnhaa.Gv
