/- package pcg: Below, by hand. -/
import Derived.Test.YtkmdbidjdppdnaaHb
namespace Go.Proofs.Ytkmdbidjdppdnaa.Gv
open Go.RowKit Go.Proofs.Ytkmdbidjdppdnaa.X Go.Proofs.YtkmdbidjdppdnaaW.PrintWords Go.Proofs.YtkmdbidjdppdnaaW.PrintLast
/-- the state behind i steps -/
def its (s c : Int) : Nat → Int
  | 0 => s
  | i + 1 => stp (its s c i) c
theorem its_in {s c : Int} (h0 : 0 ≤ s) (h1 : s < 18446744073709551616) : ∀ i, 0 ≤ its s c i ∧ its s c i < 18446744073709551616
  | 0 => ⟨h0, h1⟩
  | _ + 1 => stp_in _ _
theorem grown_put {w W : World} {o : Option Nat} {b i : Nat} (h : w.grownBy W o) (hb : w.heap.size ≤ b) (v : Value) : w.grownBy (W.setCell ⟨b, i, none⟩ v) o :=
  ⟨h.os, h.tape, h.output, by have := h.size; simpa [World.setCell] using this, fun k hk hn => (Below.heap_setCell _ _ _ _ (show k ≠ b by omega)).trans (h.block k hk hn)⟩
theorem fits_any (b : Nat) (x L : Int) (w : World) (h : w.cell? ⟨b, 0, none⟩ = some (.int .u32 L)) :
    Calls Try.prog 34 #[.int .u32 x, .pointer (some ⟨b, 0, none⟩)] w fun e w' => e = .returned (.bool (decide (L ≤ x))) ∧ w = w' := by
  go_enter Try.func34, Try.ntmps34
  go_wp2
  go_ret
  exact ⟨by simp, rfl⟩
set_option maxHeartbeats 2000000 in
theorem below_nil (n : Int) (w : World) :
    Calls Try.prog 25 #[.pointer none, .int .u32 n] w fun e w' => e = .returned (.int .u32 0) ∧ w = w' := by
  go_enter Try.func25, Try.ntmps25
  go_wp2
  go_ret
  exact ⟨rfl, rfl⟩
set_option maxHeartbeats 2000000 in
theorem below_zero (g : Nat) (w : World) :
    Calls Try.prog 25 #[.pointer (some ⟨g, 0, none⟩), .int .u32 0] w fun e w' => e = .returned (.int .u32 0) ∧ w = w' := by
  go_enter Try.func25, Try.ntmps25
  go_wp2
  go_ret
  exact ⟨rfl, rfl⟩
set_option maxHeartbeats 4000000 in
theorem below_any (g : Nat) (s c n L r : Int) (t : Nat) (h0 : 0 ≤ s) (h1 : s < 18446744073709551616) (hn : 1 ≤ n) (hn2 : n < 4294967296) (hL : -n % 4294967296 % n = L) (hlow : ∀ i, i < t → nxt (its s c i) < L) (hhit : L ≤ nxt (its s c t)) (hr : nxt (its s c t) % n = r) (w : World) (h : Gn w 55 g s c) :
    Calls Try.prog 25 #[.pointer (some ⟨g, 0, none⟩), .int .u32 n] w fun e w' => e = .returned (.int .u32 r) ∧ Gn w' 55 g (its s c (t + 1)) c ∧ w.grownBy w' (some g) := by
  have HG := Aside0.mk h
  have HLow := Aside0.mk hlow
  have HHit := Aside0.mk hhit
  have HR := Aside0.mk hr
  have hn0 : (n == 0) = false := by rw [beq_eq_false_iff_ne]; omega
  have hlt := h.lt
  clear h hlow hhit hr
  go_enter Try.func25, Try.ntmps25
  go_wp2_with (go_at_call 33; refine (next_any g s c h0 h1 _ ?h1).mono ?_; (case h1 => exact blk_alloc HG.out _); rintro x w1 ⟨rfl, hG1, hg1⟩; have HG1 := Aside0.mk hG1; have HB1 := Aside0.mk (blk_grown (blk_new w (.cells #[.int .u32 L] 56)) hg1 (fun e => by injection e with e; omega)); have HGr := Aside0.mk (World.grownBy.trans (World.grownBy_alloc w (.cells #[.int .u32 L] 56) (some g)) hg1); clear hG1 hg1)
  go_loopg [8] t (fun kq x wr => ∃ i : Nat, kq + i = t ∧ x = .int .u32 (nxt (its s c i)) ∧ Aside0 (Gn wr 55 g (its s c (i + 1)) c) ∧ Aside0 (wr.heap[w.heap.size]? = some (.cells #[.int .u32 L] 56 (0, 0))) ∧ Aside0 (w.grownBy wr (some g)))
  case atStart => exact ⟨0, by omega, rfl, HG1, HB1, HGr⟩
  case round =>
    obtain ⟨i, hi, rfl, HGi, HBi, HGri⟩ := hrel
    have kb : wr.cell? ⟨w.heap.size, 0, none⟩ = some (.int .u32 L) := (blk_cell HBi.out 0).trans rfl
    cases gk with
    | zero =>
      have e : i = t := by omega
      subst e
      have hd : decide (L ≤ nxt (its s c i)) = true := decide_eq_true HHit.out
      generalize hz : nxt (its s c i) = z at *
      obtain ⟨z0, z1⟩ : 0 ≤ z ∧ z < 4294967296 := by rw [← hz]; exact nxt_in _
      clear hz
      go_wp2_with (go_at_call 34; refine (fits_any _ _ L _ kb).mono ?_; rintro x w2 ⟨rfl, rfl⟩)
      go_ret
      exact ⟨by rw [← HR.out]; first | rfl | simp, HGi.out, HGri.out⟩
    | succ k4 =>
      have hd : decide (L ≤ nxt (its s c i)) = false := decide_eq_false (by have := HLow.out i (by omega); omega)
      obtain ⟨s0, s1⟩ := its_in (c := c) h0 h1 (i + 1)
      go_wp2_with (first
        | (go_at_call 34; refine (fits_any _ _ L _ kb).mono ?_; rintro x w2 ⟨rfl, rfl⟩)
        | (go_at_call 33; refine (next_any g _ c s0 s1 _ HGi.out).mono ?_; rintro x w1 ⟨rfl, hG1, hg1⟩; have HG3 := Aside0.mk hG1; have HB3 := Aside0.mk (blk_grown HBi.out hg1 (fun e => by injection e with e; omega)); have HGr3 := Aside0.mk (World.grownBy.trans HGri.out hg1); clear hG1 hg1))
      go_roundg k4
      case measure => omega
      case rel => exact ⟨i + 1, by omega, rfl, HG3, HB3, HGr3⟩
end Go.Proofs.Ytkmdbidjdppdnaa.Gv
