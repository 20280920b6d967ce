/- packages pcg and its document: the state, steps, New, by hand. -/
import Derived.Test.YtkmdbidjdppdnaaFa
import Derived.Test.YtkmdbidjdppdnaaXxK07
import Derived.Deep.RegionHeld3
import Derived.BigQuiet
import Derived.Deep.QuietTactic
import Derived.RegionTactic
import Derived.OwnWalk
import Derived.Laws.EntriesVeiled
import Derived.Laws.Bits64
import Derived.IntWalk
namespace Go.Proofs.Ytkmdbidjdppdnaa.Gv
open Go.RowKit Go.Proofs.Ytkmdbidjdppdnaa.X Go.Proofs.YtkmdbidjdppdnaaW.PrintWords Go.Proofs.YtkmdbidjdppdnaaW.PrintLast
/-- a generator's block -/
def Gn (W : World) (t : TypeId) (g : Nat) (s c : Int) : Prop := W.heap[g]? = some (.cells #[.int .u64 s, .int .u64 c] t (0, 0))
def stp (s c : Int) : Int := IntKind.u64.wrap (IntKind.u64.wrap (s * 6364136223846793005) + c)
theorem Gn.cells {W : World} {t : TypeId} {g : Nat} {s c : Int} (h : Gn W t g s c) : W.cell? ⟨g, 0, none⟩ = some (.int .u64 s) ∧ W.cell? ⟨g, 1, none⟩ = some (.int .u64 c) ∧ W.frozen? ⟨g, 0, none⟩ = false :=
  ⟨(blk_cell h 0).trans rfl, (blk_cell h 1).trans rfl, blk_frozen h 0⟩
theorem Gn.far {W W1 : World} {t : TypeId} {g g2 : Nat} {s c : Int} (h : Gn W t g s c) (hg : W.grownBy W1 (some g2)) (hne : g ≠ g2) : Gn W1 t g s c := blk_grown h hg (fun e => hne (by injection e))
theorem Gn.below {W W1 : World} {t : TypeId} {g : Nat} {s c : Int} (h : Gn W t g s c) (hb : Below W.heap.size W W1) : Gn W1 t g s c := blk_below h hb
theorem Gn.lt {W : World} {t : TypeId} {g : Nat} {s c : Int} (h : Gn W t g s c) : g < W.heap.size := blk_lt h
theorem Gn.put {W : World} {t : TypeId} {g : Nat} {s c : Int} (h : Gn W t g s c) (x : Int) : Gn (W.setCell ⟨g, 0, none⟩ (.int .u64 x)) t g x c ∧ W.grownBy (W.setCell ⟨g, 0, none⟩ (.int .u64 x)) (some g) :=
  ⟨blk_put h 0 _ rfl, ⟨rfl, rfl, rfl, by simp [World.setCell], fun k _ hk => Below.heap_setCell _ _ _ _ (fun e => hk (by rw [e]))⟩⟩
theorem grown_drew {W W1 : World} {o : Option Nat} (h : W.grownBy W1 o) : W.grownBy W1.drew o := ⟨h.os, h.tape, h.output, h.size, h.block⟩
theorem grown_below {W W1 : World} {g b : Nat} {w : World} (h : Below b w W) (hg : W.grownBy W1 (some g)) (hb : b ≤ W.heap.size) (hg2 : b ≤ g) : Below b w W1 := h.grown hg hb (fun k e => by injection e with e; omega)
set_option maxHeartbeats 2000000 in
theorem step_any (g : Nat) (s c : Int) (w : World) (h : Gn w 55 g s c) :
    Calls Try.prog 24 #[.pointer (some ⟨g, 0, none⟩)] w fun e w' => e = .returned (.tuple #[]) ∧ Gn w' 55 g (stp s c) c ∧ w.grownBy w' (some g) := by
  obtain ⟨k0, k1, k2⟩ := h.cells
  have HG := Aside0.mk h
  clear h
  go_enter Try.func24, Try.ntmps24
  go_region
  go_wp2
  go_end0
  exact ⟨rfl, (HG.out.put _).1, grown_drew (HG.out.put _).2⟩
set_option maxHeartbeats 2000000 in
theorem rstep_any (g : Nat) (s c : Int) (w : World) (h : Gn w 60 g s c) :
    Calls Try.prog 27 #[.pointer (some ⟨g, 0, none⟩)] w fun e w' => e = .returned (.tuple #[]) ∧ Gn w' 60 g (stp s c) c ∧ w.grownBy w' (some g) := by
  obtain ⟨k0, k1, k2⟩ := h.cells
  have HG := Aside0.mk h
  clear h
  go_enter Try.func27, Try.ntmps27
  go_region
  go_wp2
  go_end0
  exact ⟨rfl, (HG.out.put _).1, grown_drew (HG.out.put _).2⟩
def cst (d : Int) : Int := 2 * d % 18446744073709551616 + 1
def sst (s d : Int) : Int := stp (IntKind.u64.wrap (stp 0 (cst d) + s)) (cst d)
theorem cst_or (d : Int) : bits .or .u64 (IntKind.u64.wrap (d * 2)) 1 = cst d := by
  rw [IntKind.wrap_u64]
  have h : d * 2 % 18446744073709551616 % 2 = 0 := by omega
  rw [bits_join .u64 64 (by decide) (fun n h0 h1 => by rw [IntKind.wrap_u64]; omega) 1 _ 1 (by omega) (by omega) (by omega) (by decide) (by decide) (by decide)]
  unfold cst
  omega
theorem cst_add (d : Int) : IntKind.u64.wrap (IntKind.u64.wrap (2 * d) + 1) = cst d := by
  rw [IntKind.wrap_u64, IntKind.wrap_u64]
  unfold cst
  omega
set_option maxHeartbeats 2000000 in
theorem new_any (s d : Int) (w : World) :
    Calls Try.prog 12 #[.int .u64 s, .int .u64 d] w fun e w' => ∃ g, e = .returned (.pointer (some ⟨g, 0, none⟩)) ∧ w.heap.size ≤ g ∧ Gn w' 55 g (sst s d) (cst d) ∧ Below w.heap.size w w' := by
  have hc := cst_or d
  go_enter Try.func12, Try.ntmps12
  go_wp2_with (first
    | (go_at_call 24; refine (step_any w.heap.size 0 (cst d) _ ?h1).mono ?_; (case h1 => exact blk_new _ _); rintro x w1 ⟨rfl, hG1, hg1⟩; have HG1 := Aside0.mk hG1; have HB1 := Aside0.mk (grown_below (Below.alloc (Below.refl w.heap.size w) (Nat.le_refl _) _) hg1 (by simp) (Nat.le_refl _)); clear hg1; obtain ⟨k0, k1, k2⟩ := hG1.cells; clear hG1)
    | (go_at_call 24; refine (step_any w.heap.size (IntKind.u64.wrap (stp 0 (cst d) + s)) (cst d) _ ?h2).mono ?_; (case h2 => exact (HG1.out.put _).1); rintro x w2 ⟨rfl, hG2, hg2⟩; have HG2 := Aside0.mk hG2; have HB2 := Aside0.mk (grown_below (grown_below HB1.out (HG1.out.put _).2 HB1.out.size (Nat.le_refl _)) hg2 (by have h := HB1.out.size; simpa [World.setCell] using h) (Nat.le_refl _)); clear hg2 hG2))
  go_ret
  exact ⟨_, rfl, Nat.le_refl _, HG2.out, HB2.out⟩
set_option maxHeartbeats 2000000 in
theorem rnew_any (s d : Int) (w : World) :
    Calls Try.prog 15 #[.int .u64 s, .int .u64 d] w fun e w' => ∃ g, e = .returned (.pointer (some ⟨g, 0, none⟩)) ∧ w.heap.size ≤ g ∧ Gn w' 60 g (sst s d) (cst d) ∧ Below w.heap.size w w' := by
  have hc := cst_add d
  go_enter Try.func15, Try.ntmps15
  go_wp2_with (first
    | (go_at_call 27; refine (rstep_any w.heap.size 0 (cst d) _ ?h1).mono ?_; (case h1 => exact blk_new _ _); rintro x w1 ⟨rfl, hG1, hg1⟩; have HG1 := Aside0.mk hG1; have HB1 := Aside0.mk (grown_below (Below.alloc (Below.refl w.heap.size w) (Nat.le_refl _) _) hg1 (by simp) (Nat.le_refl _)); clear hg1; obtain ⟨k0, k1, k2⟩ := hG1.cells; clear hG1)
    | (go_at_call 27; refine (rstep_any w.heap.size (IntKind.u64.wrap (stp 0 (cst d) + s)) (cst d) _ ?h2).mono ?_; (case h2 => exact (HG1.out.put _).1); rintro x w2 ⟨rfl, hG2, hg2⟩; have HG2 := Aside0.mk hG2; have HB2 := Aside0.mk (grown_below (grown_below HB1.out (HG1.out.put _).2 HB1.out.size (Nat.le_refl _)) hg2 (by have h := HB1.out.size; simpa [World.setCell] using h) (Nat.le_refl _)); clear hg2 hG2))
  go_ret
  exact ⟨_, rfl, Nat.le_refl _, HG2.out, HB2.out⟩
end Go.Proofs.Ytkmdbidjdppdnaa.Gv
