/- Contracts of package series' functions that take or make function values. -/
import Derived.Test.YtpjfelbamcgnhaaGb
import Derived.Deep.RegionLaw
import Derived.Deep.AppendLies
namespace Go.Proofs.Ytpjfelbamcgnhaa.Gv
open Go.RowKit Go.Proofs.YtpjfelbamcgnhaaW.PrintWords Pl

/-- the first k numbers of a list added to another one's -/
def addTo (s l : List Int) : Nat → List Int
  | 0 => s
  | k + 1 => (addTo s l k).set k (of ((addTo s l k).getD k 0 + l.getD k 0))
theorem addTo_length (s l : List Int) : ∀ k, (addTo s l k).length = s.length
  | 0 => rfl
  | k + 1 => by rw [addTo, List.length_set, addTo_length s l k]
theorem far_of {w w1 : World} {g : Nat} (h : w.grownBy w1 (some g)) {a : Addr} {v : Value} (hc : w.cell? a = some v) (hne : a.block ≠ g) : w1.cell? a = some v := by
  rw [h.cell_far _ (World.block_lt_of_cell? w a hc) (by intro e; injection e with e; exact hne e)]; exact hc
theorem grown_drew {a w : World} {row : Option Nat} (h : a.grownBy w row) : a.grownBy w.drew row := ⟨h.os, h.tape, h.output, h.size, h.block⟩
theorem grown_alloc {a w : World} {row : Option Nat} (h : a.grownBy w row) (o : Obj) : a.grownBy (w.alloc o) row :=
  ⟨h.os, h.tape, h.output, Nat.le_trans h.size (by simp), fun i hi hne => (Below.heap_alloc w o i (Nat.lt_of_lt_of_le hi h.size)).trans (h.block i hi hne)⟩
set_option maxHeartbeats 2000000 in
theorem adderc_any (xs ys : List Int) (A : Option Addr) (c g cg base : Nat) (ok : Nat → Prop) (pb : Addr) (w : World)
    (hra : ReadsInt w .i64 A xs.length xs) (hfar : ∀ ad, A = some ad → 0 < xs.length → ad.block ≠ g)
    (hpb : w.cell? pb = some (.slice (some ⟨g, 0, none⟩) ys.length cg)) (hpg : pb.block ≠ g)
    (HO : Kd.R (Kd.int .i64) 3 w base ok (.slice (some ⟨g, 0, none⟩) ys.length cg) ys) (hl : xs.length ≤ ys.length) :
    Calls Try.prog 60 #[.slice A xs.length c, .pointer (some pb)] w fun e w' => e = .returned (.tuple #[]) ∧ Kd.R (Kd.int .i64) 3 w' base ok (.slice (some ⟨g, 0, none⟩) ys.length cg) (addTo ys xs xs.length) ∧ w.grownBy w' (some g) := by
  have hlen := hra.2.1
  have HO' := Aside0.mk HO
  have hra' := Aside0.mk hra
  have hfar' := Aside0.mk hfar
  clear HO hra hfar
  go_enter Try.func60, Try.ntmps60
  go_wp2
  go_loopw [7] (fun i wr => ∃ k : Nat, k ≤ xs.length ∧ i = .int .i64 k ∧ Aside0 (Kd.R (Kd.int .i64) 3 wr base ok (.slice (some ⟨g, 0, none⟩) ys.length cg) (addTo ys xs k)) ∧ Aside0 (w.grownBy wr (some g))) (fun i _ => xs.length - (intOf i).toNat)
  case atStart => exact ⟨0, Nat.zero_le _, rfl, HO', ⟨World.grownBy.refl _ _⟩⟩
  case round =>
    obtain ⟨k, hk, rfl, HR, HG⟩ := hrel
    by_cases hlt : k < xs.length
    · obtain ⟨ada, hA, hx⟩ := hra'.out.at_ (k : Int) (by omega) (by omega)
      rw [Int.toNat_natCast] at hx
      have hne := hfar'.out _ hA (by omega)
      cases hA
      have hx1 := far_of HG.out hx (by rw [add_block]; exact hne)
      have hp1 := far_of HG.out hpb hpg
      have X : rd xs (k : Int) = xs.getD k 0 := rfl
      rw [X] at hx1 hx
      have z0 : (0 : Int) ≤ k := by omega
      have z1 : (k : Int) < xs.length := by omega
      have z2 : (k : Int) < ys.length := by omega
      obtain ⟨hy1, hf1⟩ := Kd.R_celln 0 HR.out (k : Int) z0 z2
      rw [Int.toNat_natCast] at hy1 hf1
      have Y : rdOf 0 (addTo ys xs k) (k : Int) = (addTo ys xs k).getD k 0 := rfl
      rw [Y] at hy1
      have HPut0 := Kd.R_putg HR.out (k : Int) (of ((addTo ys xs k).getD k 0 + xs.getD k 0))
      rw [Int.toNat_natCast] at HPut0
      have HPut := Aside0.mk HPut0
      clear HPut0
      have HGk := Aside0.mk (show addTo ys xs (k + 1) = _ from rfl)
      have hne1 := World.new_ne wr pb hp1
      have hne2 : ¬ wr.heap.size = g := World.new_ne wr _ hy1
      have hne3 : ¬ g = wr.heap.size := fun e => hne2 e.symm
      have hlt2 : g < wr.heap.size := World.block_lt_of_cell? wr _ hy1
      have hlt3 : pb.block < wr.heap.size := World.block_lt_of_cell? wr _ hp1
      clear X Y hx
      generalize hxx : xs.getD k 0 = x at *
      have Hxx := Aside0.mk hxx
      clear hxx
      generalize hss : addTo ys xs k = s at *
      generalize hyy : s.getD k 0 = y at *
      have Hss := Aside0.mk hss
      have Hyy := Aside0.mk hyy
      clear hss hyy
      go_wp2
      go_region_with ((go_at_call 61; refine (add2_any wr.heap.size 2 y x _ ?hh).mono ?_; (case hh => first | exact new_drew' _ _ _ (by simp) | exact new_at' _ _ _ (by simp)); rintro e w' ⟨rfl, rfl⟩))
      all_goals go_wp2
      all_goals
        go_roundw
        case rel => exact ⟨k + 1, by omega, by go_num, ⟨by rw [addTo, Hss.out, Hyy.out, Hxx.out]; exact Kd.R_drew (Kd.R_alloc HPut.out.1 _)⟩, ⟨World.grownBy.trans HG.out (grown_drew (grown_alloc HPut.out.2 _))⟩⟩
        case measure => simp [intOf]; omega
    · have hkn : k = xs.length := by omega
      have H := Aside0.mk hkn
      clear hkn
      go_wp2
      go_end0
      exact ⟨rfl, by have h := HR.out; rw [H.out] at h; exact h, HG.out⟩
theorem made_ints (n : Nat) (hn : n ≤ 1000000) (W : World) :
    (Instr.makeSlice 22 (.int .i64 (n : Int)) (.int .i64 (n : Int))).run Try.prog W = .ok (.slice (some ⟨W.heap.size, 0, none⟩) n n) (W.alloc (.cells (madeCells #[.int .i64 0] n) 3)) :=
  run_make_row' (P := Try.prog) 22 3 (.int .i64 0) 8 Try.underlying22 info3 rfl .i64 .i64 n (by omega) (by omega) W
theorem made_owns (n : Nat) (hn : n ≤ 1000000) (W : World) (base : Nat) (hb : base ≤ W.heap.size) :
    Kd.R (Kd.int .i64) 3 (W.alloc (.cells (madeCells #[.int .i64 0] n) 3)) base (fun _ => True) (.slice (some ⟨W.heap.size, 0, none⟩) n n) (List.replicate n 0) := by
  obtain ⟨i0, hi, hzz⟩ := Option.map_eq_some_iff.1 info3
  simp only [Prod.mk.injEq] at hzz
  obtain ⟨hz0, hz1, hz2⟩ := hzz
  obtain ⟨w', hr, ho, _⟩ := run_make_full (P := Try.prog) W base 22 3 i0 (.int .i64 0) 1 Try.underlying22 hi hz0 hz1 .i64 .i64 n (by rw [hz2]; omega) (by unfold maxLen; omega) hb
  rw [made_ints n hn W] at hr
  injection hr with _ hw
  subst hw
  refine Kd.R_of_own ?_ (fun _ _ => trivial)
  rw [List.length_replicate]
  have e : (madeCells (Value.int .i64 0).cells (n * 1)).toList = encs (Value.int .i64) (List.replicate n 0) := by
    apply List.ext_getElem
    · simp [madeCells, encs]
    · intro i h1 h2
      simp [madeCells, encs, Value.cells, Nat.mod_one]
  rw [← e]
  exact ho
set_option maxHeartbeats 1000000 in
theorem adder_any (n : Nat) (hn : n ≤ 1000000) (w : World) :
    Calls Try.prog 54 #[.int .i64 n] w fun e w' => ∃ (g : Nat) (pb : Addr), e = .returned (.tuple #[.func (.func 60) #[] #[.pointer (some pb)], .slice (some ⟨g, 0, none⟩) n n]) ∧ w'.cell? pb = some (.slice (some ⟨g, 0, none⟩) n n) ∧ pb.block ≠ g ∧ g < w'.heap.size ∧ w.heap.size ≤ g ∧ w.heap.size ≤ pb.block ∧ pb.block < w'.heap.size ∧ Kd.R (Kd.int .i64) 3 w' w.heap.size (fun _ => True) (.slice (some ⟨g, 0, none⟩) n n) (List.replicate n 0) ∧ Below w.heap.size w w' := by
  have hmk := made_ints n hn
  have hmf : ∀ (fn : Fn) (first cap : Array Value) (w : World), (Instr.makeFunc fn first cap).run Try.prog w = .ok (.func fn first cap) w := fun _ _ _ _ => rfl
  have HO := Aside0.mk (made_owns n hn w w.heap.size (Nat.le_refl _))
  go_enter Try.func54, Try.ntmps54
  go_wp2
  go_region_held3 (fun w' => w'.cell? ⟨w.heap.size + 1, 0, none⟩ = some (.slice (some ⟨w.heap.size, 0, none⟩) n n)) (go_keep) (fail)
  all_goals go_wp2
  all_goals go_ret2
  all_goals exact ⟨w.heap.size, ⟨w.heap.size + 1, 0, none⟩, rfl, by assumption, by simp, by simp; omega, Nat.le_refl _, by simp, by simp, Kd.R_drew (Kd.R_alloc HO.out _), by go_grown⟩
end Go.Proofs.Ytpjfelbamcgnhaa.Gv
