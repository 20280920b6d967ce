/- Four numbers shuffled by the generator of awake: a walk. -/
import Derived.Test.YtkmdbidjdppdnaaQf
import Derived.Deep.RegionHeld3
import Derived.BigRegion
import Derived.RegionTactic
import Derived.OwnWalk
import Derived.IntWalk
namespace Go.Proofs.Ytkmdbidjdppdnaa.Gv
open Go.RowKit Go.Proofs.Ytkmdbidjdppdnaa.X Go.Proofs.YtkmdbidjdppdnaaW.PrintWords Go.Proofs.YtkmdbidjdppdnaaW.PrintLast Go.Proofs.YtkmdbidjdppdnaaW.PrintMore
set_option linter.unusedVariables false
set_option linter.unusedSimpArgs false
attribute [local go_sem] max2_int min2_int max_two min_two
theorem sst_in' (s d : Int) : 0 ≤ sst s d ∧ sst s d < 18446744073709551616 := stp_in _ _
/-- the numbers from 0 on -/
def upL (m : Nat) : List Int := (List.range m).map Int.ofNat
theorem upL_length (m : Nat) : (upL m).length = m := by simp [upL]
theorem upL_succ (m : Nat) : upL (m + 1) = upL m ++ [(m : Int)] := by simp [upL, List.range_succ]
/-- the list ahead of the round at i -/
def shS : Nat → List Int
  | 0 => [1, 2, 0, 3]
  | 1 => [2, 1, 0, 3]
  | _ => [0, 1, 2, 3]
set_option maxHeartbeats 8000000 in
theorem shuffle4 (g : Nat) (w : World) (hG : Gn w 55 g (sst 42 54) (cst 54)) :
    Calls Try.prog 13 #[.int .i64 4, .pointer (some ⟨g, 0, none⟩)] w fun e w' => ∃ v, e = .returned v ∧ Kd.R (Kd.int .i64) 3 w' w.heap.size (fun _ => True) v [1, 2, 0, 3] ∧ w.grownBy w' (some g) := by
  have e1 : nxt (sst 42 54) = 2707161783 := by decide +kernel
  have e2 : nxt (stp (sst 42 54) (cst 54)) = 2068313097 := by decide +kernel
  have e3 : nxt (stp (stp (sst 42 54) (cst 54)) (cst 54)) = 3122475824 := by decide +kernel
  have hs1 := sst_in' 42 54
  generalize sst 42 54 = s at *
  generalize cst 54 = c at *
  have hs2 := stp_in s c
  have hs3 := stp_in (stp s c) c
  have E1 := Aside0.mk e1
  have E2 := Aside0.mk e2
  have E3 := Aside0.mk e3
  have HG := Aside0.mk hG
  have HLt := Aside0.mk hG.lt
  clear e1 e2 e3 hG
  go_enter Try.func13, Try.ntmps13
  go_wp2
  go_loopw [5, 14] (fun v k' wr => ∃ k : Nat, k ≤ 4 ∧ .int .i64 (k : Int) = k' ∧ Aside0 (wr.ownsRow w.heap.size 3 1 v (upL k).length (nums .i64 (upL k))) ∧ Aside0 (Below w.heap.size w wr)) (fun _ k' _ => 4 - (intOf k').toNat)
  case atStart => exact ⟨0, Nat.zero_le _, rfl, ⟨by simpa [upL, nums] using own_nil _ _ _ _⟩, ⟨Below.refl _ _⟩⟩
  case round =>
    obtain ⟨k, hk, rfl, ho, hb⟩ := hrel
    by_cases hlt : k < 4
    · have HTS := Aside0.mk (upL_succ k)
      go_wp2_with (at_builtin; refine print_append_num (w0 := w) w.heap.size rfl (.tmp 17) (.tmp 19) 40 3 .i64 8 rfl Try.underlying40 info3 (by decide) _ (upL k) (k : Int) rfl rfl ho.out hb.out hb.out.size (by rw [upL_length]; omega) ?_; intro v1 w4 ho4 hb4 hg4 hat4; have HO4 := Aside0.mk ho4; have HB4 := Aside0.mk hb4; clear ho4 hb4 hg4 hat4)
      go_roundw
      case rel => exact ⟨k + 1, by omega, by go_num, ⟨by rw [HTS.out]; exact HO4.out⟩, HB4⟩
      case measure => simp [intOf]; omega
    · obtain rfl : k = 4 := by omega
      rw [show ((4 : Nat) : Int) = 4 from rfl]
      have hO4 : Kd.R (Kd.int .i64) 3 _ w.heap.size (fun _ => True) _ [0, 1, 2, 3] := Kd.R_of_own (xs := ([0, 1, 2, 3] : List Int)) (show World.ownsRow wr w.heap.size 3 1 _ 4 (encs (Value.int .i64) [0, 1, 2, 3]) from ho.out) (fun _ _ => trivial)
      obtain ⟨Av, cv, rfl⟩ : ∃ (Av : Option Addr) (cv : Nat), _ = Value.slice Av 4 cv := Kd.R_slice hO4
      obtain ⟨b, rfl⟩ : ∃ b, Av = some ⟨b, 0, none⟩ := by
        obtain ⟨inner, hin⟩ := Kd.R_own hO4
        rcases hin.2 with ⟨h0, _⟩ | ⟨g2, cap, cur, h0, _⟩
        · exact absurd h0 (by simp)
        · injection h0 with h0 _
          exact ⟨g2, h0⟩
      have HR0 := Aside0.mk hO4
      have HGb := Aside0.mk (HG.out.below hb.out)
      have HGr := Aside0.mk (show w.grownBy wr (some g) from ⟨hb.out.os, hb.out.tape, hb.out.output, hb.out.size, fun i hi _ => hb.out.block i hi⟩)
      have hbg : w.heap.size ≤ b := ((Kd.R_bound hO4).1 b rfl).2.1
      have hbne : b ≠ g := by have := HLt.out; omega
      have HBG := Aside0.mk hbg
      have HBN := Aside0.mk hbne
      clear hO4 hbg hbne
      go_wp2
      go_loopw [7] (fun i' wr => ∃ i : Nat, i ≤ 3 ∧ .int .i64 (i : Int) = i' ∧ Aside0 (Kd.R (Kd.int .i64) 3 wr w.heap.size (fun _ => True) (.slice (some ⟨b, 0, none⟩) 4 cv) (shS i)) ∧ Aside0 (Gn wr 55 g (its s c (3 - i)) c) ∧ Aside0 (w.grownBy wr (some g))) (fun i' _ => (intOf i').toNat)
      case atStart => exact ⟨3, Nat.le_refl _, rfl, HR0, HGb, HGr⟩
      case round =>
        obtain ⟨i, hi, rfl, hR, hGn, hGr⟩ := hrel
        have hi4 : i = 0 ∨ i = 1 ∨ i = 2 ∨ i = 3 := by omega
        rcases hi4 with rfl | rfl | rfl | rfl
        · rw [show ((0 : Nat) : Int) = 0 from rfl]
          go_wp2
          go_ret
          exact ⟨_, rfl, hR.out, hGr.out⟩
        · rw [show ((1 : Nat) : Int) = 1 from rfl]
          have HBe := Aside0.mk (fun (W : World) (hW : Gn W 55 g (stp (stp s c) c) c) => below_any g (stp (stp s c) c) c 2 0 0 0 hs3.1 hs3.2 (by decide) (by decide) (by decide) (fun i h => absurd h (Nat.not_lt_zero _)) (by show (0 : Int) ≤ nxt (stp (stp s c) c); rw [E3.out]; decide) (by show nxt (stp (stp s c) c) % 2 = 0; rw [E3.out]; decide) W hW)
          go_wp2_with (go_at_call 25; refine (HBe.out _ hGn.out).mono ?_; rintro x w2 ⟨rfl, hG2, hg2⟩; have HG2 := Aside0.mk hG2; have HGg := Aside0.mk (World.grownBy.trans hGr.out hg2); have HR2 : Aside0 (Kd.R (Kd.int .i64) 3 w2 w.heap.size (fun _ => True) (.slice (some ⟨b, 0, none⟩) 4 cv) (shS 1)) := ⟨Kd.R_mono (Kd.R_grown (Kd.R_mono (Kd.R_bound hR.out) (fun k hk => (show k ≠ g from by have := hk.2.1; have := HLt.out; omega))) hg2 (fun k hk e => hk (by injection e))) (fun _ _ => trivial)⟩; clear hG2 hg2)
          have HRd := HR2
          obtain ⟨la, lf⟩ := Kd.R_celln 0 HRd.out (1 : Int) (by decide) (by decide)
          obtain ⟨lb, lg⟩ := Kd.R_celln 0 HRd.out (0 : Int) (by decide) (by decide)
          have hp1 := Kd.R_putg HRd.out (1 : Int) 2
          have hq1 := Aside0.mk hp1
          obtain ⟨lc, lh⟩ := Kd.R_celln 0 hp1.1 (0 : Int) (by decide) (by decide)
          have hp2 := Kd.R_putg hp1.1 (0 : Int) 1
          have HP2 := Aside0.mk hp2
          replace la : w2.cell? ⟨b, 1, none⟩ = some (.int .i64 1) := la
          replace lb : w2.cell? ⟨b, 0, none⟩ = some (.int .i64 2) := lb
          replace lc : (w2.setCell ⟨b, 1, none⟩ (.int .i64 2)).cell? ⟨b, 0, none⟩ = some (.int .i64 2) := lc
          replace lf : w2.frozen? ⟨b, 1, none⟩ = false := lf
          replace lg : w2.frozen? ⟨b, 0, none⟩ = false := lg
          replace lh : (w2.setCell ⟨b, 1, none⟩ (.int .i64 2)).frozen? ⟨b, 0, none⟩ = false := lh
          clear hp1 hp2
          go_region
          all_goals go_wp2
          all_goals
            go_roundw
            case rel => exact ⟨0, by omega, rfl, ⟨Kd.R_drew HP2.out.1⟩, ⟨Gn.far (Gn.far (show Gn w2 55 g (its s c (3 - 0)) c from HG2.out) hq1.out.2 (fun e => HBN.out e.symm)) (grown_drew HP2.out.2) (fun e => HBN.out e.symm)⟩, ⟨grown_drew (grown_put (grown_put HGg.out HBG.out _) HBG.out _)⟩⟩
            case measure => simp [intOf]
        · rw [show ((2 : Nat) : Int) = 2 from rfl]
          have HBe := Aside0.mk (fun (W : World) (hW : Gn W 55 g (stp s c) c) => below_any g (stp s c) c 3 1 0 0 hs2.1 hs2.2 (by decide) (by decide) (by decide) (fun i h => absurd h (Nat.not_lt_zero _)) (by show (1 : Int) ≤ nxt (stp s c); rw [E2.out]; decide) (by show nxt (stp s c) % 3 = 0; rw [E2.out]; decide) W hW)
          go_wp2_with (go_at_call 25; refine (HBe.out _ hGn.out).mono ?_; rintro x w2 ⟨rfl, hG2, hg2⟩; have HG2 := Aside0.mk hG2; have HGg := Aside0.mk (World.grownBy.trans hGr.out hg2); have HR2 : Aside0 (Kd.R (Kd.int .i64) 3 w2 w.heap.size (fun _ => True) (.slice (some ⟨b, 0, none⟩) 4 cv) (shS 2)) := ⟨Kd.R_mono (Kd.R_grown (Kd.R_mono (Kd.R_bound hR.out) (fun k hk => (show k ≠ g from by have := hk.2.1; have := HLt.out; omega))) hg2 (fun k hk e => hk (by injection e))) (fun _ _ => trivial)⟩; clear hG2 hg2)
          have HRd := HR2
          obtain ⟨la, lf⟩ := Kd.R_celln 0 HRd.out (2 : Int) (by decide) (by decide)
          obtain ⟨lb, lg⟩ := Kd.R_celln 0 HRd.out (0 : Int) (by decide) (by decide)
          have hp1 := Kd.R_putg HRd.out (2 : Int) 0
          have hq1 := Aside0.mk hp1
          obtain ⟨lc, lh⟩ := Kd.R_celln 0 hp1.1 (0 : Int) (by decide) (by decide)
          have hp2 := Kd.R_putg hp1.1 (0 : Int) 2
          have HP2 := Aside0.mk hp2
          replace la : w2.cell? ⟨b, 2, none⟩ = some (.int .i64 2) := la
          replace lb : w2.cell? ⟨b, 0, none⟩ = some (.int .i64 0) := lb
          replace lc : (w2.setCell ⟨b, 2, none⟩ (.int .i64 0)).cell? ⟨b, 0, none⟩ = some (.int .i64 0) := lc
          replace lf : w2.frozen? ⟨b, 2, none⟩ = false := lf
          replace lg : w2.frozen? ⟨b, 0, none⟩ = false := lg
          replace lh : (w2.setCell ⟨b, 2, none⟩ (.int .i64 0)).frozen? ⟨b, 0, none⟩ = false := lh
          clear hp1 hp2
          go_region
          all_goals go_wp2
          all_goals
            go_roundw
            case rel => exact ⟨1, by omega, rfl, ⟨Kd.R_drew HP2.out.1⟩, ⟨Gn.far (Gn.far (show Gn w2 55 g (its s c (3 - 1)) c from HG2.out) hq1.out.2 (fun e => HBN.out e.symm)) (grown_drew HP2.out.2) (fun e => HBN.out e.symm)⟩, ⟨grown_drew (grown_put (grown_put HGg.out HBG.out _) HBG.out _)⟩⟩
            case measure => simp [intOf]
        · rw [show ((3 : Nat) : Int) = 3 from rfl]
          have HBe := Aside0.mk (fun (W : World) (hW : Gn W 55 g (s) c) => below_any g (s) c 4 0 3 0 hs1.1 hs1.2 (by decide) (by decide) (by decide) (fun i h => absurd h (Nat.not_lt_zero _)) (by show (0 : Int) ≤ nxt (s); rw [E1.out]; decide) (by show nxt (s) % 4 = 3; rw [E1.out]; decide) W hW)
          go_wp2_with (go_at_call 25; refine (HBe.out _ hGn.out).mono ?_; rintro x w2 ⟨rfl, hG2, hg2⟩; have HG2 := Aside0.mk hG2; have HGg := Aside0.mk (World.grownBy.trans hGr.out hg2); have HR2 : Aside0 (Kd.R (Kd.int .i64) 3 w2 w.heap.size (fun _ => True) (.slice (some ⟨b, 0, none⟩) 4 cv) (shS 3)) := ⟨Kd.R_mono (Kd.R_grown (Kd.R_mono (Kd.R_bound hR.out) (fun k hk => (show k ≠ g from by have := hk.2.1; have := HLt.out; omega))) hg2 (fun k hk e => hk (by injection e))) (fun _ _ => trivial)⟩; clear hG2 hg2)
          have HRd := HR2
          obtain ⟨la, lf⟩ := Kd.R_celln 0 HRd.out (3 : Int) (by decide) (by decide)
          obtain ⟨lb, lg⟩ := Kd.R_celln 0 HRd.out (3 : Int) (by decide) (by decide)
          have hp1 := Kd.R_putg HRd.out (3 : Int) 3
          have hq1 := Aside0.mk hp1
          obtain ⟨lc, lh⟩ := Kd.R_celln 0 hp1.1 (3 : Int) (by decide) (by decide)
          have hp2 := Kd.R_putg hp1.1 (3 : Int) 3
          have HP2 := Aside0.mk hp2
          replace la : w2.cell? ⟨b, 3, none⟩ = some (.int .i64 3) := la
          replace lb : w2.cell? ⟨b, 3, none⟩ = some (.int .i64 3) := lb
          replace lc : (w2.setCell ⟨b, 3, none⟩ (.int .i64 3)).cell? ⟨b, 3, none⟩ = some (.int .i64 3) := lc
          replace lf : w2.frozen? ⟨b, 3, none⟩ = false := lf
          replace lg : w2.frozen? ⟨b, 3, none⟩ = false := lg
          replace lh : (w2.setCell ⟨b, 3, none⟩ (.int .i64 3)).frozen? ⟨b, 3, none⟩ = false := lh
          clear hp1 hp2
          go_region
          all_goals go_wp2
          all_goals
            go_roundw
            case rel => exact ⟨2, by omega, rfl, ⟨Kd.R_drew HP2.out.1⟩, ⟨Gn.far (Gn.far (show Gn w2 55 g (its s c (3 - 2)) c from HG2.out) hq1.out.2 (fun e => HBN.out e.symm)) (grown_drew HP2.out.2) (fun e => HBN.out e.symm)⟩, ⟨grown_drew (grown_put (grown_put HGg.out HBG.out _) HBG.out _)⟩⟩
            case measure => simp [intOf]
end Go.Proofs.Ytkmdbidjdppdnaa.Gv
