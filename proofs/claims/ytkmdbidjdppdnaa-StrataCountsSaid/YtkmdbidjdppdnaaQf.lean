/- Has each column and each row one draw: the walk of Spread. -/
import Derived.Test.YtkmdbidjdppdnaaQe
namespace Go.Proofs.Ytkmdbidjdppdnaa.Gv
open Go.RowKit Go.Proofs.Ytkmdbidjdppdnaa.X Go.Proofs.YtkmdbidjdppdnaaW.PrintWords Go.Proofs.YtkmdbidjdppdnaaW.PrintLast Go.Proofs.YtkmdbidjdppdnaaW.PrintMore
set_option linter.unusedVariables false
set_option linter.unusedSimpArgs false
attribute [local go_sem] max2_int min2_int max_two min_two run_store_float
theorem infoB : (Try.prog.info? 4).map (fun i => (i.zero, i.size, i.bytes)) = some (some (.bool false), 1, 1) := by kernel_rfl
theorem made_bools (n : Nat) (hn : n ≤ 1000000) (W : World) :
    (Instr.makeSlice 61 (.int .i64 (n : Int)) (.int .i64 (n : Int))).run Try.prog W = .ok (.slice (some ⟨W.heap.size, 0, none⟩) n n) (W.alloc (.cells (madeCells #[.bool false] n) 4)) :=
  run_make_row' (P := Try.prog) 61 4 (.bool false) 1 Try.underlying61 infoB rfl .i64 .i64 n (by omega) (by omega) W
theorem mbool_owns (n : Nat) (hn : n ≤ 1000000) (W : World) (base : Nat) (hb : base ≤ W.heap.size) :
    Kd.R Kd.bool 4 (W.alloc (.cells (madeCells #[.bool false] n) 4)) base (fun _ => True) (.slice (some ⟨W.heap.size, 0, none⟩) n n) (List.replicate n false) := by
  obtain ⟨i0, hi, hzz⟩ := Option.map_eq_some_iff.1 infoB
  simp only [Prod.mk.injEq] at hzz
  obtain ⟨hz0, hz1, hz2⟩ := hzz
  obtain ⟨w', hr, ho, _⟩ := run_make_full (P := Try.prog) W base 61 4 i0 (.bool false) 1 Try.underlying61 hi hz0 hz1 .i64 .i64 n (by rw [hz2]; omega) (by unfold maxLen; omega) hb
  rw [made_bools n hn W] at hr
  injection hr with _ hw
  subst hw
  refine Kd.R_of_own ?_ (fun _ _ => trivial)
  rw [List.length_replicate]
  have e : (madeCells (Value.bool false).cells (n * 1)).toList = encs Value.bool (List.replicate n false) := by
    apply List.ext_getElem
    · simp [madeCells, encs]
    · intro i h1 h2
      simp [madeCells, encs, Value.cells, Nat.mod_one]
  rw [← e]
  exact ho
/-- a pair's number -/
def sd (s : Nat) (p : Nat × Nat) : Nat := if s = 0 then p.1 else p.2
/-- which parts have a draw of the first m -/
def seenL (n : Nat) (l : List (Nat × Nat)) (s : Nat) : Nat → List Bool
  | 0 => List.replicate n false
  | m + 1 => (seenL n l s m).set (cellN n (sd s (l.getD m (0, 0)))) true
theorem seenL_length (n : Nat) (l : List (Nat × Nat)) (s : Nat) : ∀ m, (seenL n l s m).length = n
  | 0 => List.length_replicate
  | m + 1 => by rw [seenL, List.length_set]; exact seenL_length n l s m
def allB (l : List Bool) : Bool := l.all (fun b => b)
theorem allB_drop (l : List Bool) (k : Nat) (h : k < l.length) : allB (l.drop k) = (l.getD k false && allB (l.drop (k + 1))) := by
  unfold allB
  rw [List.drop_eq_getElem_cons h, List.all_cons, List.getD_eq_getElem?_getD, List.getElem?_eq_getElem h]
  rfl
def spreadB (n : Nat) (l : List (Nat × Nat)) : Bool := decide (l.length = n) && allB (seenL n l 0 l.length) && allB (seenL n l 1 l.length)
theorem spread_less (n : Int) (h : n < 1) (A : Option Addr) (L c : Nat) (w : World) :
    Calls Try.prog 18 #[.int .i64 n, .slice A L c] w fun e w' => e = .returned (.bool false) ∧ w = w' := by
  go_enter Try.func18, Try.ntmps18
  go_wp2
  go_ret
  exact ⟨rfl, rfl⟩
theorem spread_len (n L : Nat) (h1 : 1 ≤ n) (h2 : n ≤ 64) (h : L ≠ n) (A : Option Addr) (c : Nat) (w : World) :
    Calls Try.prog 18 #[.int .i64 (n : Int), .slice A L c] w fun e w' => e = .returned (.bool false) ∧ w = w' := by
  have e1 : ((L : Int) != (n : Int)) = true := by rw [bne_iff_ne]; omega
  clear h
  go_enter Try.func18, Try.ntmps18
  go_wp2
  go_ret
  exact ⟨rfl, rfl⟩
set_option maxHeartbeats 8000000 in
theorem spread_any (n : Nat) (h1 : 1 ≤ n) (h2 : n ≤ 64) (A : Option Addr) (c : Nat) (l : List (Nat × Nat)) (w : World) (hr : PK.C w A l.length l) (hl : l.length = n) :
    Calls Try.prog 18 #[.int .i64 (n : Int), .slice A l.length c] w fun e w' => e = .returned (.bool (spreadB n l)) ∧ Below w.heap.size w w' := by
  have HR := Aside0.mk hr
  have HL := Aside0.mk hl
  have e1 : ((n : Int) != (n : Int)) = false := by rw [bne_eq_false_iff_eq]
  have HCL := Aside0.mk (fun (x : Nat) => cellN_lt (n := n) (x := x) h1)
  have HM := Aside0.mk (fun (x : Nat) => cellN_min (x := x) h1 (show n < 66 by omega))
  have HCC := Aside0.mk (fun (x : Nat) (W : World) => cell_any n x (by omega) W)
  have hmk := made_bools n (by omega)
  have hn1 : IntKind.i64.wrap ((n : Int) - 1) = (n : Int) - 1 := IntWalk.i64_in _ (by omega)
  have HMO := Aside0.mk (fun (W : World) (hW : w.heap.size ≤ W.heap.size) => mbool_owns n (by omega) W w.heap.size hW)
  rw [hl]
  clear hr hl
  go_enter Try.func18, Try.ntmps18
  go_wp2
  go_loopw [23] (fun s' wr => ∃ s : Nat, s ≤ 2 ∧ .int .i64 (s : Int) = s' ∧ Aside0 (∀ r, r < s → allB (seenL n l r n) = true) ∧ Aside0 (Below w.heap.size w wr)) (fun s' _ => 2 - (intOf s').toNat)
  case atStart => exact ⟨0, Nat.zero_le _, rfl, ⟨fun r h => absurd h (Nat.not_lt_zero _)⟩, ⟨Below.refl _ _⟩⟩
  case round =>
    obtain ⟨s, hs, rfl, ha, hb⟩ := hrel
    have hs3 : s = 0 ∨ s = 1 ∨ s = 2 := by omega
    rcases hs3 with rfl | rfl | rfl
    · obtain ⟨w1, hw1⟩ : ∃ w1, w1 = wr := ⟨wr, rfl⟩
      subst hw1
      rw [show ((0 : Nat) : Int) = 0 from rfl]
      have hMo := HMO.out w1 hb.out.size
      have HMo : Aside0 (Kd.R Kd.bool 4 (w1.alloc (.cells (madeCells #[.bool false] n) 4)) w.heap.size (fun _ => True) (.slice (some ⟨w1.heap.size, 0, none⟩) n n) (seenL n l 0 0)) := ⟨hMo⟩
      have HMb := Aside0.mk (hb.out.alloc hb.out.size (.cells (madeCells #[.bool false] n) 4))
      have hwr := hb.out.size
      clear hMo
      go_wp2
      go_loopw [30] (fun k' wr => ∃ k : Nat, k ≤ n ∧ .int .i64 (k : Int) = k' ∧ Aside0 (Kd.R Kd.bool 4 wr w.heap.size (fun _ => True) (.slice (some ⟨w1.heap.size, 0, none⟩) n n) (seenL n l 0 k)) ∧ Aside0 (Below w.heap.size w wr)) (fun k' _ => n - (intOf k').toNat)
      case atStart => exact ⟨0, Nat.zero_le _, rfl, HMo, HMb⟩
      case round =>
        obtain ⟨k, hk, rfl, ho, hbv⟩ := hrel
        by_cases hlt : k < n
        · obtain ⟨ad, rfl, hx0, hx1⟩ := pk_at (Kd.C_below HR.out hbv.out) k (by rw [HL.out]; exact hlt)
          have HI := Aside0.mk (show sd 0 (l.getD k (0, 0)) = (l.getD k (0, 0)).1 from rfl)
          generalize (l.getD k (0, 0)).1 = x0 at hx0 HI
          generalize (l.getD k (0, 0)).2 = x1 at hx1 HI
          obtain ⟨p, hp⟩ : ∃ p, cellN n x0 = p := ⟨_, rfl⟩
          have hm : (if (n : Int) - 1 < cellV n x0 then (n : Int) - 1 else cellV n x0) = (p : Int) := by rw [← hp, ← HM.out x0]; omega
          have hpl := HCL.out x0
          rw [hp] at hpl
          have HS := Aside0.mk (show seenL n l 0 (k + 1) = (seenL n l 0 k).set p true by rw [seenL, HI.out, hp])
          clear hp
          have z0 : (0 : Int) ≤ (p : Int) := by omega
          have z1 : (p : Int) < (n : Int) := by omega
          have HBk := Aside0.mk (blk_new wr (.cells #[.float .f64 x0, .float .f64 x1] 29))
          have hp0 : (wr.alloc (.cells #[.float .f64 x0, .float .f64 x1] 29)).cell? ⟨wr.heap.size, 0, none⟩ = some (.float .f64 x0) := (blk_cell HBk.out 0).trans rfl
          have HO8 := Aside0.mk (Kd.R_alloc ho.out (.cells #[.float .f64 x0, .float .f64 x1] 29))
          have HB8 := Aside0.mk (hbv.out.alloc hbv.out.size (.cells #[.float .f64 x0, .float .f64 x1] 29))
          obtain ⟨hy, hf⟩ := Kd.R_celln false HO8.out (p : Int) z0 z1
          rw [Int.toNat_natCast] at hy hf
          have HPut0 := Kd.R_putg HO8.out (p : Int) true
          rw [Int.toNat_natCast, ← HS.out] at HPut0
          have HPut := Aside0.mk HPut0
          clear HPut0
          generalize rdOf false (seenL n l 0 k) (p : Int) = yb at *
          go_wp2_with (go_at_call 28; refine (HCC.out x0 _).mono ?_; rintro e w' ⟨rfl, rfl⟩)
          go_roundw
          case rel => exact ⟨k + 1, by omega, by go_num, ⟨HPut.out.1⟩, ⟨HB8.out.setCell (p := ⟨w1.heap.size, p, none⟩) hwr _⟩⟩
          case measure => simp [intOf]; omega
        · have hkn : k = n := by omega
          subst hkn
          obtain ⟨wv, hwv⟩ : ∃ wv, wv = wr := ⟨wr, rfl⟩
          subst hwv
          have hlen := seenL_length k l 0 k
          have HO9 := Aside0.mk ho.out
          go_wp2
          go_loopw [47] (fun j' wu => ∃ j : Nat, j ≤ k ∧ .int .i64 (j : Int) = j' ∧ Aside0 (allB (seenL k l 0 k) = allB ((seenL k l 0 k).drop j)) ∧ wu = wv) (fun j' _ => k - (intOf j').toNat)
          case atStart => exact ⟨0, Nat.zero_le _, rfl, ⟨rfl⟩, rfl⟩
          case round =>
            obtain ⟨j, hj, rfl, hd, rfl⟩ := hrel
            by_cases hjt : j < k
            · have z0 : (0 : Int) ≤ (j : Int) := by omega
              have z1 : (j : Int) < (k : Int) := by omega
              obtain ⟨hy, -⟩ := Kd.R_celln false HO9.out (j : Int) z0 z1
              rw [Int.toNat_natCast] at hy
              have Y : rdOf false (seenL k l 0 k) (j : Int) = (seenL k l 0 k).getD j false := by unfold rdOf; rw [Int.toNat_natCast]
              rw [Y] at hy
              have HD := Aside0.mk (allB_drop (seenL k l 0 k) j (by omega))
              clear Y
              generalize (seenL k l 0 k).getD j false = b at *
              cases b with
              | true =>
                go_wp2
                go_roundw
                case rel => exact ⟨j + 1, by omega, by go_num, ⟨by rw [hd.out, HD.out]; rfl⟩, (by first | rfl | trivial)⟩
                case measure => simp [intOf]; omega
              | false =>
                go_wp2
                try rw [Exit.noGoto_ret]
                go_ret
                refine ⟨ret_b' ?_, hbv.out⟩
                have e : allB (seenL k l 0 k) = false := by rw [hd.out, HD.out]; rfl
                unfold spreadB
                rw [HL.out, e]
                simp
            · have hjk : j = k := by omega
              have HA := Aside0.mk (show allB (seenL k l 0 k) = true by rw [hd.out, List.drop_eq_nil_of_le (by omega)]; rfl)
              clear hjk
              go_wp2
              go_roundw
              case rel => exact ⟨0 + 1, by omega, by go_num, ⟨fun r hr => by rw [show r = 0 by omega]; exact HA.out⟩, hbv⟩
              case measure => simp [intOf]
    · obtain ⟨w1, hw1⟩ : ∃ w1, w1 = wr := ⟨wr, rfl⟩
      subst hw1
      rw [show ((1 : Nat) : Int) = 1 from rfl]
      have hMo := HMO.out w1 hb.out.size
      have HMo : Aside0 (Kd.R Kd.bool 4 (w1.alloc (.cells (madeCells #[.bool false] n) 4)) w.heap.size (fun _ => True) (.slice (some ⟨w1.heap.size, 0, none⟩) n n) (seenL n l 1 0)) := ⟨hMo⟩
      have HMb := Aside0.mk (hb.out.alloc hb.out.size (.cells (madeCells #[.bool false] n) 4))
      have hwr := hb.out.size
      clear hMo
      go_wp2
      go_loopw [30] (fun k' wr => ∃ k : Nat, k ≤ n ∧ .int .i64 (k : Int) = k' ∧ Aside0 (Kd.R Kd.bool 4 wr w.heap.size (fun _ => True) (.slice (some ⟨w1.heap.size, 0, none⟩) n n) (seenL n l 1 k)) ∧ Aside0 (Below w.heap.size w wr)) (fun k' _ => n - (intOf k').toNat)
      case atStart => exact ⟨0, Nat.zero_le _, rfl, HMo, HMb⟩
      case round =>
        obtain ⟨k, hk, rfl, ho, hbv⟩ := hrel
        by_cases hlt : k < n
        · obtain ⟨ad, rfl, hx0, hx1⟩ := pk_at (Kd.C_below HR.out hbv.out) k (by rw [HL.out]; exact hlt)
          have HI := Aside0.mk (show sd 1 (l.getD k (0, 0)) = (l.getD k (0, 0)).2 from rfl)
          generalize (l.getD k (0, 0)).1 = x0 at hx0 HI
          generalize (l.getD k (0, 0)).2 = x1 at hx1 HI
          obtain ⟨p, hp⟩ : ∃ p, cellN n x1 = p := ⟨_, rfl⟩
          have hm : (if (n : Int) - 1 < cellV n x1 then (n : Int) - 1 else cellV n x1) = (p : Int) := by rw [← hp, ← HM.out x1]; omega
          have hpl := HCL.out x1
          rw [hp] at hpl
          have HS := Aside0.mk (show seenL n l 1 (k + 1) = (seenL n l 1 k).set p true by rw [seenL, HI.out, hp])
          clear hp
          have z0 : (0 : Int) ≤ (p : Int) := by omega
          have z1 : (p : Int) < (n : Int) := by omega
          have HBk := Aside0.mk (blk_new wr (.cells #[.float .f64 x0, .float .f64 x1] 29))
          have hp0 : (wr.alloc (.cells #[.float .f64 x0, .float .f64 x1] 29)).cell? ⟨wr.heap.size, 1, none⟩ = some (.float .f64 x1) := (blk_cell HBk.out 1).trans rfl
          have HO8 := Aside0.mk (Kd.R_alloc ho.out (.cells #[.float .f64 x0, .float .f64 x1] 29))
          have HB8 := Aside0.mk (hbv.out.alloc hbv.out.size (.cells #[.float .f64 x0, .float .f64 x1] 29))
          obtain ⟨hy, hf⟩ := Kd.R_celln false HO8.out (p : Int) z0 z1
          rw [Int.toNat_natCast] at hy hf
          have HPut0 := Kd.R_putg HO8.out (p : Int) true
          rw [Int.toNat_natCast, ← HS.out] at HPut0
          have HPut := Aside0.mk HPut0
          clear HPut0
          generalize rdOf false (seenL n l 1 k) (p : Int) = yb at *
          go_wp2_with (go_at_call 28; refine (HCC.out x1 _).mono ?_; rintro e w' ⟨rfl, rfl⟩)
          go_roundw
          case rel => exact ⟨k + 1, by omega, by go_num, ⟨HPut.out.1⟩, ⟨HB8.out.setCell (p := ⟨w1.heap.size, p, none⟩) hwr _⟩⟩
          case measure => simp [intOf]; omega
        · have hkn : k = n := by omega
          subst hkn
          obtain ⟨wv, hwv⟩ : ∃ wv, wv = wr := ⟨wr, rfl⟩
          subst hwv
          have hlen := seenL_length k l 1 k
          have HO9 := Aside0.mk ho.out
          go_wp2
          go_loopw [47] (fun j' wu => ∃ j : Nat, j ≤ k ∧ .int .i64 (j : Int) = j' ∧ Aside0 (allB (seenL k l 1 k) = allB ((seenL k l 1 k).drop j)) ∧ wu = wv) (fun j' _ => k - (intOf j').toNat)
          case atStart => exact ⟨0, Nat.zero_le _, rfl, ⟨rfl⟩, rfl⟩
          case round =>
            obtain ⟨j, hj, rfl, hd, rfl⟩ := hrel
            by_cases hjt : j < k
            · have z0 : (0 : Int) ≤ (j : Int) := by omega
              have z1 : (j : Int) < (k : Int) := by omega
              obtain ⟨hy, -⟩ := Kd.R_celln false HO9.out (j : Int) z0 z1
              rw [Int.toNat_natCast] at hy
              have Y : rdOf false (seenL k l 1 k) (j : Int) = (seenL k l 1 k).getD j false := by unfold rdOf; rw [Int.toNat_natCast]
              rw [Y] at hy
              have HD := Aside0.mk (allB_drop (seenL k l 1 k) j (by omega))
              clear Y
              generalize (seenL k l 1 k).getD j false = b at *
              cases b with
              | true =>
                go_wp2
                go_roundw
                case rel => exact ⟨j + 1, by omega, by go_num, ⟨by rw [hd.out, HD.out]; rfl⟩, (by first | rfl | trivial)⟩
                case measure => simp [intOf]; omega
              | false =>
                go_wp2
                try rw [Exit.noGoto_ret]
                go_ret
                refine ⟨ret_b' ?_, hbv.out⟩
                have e : allB (seenL k l 1 k) = false := by rw [hd.out, HD.out]; rfl
                unfold spreadB
                rw [HL.out, e]
                simp
            · have hjk : j = k := by omega
              have HA := Aside0.mk (show allB (seenL k l 1 k) = true by rw [hd.out, List.drop_eq_nil_of_le (by omega)]; rfl)
              clear hjk
              go_wp2
              go_roundw
              case rel => exact ⟨1 + 1, by omega, by go_num, ⟨fun r hr => by rcases (show r = 0 ∨ r = 1 by omega) with rfl | rfl; exact ha.out 0 (by omega); exact HA.out⟩, hbv⟩
              case measure => simp [intOf]
    · go_wp2
      try rw [Exit.noGoto_ret]
      go_ret
      refine ⟨ret_b' ?_, hb.out⟩
      unfold spreadB
      rw [HL.out, ha.out 0 (by omega), ha.out 1 (by omega)]
      simp
end Go.Proofs.Ytkmdbidjdppdnaa.Gv
