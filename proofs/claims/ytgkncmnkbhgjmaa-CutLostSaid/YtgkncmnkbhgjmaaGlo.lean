/- package cut: Lost by hand. -/
import Derived.Test.YtgkncmnkbhgjmaaGct
namespace Go.Proofs.Ytgkncmnkbhgjmaa.Gv
open Go.RowKit Go.Proofs.Ytgkncmnkbhgjmaa.X Go.Proofs.YtgkncmnkbhgjmaaW.PrintWords Go.Proofs.YtgkncmnkbhgjmaaW.PrintLast Go.Proofs.YtgkncmnkbhgjmaaW.PrintMore
/-- the first j numbers of l, each times 1024 so many times, added -/
def adm (out l : List Int) (m : Nat) : Nat → List Int
  | 0 => out
  | j + 1 => (adm out l m j).set j (wrap64 ((adm out l m j).getD j 0 + pw 1024 m (l.getD j 0)))
theorem adm_length (out l : List Int) (m : Nat) : ∀ j, (adm out l m j).length = out.length
  | 0 => rfl
  | j + 1 => by rw [adm, List.length_set, adm_length out l m j]
/-- the last d terms up to b, added -/
def lostTo (k : Nat) (e t : List Int) (r : Int) (b : Nat) : Nat → List Int → Option (List Int)
  | 0, out => some out
  | d + 1, out => (cut_Term.f k e t r ((b - d : Nat) : Int)).bind fun p => if p.1.length = e.length then lostTo k e t r b d (adm out p.1 d e.length) else none
theorem row_from {W : World} {base g : Nat} {v : Value} {xs : List Int} (h : Kd.R (Kd.int .i64) 3 W base (fun _ => True) v xs) (hg : g < base) (b : Nat) (hb : b ≤ base) : Kd.R (Kd.int .i64) 3 W b (fun j => j ≠ g) v xs :=
  Kd.R_lower (Kd.R_mono (Kd.R_bound h) (fun k hk => by have := hk.2.1; omega)) hb
theorem made_ints (n : Nat) (hn : n ≤ 1000000) (W : World) :
    (Instr.makeSlice 22 (.int .i64 (n : Int)) (.int .i64 (n : Int))).run Try.prog W = .ok (.slice (some ⟨W.heap.size, 0, none⟩) n n) (W.alloc (.cells (madeCells #[.int .i64 0] n) 3)) :=
  run_make_row' (P := Try.prog) 22 3 (.int .i64 0) 8 Try.underlying22 info3 rfl .i64 .i64 n (by omega) (by omega) W
theorem made_owns (n : Nat) (hn : n ≤ 1000000) (W : World) (base : Nat) (hb : base ≤ W.heap.size) :
    Kd.R (Kd.int .i64) 3 (W.alloc (.cells (madeCells #[.int .i64 0] n) 3)) base (fun _ => True) (.slice (some ⟨W.heap.size, 0, none⟩) n n) (List.replicate n 0) := by
  obtain ⟨i0, hi, hzz⟩ := Option.map_eq_some_iff.1 info3
  simp only [Prod.mk.injEq] at hzz
  obtain ⟨hz0, hz1, hz2⟩ := hzz
  obtain ⟨w', hr, ho, _⟩ := run_make_full (P := Try.prog) W base 22 3 i0 (.int .i64 0) 1 Try.underlying22 hi hz0 hz1 .i64 .i64 n (by rw [hz2]; omega) (by unfold maxLen; omega) hb
  rw [made_ints n hn W] at hr
  injection hr with _ hw
  subst hw
  refine Kd.R_of_own ?_ (fun _ _ => trivial)
  rw [List.length_replicate]
  have e : (madeCells (Value.int .i64 0).cells (n * 1)).toList = encs (Value.int .i64) (List.replicate n 0) := by
    apply List.ext_getElem
    · simp [madeCells, encs]
    · intro i h1 h2
      simp [madeCells, encs, Value.cells, Nat.mod_one]
  rw [← e]
  exact ho
theorem within2 (lo hi a b : Int) : cut_within.f 4 lo hi [a, b] = some (decide ((lo ≤ a ∧ a ≤ hi) ∧ lo ≤ b ∧ b ≤ hi)) := by
  have e : rd [a, b] 0 = a := rfl
  have e1 : rd [a, b] 1 = b := rfl
  have w1 : wrap64 (0 + 1) = 1 := by decide +kernel
  have w2 : wrap64 (1 + 1) = 2 := by decide +kernel
  unfold cut_within.f
  rw [cut_within.l0, if_pos (by simp), if_pos (by omega), if_pos (by simp), e]
  by_cases c1 : a < lo
  · rw [if_pos c1, decide_eq_false (by omega)]
  · rw [if_neg c1]
    by_cases c2 : a > hi
    · rw [if_pos c2, decide_eq_false (by omega)]
    · rw [if_neg c2, w1, cut_within.l0, if_pos (by simp), if_pos (by omega), if_pos (by simp), e1]
      by_cases c3 : b < lo
      · rw [if_pos c3, decide_eq_false (by omega)]
      · rw [if_neg c3]
        by_cases c4 : b > hi
        · rw [if_pos c4, decide_eq_false (by omega)]
        · rw [if_neg c4, w2, cut_within.l0, if_neg (by simp), decide_eq_true (by omega)]
theorem within_two (lo hi a b : Int) (z : Bool) (hb : decide ((lo ≤ a ∧ a ≤ hi) ∧ lo ≤ b ∧ b ≤ hi) = z) (W : World) :
    Calls Try.prog 18 #[.int .i64 lo, .int .i64 hi, .slice (some ⟨W.heap.size, 0, none⟩) 2 2] (W.alloc (.cells #[.int .i64 a, .int .i64 b] 3)) fun e w' => e = .returned (.bool z) ∧ Below W.heap.size W w' := by
  have hC : Kd.C (Kd.int .i64) (W.alloc (.cells #[.int .i64 a, .int .i64 b] 3)) (some ⟨W.heap.size, 0, none⟩) [a, b].length [a, b] := by
    refine Kd.C_of_reads (h1 := fun _ => rfl) (d := (0 : Int)) ⟨rfl, by simp, fun _ => ⟨_, rfl, fun j hj => ?_⟩⟩
    simp only [List.length_cons, List.length_nil, Nat.zero_add] at hj
    have hh := blk_cell (g := W.heap.size) (t := 3) (cs := #[.int .i64 a, .int .i64 b]) (MapKept.heap_alloc W _).1
    obtain rfl | rfl : j = 0 ∨ j = 1 := by omega
    · exact (hh 0).trans rfl
    · exact (hh 1).trans rfl
  refine (cut_within.calls 4 lo hi _ 2 [a, b] z _ hC (by simp) (by rw [within2, hb])).mono ?_
  rintro e w' ⟨rfl, hd⟩
  have h1 : Below W.heap.size W (W.alloc (.cells #[.int .i64 a, .int .i64 b] 3)) := Below.alloc (Below.refl _ _) (Nat.le_refl _) _
  exact ⟨rfl, below_then h1 h1.size hd.below⟩
set_option maxHeartbeats 2000000 in
theorem lost_check (k : Nat) (A0 : Option Addr) (c0 : Nat) (e : List Int) (A1 : Option Addr) (c1 : Nat) (t : List Int) (r a b z : Int) (w : World) (hr0 : Kd.C (Kd.int .i64) w A0 e.length e) (hc0 : e.length ≤ c0) (hr1 : Kd.C (Kd.int .i64) w A1 t.length t) (hc1 : t.length ≤ c1) (h : cut_Check.f k e t r = some z) (hz : z ≠ 0) :
    Calls Try.prog 17 #[.slice A0 e.length c0, .slice A1 t.length c1, .int .i64 r, .int .i64 a, .int .i64 b] w fun x w' => x = .returned (.tuple #[.slice none 0 0, .int .i64 z]) ∧ Below w.heap.size w w' := by
  have HK := Aside0.mk (cut_Check.calls k A0 c0 e A1 c1 t r z w hr0 hc0 hr1 hc1 h)
  have hzb : (z == 0) = false := by simpa using hz
  clear hr0 hr1 h
  go_enter Try.func17, Try.ntmps17
  go_wp2_with (go_at_call 10; refine HK.out.mono ?_; rintro x w1 ⟨rfl, hb1⟩)
  go_ret2
  exact ⟨rfl, hb1⟩
set_option maxHeartbeats 2000000 in
theorem lost_range (k : Nat) (A0 : Option Addr) (c0 : Nat) (e : List Int) (A1 : Option Addr) (c1 : Nat) (t : List Int) (r a b : Int) (w : World) (hr0 : Kd.C (Kd.int .i64) w A0 e.length e) (hc0 : e.length ≤ c0) (hr1 : Kd.C (Kd.int .i64) w A1 t.length t) (hc1 : t.length ≤ c1) (h : cut_Check.f k e t r = some 0) (hz : ¬ ((0 ≤ a ∧ a ≤ 4) ∧ 0 ≤ b ∧ b ≤ 4)) :
    Calls Try.prog 17 #[.slice A0 e.length c0, .slice A1 t.length c1, .int .i64 r, .int .i64 a, .int .i64 b] w fun x w' => x = .returned (.tuple #[.slice none 0 0, .int .i64 3]) ∧ Below w.heap.size w w' := by
  have HK := Aside0.mk (cut_Check.calls k A0 c0 e A1 c1 t r 0 w hr0 hc0 hr1 hc1 h)
  have HW := Aside0.mk (within_two 0 4 a b false (decide_eq_false hz))
  clear hr0 hr1 h hz
  go_enter Try.func17, Try.ntmps17
  go_wp2_with (first | (go_at_call 10; refine HK.out.mono ?_; rintro x w1 ⟨rfl, hb1⟩) | (go_at_call 18; (with_reducible refine (HW.out _).mono ?_); rintro x w2 ⟨rfl, hb2⟩))
  go_ret2
  exact ⟨rfl, below_then hb1 hb1.size hb2⟩
set_option maxHeartbeats 4000000 in
theorem lost_ok (k : Nat) (A0 : Option Addr) (c0 : Nat) (e : List Int) (A1 : Option Addr) (c1 : Nat) (t : List Int) (r : Int) (a b : Nat) (res : List Int) (w : World) (hr0 : Kd.C (Kd.int .i64) w A0 e.length e) (hc0 : e.length ≤ c0) (hr1 : Kd.C (Kd.int .i64) w A1 t.length t) (hc1 : t.length ≤ c1) (h : cut_Check.f k e t r = some 0) (ha : a ≤ 4) (hb : b ≤ 4) (hn : e.length ≤ 1000000)
    (hL : lostTo k e t r b (b + 1 - a) (List.replicate e.length 0) = some res) :
    Calls Try.prog 17 #[.slice A0 e.length c0, .slice A1 t.length c1, .int .i64 r, .int .i64 a, .int .i64 b] w fun x w' => ∃ v : Value, x = .returned (.tuple #[v, .int .i64 0]) ∧ Kd.R (Kd.int .i64) 3 w' w.heap.size (fun _ => True) v res ∧ Below w.heap.size w w' := by
  have HK := Aside0.mk (cut_Check.calls k A0 c0 e A1 c1 t r 0 w hr0 hc0 hr1 hc1 h)
  have HW := Aside0.mk (within_two 0 4 (a : Int) (b : Int) true (decide_eq_true (by omega)))
  have hmk := made_ints e.length hn
  have HR0 := Aside0.mk hr0
  have HR1 := Aside0.mk hr1
  have HL := Aside0.mk hL
  clear hr0 hr1 h hL
  go_enter Try.func17, Try.ntmps17
  go_wp2_with (first | (go_at_call 10; refine HK.out.mono ?_; rintro x w1 ⟨rfl, hb1⟩) | (go_at_call 18; (with_reducible refine (HW.out _).mono ?_); rintro x w2 ⟨rfl, hb2⟩))
  have hb3 : Below w.heap.size w w2 := below_then hb1 hb1.size hb2
  have HO := Aside0.mk (made_owns e.length hn w2 w.heap.size hb3.size)
  have HB := Aside0.mk (Below.alloc hb3 hb3.size (.cells (madeCells #[.int .i64 0] e.length) 3))
  have hgw := hb3.size
  generalize hg : w2.heap.size = g at *
  clear hmk hb1 hb2 hb3
  go_loopw [14] (fun x wr => ∃ (kk : Nat) (out : List Int), kk ≤ 6 ∧ x = .int .i64 (kk : Int) ∧ Aside0 (lostTo k e t r b (b + 1 - kk) out = some res) ∧ Aside0 (out.length = e.length) ∧ Aside0 (Kd.R (Kd.int .i64) 3 wr w.heap.size (fun _ => True) (.slice (some ⟨g, 0, none⟩) e.length e.length) out) ∧ Aside0 (Below w.heap.size w wr) ∧ Aside0 (g < wr.heap.size)) (fun x _ => b + 1 - (intOf x).toNat)
  case atStart => exact ⟨a, List.replicate e.length 0, by omega, rfl, HL, ⟨by simp⟩, HO, HB, ⟨by simp; omega⟩⟩
  case round =>
    obtain ⟨kk, out, hk6, rfl, HLt, HLen, HOut, HBr, HG⟩ := hrel
    by_cases hkk : kk ≤ b
    · obtain ⟨d, hd⟩ : ∃ d, b - kk = d := ⟨_, rfl⟩
      have e1 : b + 1 - kk = d + 1 := by omega
      have HLt' := HLt.out
      rw [e1] at HLt'
      obtain ⟨⟨l, f⟩, hT, hrest⟩ := Option.bind_eq_some_iff.mp HLt'
      have hll : l.length = e.length := by
        by_cases c : l.length = e.length
        · exact c
        · dsimp only at hrest; rw [if_neg c] at hrest; cases hrest
      dsimp only at hrest
      rw [if_pos hll] at hrest
      rw [show b - d = kk from by omega] at hT
      have hkb : (kk : Int) ≤ (b : Int) := by omega
      have hbd : (b : Int) - (kk : Int) = (d : Int) := by omega
      have hd4 : d ≤ 4 := by omega
      have hwd : IntKind.i64.wrap (d : Int) = (d : Int) := IntWalk.i64_in _ (by omega)
      have hlt : g < wr.heap.size := HG.out
      have HT := Aside0.mk (cut_Term.calls k A0 c0 e A1 c1 t r kk l f wr (Kd.C_below HR0.out (by have h := HBr.out; exact h)) hc0 (Kd.C_below HR1.out HBr.out) hc1 hT)
      have HRest := Aside0.mk hrest
      have HD := Aside0.mk hd
      clear hT hrest HLt' e1 hd
      go_wp2_with (go_at_call 8; refine HT.out.mono ?_; rintro x w5 ⟨v5, rfl, hR5, hb5⟩; have HO5 := Aside0.mk (Kd.R_below HOut.out hb5); have HB5 := Aside0.mk (below_then HBr.out HBr.out.size hb5); have hg5 : g < w5.heap.size := Nat.lt_of_lt_of_le hlt hb5.size; have HG5 := Aside0.mk hg5; have HL5 := Aside0.mk (row_from hR5 hlt w.heap.size HBr.out.size); obtain ⟨Al, cl, rfl⟩ := Kd.R_slice HL5.out; clear hR5 hb5)
      have hll2 : (l.length : Int) = (e.length : Int) := by omega
      go_loopw [50] (fun i wq => ∃ j : Nat, j ≤ l.length ∧ i = .int .i64 (j : Int) ∧ Aside0 (Kd.R (Kd.int .i64) 3 wq w.heap.size (fun u => u ≠ g) (.slice Al l.length cl) l) ∧ Aside0 (Kd.R (Kd.int .i64) 3 wq w.heap.size (fun _ => True) (.slice (some ⟨g, 0, none⟩) e.length e.length) (adm out l d j)) ∧ Aside0 (Below w.heap.size w wq) ∧ Aside0 (g < wq.heap.size)) (fun i _ => l.length - (intOf i).toNat)
      case atStart => exact ⟨0, Nat.zero_le _, rfl, HL5, HO5, HB5, HG5⟩
      case round =>
        obtain ⟨j, hj, rfl, HLq, HOq, HBq, HGq⟩ := hrel
        by_cases hjl : j < l.length
        · have z0 : (0 : Int) ≤ j := by omega
          have z1 : (j : Int) < l.length := by omega
          have z2 : (j : Int) < e.length := by omega
          obtain ⟨ad, rfl, hx⟩ := Kd.at_int (Kd.R_reads' HLq.out).2.2 (j : Int) z0 z1
          rw [Int.toNat_natCast] at hx
          have X : rd l (j : Int) = l.getD j 0 := by simp [rd]
          rw [X] at hx
          obtain ⟨hy1, hf1⟩ := Kd.R_celln 0 HOq.out (j : Int) z0 z2
          rw [Int.toNat_natCast] at hy1 hf1
          have Y : rdOf 0 (adm out l d j) (j : Int) = (adm out l d j).getD j 0 := by simp [rdOf]
          rw [Y] at hy1
          have HPut0 := Kd.R_putg HOq.out (j : Int) (wrap64 ((adm out l d j).getD j 0 + pw 1024 d (l.getD j 0)))
          rw [Int.toNat_natCast] at HPut0
          have HPut := Aside0.mk HPut0
          have HS := Aside0.mk (show adm out l d (j + 1) = (adm out l d j).set j (wrap64 ((adm out l d j).getD j 0 + pw 1024 d (l.getD j 0))) from rfl)
          have hgq : g < wr.heap.size := HGq.out
          clear HPut0 X Y
          generalize hl0 : l.getD j 0 = x at *
          generalize hs0 : adm out l d j = s at *
          generalize hy0 : s.getD j 0 = y at *
          have Hl0 := Aside0.mk hl0
          have Hs0 := Aside0.mk hs0
          have Hy0 := Aside0.mk hy0
          clear hl0 hs0 hy0
          go_wp2
          go_region_with ((first | (go_at_call 20; refine (times_any 1024 (d : Int) _).mono ?_; rintro z w6 ⟨rfl, rfl⟩) | (go_at_call 21; refine (times1_any 1024 x d (by omega) _ _ _ ?s1 ?s2).mono ?_; (case s1 => exact (blk_cell (new_at' _ _ _ (by simp)) 0).trans rfl); (case s2 => exact (blk_cell (new_older _ _ _ _ (new_at' _ _ _ (by simp))) 0).trans rfl); rintro z w7 ⟨rfl, rfl⟩)))
          all_goals go_wp2
          all_goals
            go_roundw
            case rel =>
              have h6 := Below.grown HBq.out HPut.out.2 HBq.out.size (fun u hu => by injection hu with hu; omega)
              have h7 := Below.alloc h6 h6.size (.cells #[.int .i64 1024] 3)
              have h8 := Below.alloc h7 h7.size (.cells #[.int .i64 (d : Int)] 3)
              have r6 := Kd.R_grown HLq.out HPut.out.2 (fun u hu e0 => by injection e0 with e0; exact hu e0)
              exact ⟨j + 1, by omega, by go_num, ⟨Kd.R_drew (Kd.R_alloc (Kd.R_alloc r6 _) _)⟩, ⟨by rw [HS.out]; exact Kd.R_drew (Kd.R_alloc (Kd.R_alloc HPut.out.1 _) _)⟩, ⟨below_drew h8⟩, ⟨by simp; omega⟩⟩
            case measure => simp [intOf]; omega
        · have hje : j = e.length := by omega
          have HJ := Aside0.mk hje
          have HLn := Aside0.mk (adm_length out l d j)
          clear hje
          go_wp2
          go_roundw
          case rel =>
            exact ⟨kk + 1, adm out l d j, by omega, by go_num, ⟨by rw [show b + 1 - (kk + 1) = d from by have := HD.out; omega, HJ.out]; exact HRest.out⟩, ⟨by rw [HLn.out]; exact HLen.out⟩, HOq, HBq, HGq⟩
          case measure => simp [intOf]; omega
    · have c1b : decide ((kk : Int) ≤ (b : Int)) = false := decide_eq_false (by omega)
      have HE := Aside0.mk (show some out = some res from by have h := HLt.out; rw [show b + 1 - kk = 0 from by omega] at h; exact h)
      go_wp2
      go_ret2
      exact ⟨_, rfl, by have h := Option.some.inj HE.out; rw [← h]; exact HOut.out, HBr.out⟩
theorem lostTo_mono (e t : List Int) (r : Int) (b k : Nat) : ∀ d out, LeO (lostTo k e t r b d out) (lostTo (k + 1) e t r b d out)
  | 0, _ => LeO.refl _
  | d + 1, out => by
    unfold lostTo
    exact LeO.bind (cut_Term.mono _ _ _ _ _) (fun p => LeO.ite (lostTo_mono e t r b k d _) (LeO.refl _))
/-- cut.Lost's answer -/
def lostF (k : Nat) (e t : List Int) (r a b : Int) : Option (List Int × Int) := (cut_Check.f k e t r).bind fun c => if c = 0 then (if (0 ≤ a ∧ a ≤ 4) ∧ 0 ≤ b ∧ b ≤ 4 then (if e.length ≤ 1000000 then ((lostTo k e t r b.toNat (b.toNat + 1 - a.toNat) (List.replicate e.length 0)).bind fun l => some (l, 0)) else none) else some ([], 3)) else some ([], c)
theorem lostF_mono (e t : List Int) (r a b : Int) (k : Nat) : LeO (lostF k e t r a b) (lostF (k + 1) e t r a b) := by
  unfold lostF
  exact LeO.bind (cut_Check.mono _ _ _ _) (fun _ => LeO.ite (LeO.ite (LeO.ite (LeO.bind (lostTo_mono _ _ _ _ _ _ _) (fun _ => LeO.refl _)) (LeO.refl _)) (LeO.refl _)) (LeO.refl _))
theorem lost_any (k : Nat) (A0 : Option Addr) (c0 : Nat) (e : List Int) (A1 : Option Addr) (c1 : Nat) (t : List Int) (r a b : Int) (r1 : List Int) (r2 : Int) (w : World) (hr0 : Kd.C (Kd.int .i64) w A0 e.length e) (hc0 : e.length ≤ c0) (hr1 : Kd.C (Kd.int .i64) w A1 t.length t) (hc1 : t.length ≤ c1) (h : lostF k e t r a b = some (r1, r2)) :
    Calls Try.prog 17 #[.slice A0 e.length c0, .slice A1 t.length c1, .int .i64 r, .int .i64 a, .int .i64 b] w fun x w' => ∃ v0_ : Value, x = .returned (.tuple #[v0_, .int .i64 r2]) ∧ Kd.R (Kd.int .i64) 3 w' w.heap.size (fun _ => True) v0_ r1 ∧ Below w.heap.size w w' := by
  unfold lostF at h
  obtain ⟨c, hc, h⟩ := Option.bind_eq_some_iff.mp h
  by_cases z : c = 0
  · rw [if_pos z] at h
    subst z
    by_cases y : (0 ≤ a ∧ a ≤ 4) ∧ 0 ≤ b ∧ b ≤ 4
    · rw [if_pos y] at h
      by_cases n : e.length ≤ 1000000
      · rw [if_pos n] at h
        obtain ⟨l, hl, h⟩ := Option.bind_eq_some_iff.mp h
        injection h with h
        injection h with h1 h2
        subst h1 h2
        obtain ⟨a', rfl⟩ := Int.eq_ofNat_of_zero_le y.1.1
        obtain ⟨b', rfl⟩ := Int.eq_ofNat_of_zero_le y.2.1
        exact lost_ok k A0 c0 e A1 c1 t r a' b' l w hr0 hc0 hr1 hc1 hc (by omega) (by omega) n hl
      · rw [if_neg n] at h; cases h
    · rw [if_neg y] at h
      injection h with h
      injection h with h1 h2
      subst h1 h2
      refine (lost_range k A0 c0 e A1 c1 t r a b w hr0 hc0 hr1 hc1 hc y).mono ?_
      rintro x w' ⟨rfl, hb⟩
      exact ⟨_, rfl, Kd.R_nil _ _ _ _ _, hb⟩
  · rw [if_neg z] at h
    injection h with h
    injection h with h1 h2
    subst h1 h2
    refine (lost_check k A0 c0 e A1 c1 t r a b c w hr0 hc0 hr1 hc1 hc z).mono ?_
    rintro x w' ⟨rfl, hb⟩
    exact ⟨_, rfl, Kd.R_nil _ _ _ _ _, hb⟩
end Go.Proofs.Ytgkncmnkbhgjmaa.Gv
