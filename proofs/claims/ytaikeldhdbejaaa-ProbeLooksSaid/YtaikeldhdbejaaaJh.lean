/- ProbeRows: the law, by hand. -/
import Derived.Test.YtaikeldhdbejaaaJg
namespace Go.Proofs.Ytaikeldhdbejaaa.Gv
open Go.RowKit Go.Proofs.YtaikeldhdbejaaaW.PrintWords Go.Proofs.YtaikeldhdbejaaaW.PrintLast Go.Proofs.YtaikeldhdbejaaaW.PrintMore
set_option maxHeartbeats 4000000 in
theorem rows_dark (W H : Int) (xs : List Nat) (AL : Option Addr) (cL : Nat) (ds : List Int) (AD : Option Addr) (cD : Nat) (y : Int) (w : World) (hf : ¬ (xs.length ≤ 300 ∧ ds.length ≤ 100)) :
    Calls Try.prog 5 #[.agg #[.int .i64 W, .int .i64 H, .slice AL xs.length cL, .slice AD ds.length cD], .int .i64 y] w fun e w' => e = .returned (.bool true) ∧ Below w.heap.size w w' := by
  have hu := Try.underlying25
  have b1 := blk_new w (.cells #[.int .i64 W, .int .i64 H, .slice AL xs.length cL, .slice AD ds.length cD] 25)
  have HBel := Aside0.mk (Below.alloc (Below.refl w.heap.size w) (Nat.le_refl _) (.cells #[.int .i64 W, .int .i64 H, .slice AL xs.length cL, .slice AD ds.length cD] 25))
  have HF := Aside0.mk (few_any W H AL xs.length cL AD ds.length cD)
  rw [decide_eq_false hf] at HF
  obtain ⟨k0, k1, k2, k3⟩ := pic_cells b1
  clear b1 hf
  go_enter Try.func5, Try.ntmps5
  go_wp2_with (first
    | (go_at_call 6; refine (HF.out _).mono ?_; rintro x w1 ⟨rfl, hb1⟩; have HBel1 := Aside0.mk (below_then HBel.out HBel.out.size hb1); clear hb1)
    | (go_at_call 7; refine (awake40 _).mono ?_; rintro x w2 ⟨rfl, hb2⟩; have HBel2 := Aside0.mk (below_then HBel1.out HBel1.out.size hb2); clear hb2))
  go_ret
  exact ⟨rfl, HBel2.out⟩
set_option maxHeartbeats 4000000 in
theorem rows_bad (W H : Int) (xs : List Nat) (AL : Option Addr) (cL : Nat) (ds : List Int) (AD : Option Addr) (cD : Nat) (y : Int) (w : World) (hf : xs.length ≤ 300 ∧ ds.length ≤ 100) (hbad : ¬ (sidesB W H = true ∧ 0 ≤ y ∧ y < H ∧ (xs.length : Int) = 3 * W * H)) :
    Calls Try.prog 5 #[.agg #[.int .i64 W, .int .i64 H, .slice AL xs.length cL, .slice AD ds.length cD], .int .i64 y] w fun e w' => e = .returned (.bool true) ∧ Below w.heap.size w w' := by
  have hu := Try.underlying25
  have b1 := blk_new w (.cells #[.int .i64 W, .int .i64 H, .slice AL xs.length cL, .slice AD ds.length cD] 25)
  have HB1 := Aside0.mk b1
  have HBel := Aside0.mk (Below.alloc (Below.refl w.heap.size w) (Nat.le_refl _) (.cells #[.int .i64 W, .int .i64 H, .slice AL xs.length cL, .slice AD ds.length cD] 25))
  have HF := Aside0.mk (few_any W H AL xs.length cL AD ds.length cD)
  rw [decide_eq_true hf] at HF
  have HRow := Aside0.mk (fun W' => row_bad W H xs AL cL ds AD cD y W' hbad)
  have HS := Aside0.mk (rsides_any W H AL xs.length cL AD ds.length cD)
  obtain ⟨k0, k1, k2, k3⟩ := pic_cells b1
  clear b1 hf
  cases hs : sidesB W H with
  | false =>
    rw [hs] at HS
    clear hs hbad
    go_enter Try.func5, Try.ntmps5
    go_wp2_with (first
      | (go_at_call 6; refine (HF.out _).mono ?_; rintro x w1 ⟨rfl, hb1⟩; have HB2 := Aside0.mk (blk_below HB1.out hb1); have HBel1 := Aside0.mk (below_then HBel.out HBel.out.size hb1); obtain ⟨k0, k1, k2, k3⟩ := pic_cells HB2.out; clear hb1)
      | (go_at_call 17; refine (HRow.out _).mono ?_; rintro x w2 ⟨rfl, hb2⟩; have HB3 := Aside0.mk (blk_below HB2.out hb2); have HBel2 := Aside0.mk (below_then HBel1.out HBel1.out.size hb2); obtain ⟨k0, k1, k2, k3⟩ := pic_cells HB3.out; clear hb2)
      | (go_at_call 9; refine (HS.out _).mono ?_; rintro x w3 ⟨rfl, hb3⟩; have HB4 := Aside0.mk (blk_below HB3.out hb3); have HBel3 := Aside0.mk (below_then HBel2.out HBel2.out.size hb3); obtain ⟨k0, k1, k2, k3⟩ := pic_cells HB4.out; clear hb3)
      | (go_at_call 7; refine (awake40 _).mono ?_; rintro x w4 ⟨rfl, hb4⟩; have HBel4 := Aside0.mk (below_then HBel3.out HBel3.out.size hb4); clear hb4))
    go_ret
    exact ⟨rfl, HBel4.out⟩
  | true =>
    obtain ⟨w1, w2, h1, h2, p0, p1, p2⟩ := prod_in hs
    rw [hs] at HS hbad
    clear hs
    obtain ⟨nn, hnn⟩ : ∃ nn : Int, 3 * W * H = nn := ⟨_, rfl⟩
    have hnn0 : 0 ≤ nn ∧ nn ≤ 201326592 := by omega
    rw [hnn] at hbad
    clear p0 p1 p2
    have hcase : y < 0 ∨ (0 ≤ y ∧ H ≤ y) ∨ (0 ≤ y ∧ y < H ∧ ((xs.length : Int) != nn) = true) := by
      by_cases a : y < 0
      · exact .inl a
      · by_cases b : H ≤ y
        · exact .inr (.inl ⟨by omega, b⟩)
        · exact .inr (.inr ⟨by omega, by omega, bne_iff_ne.mpr (fun e => hbad ⟨rfl, by omega, by omega, e⟩)⟩)
    clear hbad
    rcases hcase with g1 | ⟨g1, g2⟩ | ⟨g1, g2, g3⟩
    all_goals go_enter Try.func5, Try.ntmps5
    all_goals
      go_wp2_with (first
        | (go_at_call 6; refine (HF.out _).mono ?_; rintro x w1 ⟨rfl, hb1⟩; have HB2 := Aside0.mk (blk_below HB1.out hb1); have HBel1 := Aside0.mk (below_then HBel.out HBel.out.size hb1); obtain ⟨k0, k1, k2, k3⟩ := pic_cells HB2.out; clear hb1)
        | (go_at_call 17; refine (HRow.out _).mono ?_; rintro x w2 ⟨rfl, hb2⟩; have HB3 := Aside0.mk (blk_below HB2.out hb2); have HBel2 := Aside0.mk (below_then HBel1.out HBel1.out.size hb2); obtain ⟨k0, k1, k2, k3⟩ := pic_cells HB3.out; clear hb2)
        | (go_at_call 9; refine (HS.out _).mono ?_; rintro x w3 ⟨rfl, hb3⟩; have HB4 := Aside0.mk (blk_below HB3.out hb3); have HBel3 := Aside0.mk (below_then HBel2.out HBel2.out.size hb3); obtain ⟨k0, k1, k2, k3⟩ := pic_cells HB4.out; clear hb3)
        | (go_at_call 7; refine (awake40 _).mono ?_; rintro x w4 ⟨rfl, hb4⟩; have HBel4 := Aside0.mk (below_then HBel3.out HBel3.out.size hb4); clear hb4))
    all_goals
      go_ret
      exact ⟨rfl, HBel4.out⟩
set_option maxHeartbeats 8000000 in
theorem rows_ok (W H : Int) (xs : List Nat) (ad : Addr) (cL : Nat) (ds : List Int) (AD : Option Addr) (cD : Nat) (y : Int) (w : World) (hf : xs.length ≤ 300 ∧ ds.length ≤ 100) (hs : sidesB W H = true) (g1 : 0 ≤ y) (g2 : y < H) (lo m hi : Nat) (hm : 3 * W = (m : Int)) (h3 : (m : Int) * H = (xs.length : Int)) (hlo : (m : Int) * y = (lo : Int)) (hhi : (m : Int) * (y + 1) = (hi : Int)) (hh : hi = lo + m) (hle : hi ≤ xs.length) (hcap : xs.length ≤ cL) (hr : FK.C w (some ad) xs.length xs) :
    Calls Try.prog 5 #[.agg #[.int .i64 W, .int .i64 H, .slice (some ad) xs.length cL, .slice AD ds.length cD], .int .i64 y] w fun e w' => e = .returned (.bool true) ∧ Below w.heap.size w w' := by
  have hu := Try.underlying25
  have b1 := blk_new w (.cells #[.int .i64 W, .int .i64 H, .slice (some ad) xs.length cL, .slice AD ds.length cD] 25)
  have HB1 := Aside0.mk b1
  have HBel := Aside0.mk (Below.alloc (Below.refl w.heap.size w) (Nat.le_refl _) (.cells #[.int .i64 W, .int .i64 H, .slice (some ad) xs.length cL, .slice AD ds.length cD] 25))
  have HF := Aside0.mk (few_any W H (some ad) xs.length cL AD ds.length cD)
  rw [decide_eq_true hf] at HF
  have HR := Aside0.mk hr
  have HRow := Aside0.mk (fun W' h => row_ok W H xs ad cL ds AD cD y W' hs g1 g2 lo m hi hm h3 (by omega) hlo hhi hh hle hcap h)
  have HS := Aside0.mk (rsides_any W H (some ad) xs.length cL AD ds.length cD)
  rw [hs] at HS
  obtain ⟨w1, w2, h1, h2, p0, p1, p2⟩ := prod_in hs
  have hlh : lo ≤ hi := by omega
  have hic : hi ≤ cL := by omega
  have hm3 : 3 ≤ m := by omega
  have hne : ¬ cL = lo := by omega
  have hsum : (lo : Int) + (m : Int) = (hi : Int) := by omega
  obtain ⟨mid, hmid⟩ : ∃ mid, (xs.take (lo + m)).drop lo = mid := ⟨_, rfl⟩
  have hml : mid.length = hi - lo := by rw [← hmid, List.length_drop, List.length_take]; omega
  rw [hmid] at HRow
  have HMl := Aside0.mk hml
  have HC := Aside0.mk (fun (W' : World) (h : FK.C W' (some ad) xs.length xs) => (show FK.C W' (some (ad.add lo)) (hi - lo) mid from by
    have h2 := part_C h lo m (by omega)
    rw [hmid] at h2
    rw [show hi - lo = m by omega]
    exact h2))
  have HFl := Aside0.mk (fun A1 c1 A2 c2 W' h1 h2 => floats_eq mid A1 c1 A2 c2 W' h1 h2 (by rw [hml]; omega))
  rw [hml] at HFl
  have HL3 := Aside0.mk hf
  obtain ⟨k0, k1, k2, k3⟩ := pic_cells b1
  have l1 : xs.length ≤ 300 := hf.1
  clear b1 hr hs p0 p1 p2 hh hmid hml hf
  go_enter Try.func5, Try.ntmps5
  go_wp2_with (first
    | (go_at_call 6; refine (HF.out _).mono ?_; rintro x w1 ⟨rfl, hb1⟩; have HB2 := Aside0.mk (blk_below HB1.out hb1); have HBel1 := Aside0.mk (below_then HBel.out HBel.out.size hb1); obtain ⟨k0, k1, k2, k3⟩ := pic_cells HB2.out; clear hb1)
    | (go_at_call 17; refine (HRow.out _ (Kd.C_below HR.out HBel1.out)).mono ?_; rintro x w2 ⟨v, rfl, ho2, hb2⟩; obtain ⟨Av, cv, hv⟩ := Kd.R_slice ho2; rw [HMl.out] at hv; subst hv; have hvr := (Kd.R_reads' ho2).2.2; rw [HMl.out] at hvr; have HV2 := Aside0.mk hvr; have HB3 := Aside0.mk (blk_below HB2.out hb2); have HBel2 := Aside0.mk (below_then HBel1.out HBel1.out.size hb2); obtain ⟨k0, k1, k2, k3⟩ := pic_cells HB3.out; clear hb2 ho2 hvr)
    | (go_at_call 9; refine (HS.out _).mono ?_; rintro x w3 ⟨rfl, hb3⟩; have HV3 := Aside0.mk (Kd.C_below HV2.out hb3); have HB4 := Aside0.mk (blk_below HB3.out hb3); have HBel3 := Aside0.mk (below_then HBel2.out HBel2.out.size hb3); obtain ⟨k0, k1, k2, k3⟩ := pic_cells HB4.out; clear hb3)
    | (go_at_call 7; refine (awake40 _).mono ?_; rintro x w4 ⟨rfl, hb4⟩; have HV4 := Aside0.mk (Kd.C_below HV3.out hb4); have HBel4 := Aside0.mk (below_then HBel3.out HBel3.out.size hb4); obtain ⟨k0, k1, k2, k3⟩ := pic_cells (blk_below HB4.out hb4); clear hb4)
    | (go_at_call 18; refine (HFl.out _ _ _ _ _ HV4.out (HC.out _ (Kd.C_below HR.out HBel4.out))).mono ?_; rintro x w5 ⟨rfl, hb5⟩; have HBel5 := Aside0.mk (below_then HBel4.out HBel4.out.size hb5); clear hb5))
  go_ret
  exact ⟨rfl, HBel5.out⟩
theorem probeRows_any (W H : Int) (xs : List Nat) (AL : Option Addr) (cL : Nat) (ds : List Int) (AD : Option Addr) (cD : Nat) (y : Int) (w : World) (hcap : xs.length ≤ cL) (hr : FK.C w AL xs.length xs) :
    Calls Try.prog 5 #[.agg #[.int .i64 W, .int .i64 H, .slice AL xs.length cL, .slice AD ds.length cD], .int .i64 y] w fun e w' => e = .returned (.bool true) ∧ Below w.heap.size w w' := by
  by_cases hf : xs.length ≤ 300 ∧ ds.length ≤ 100
  · by_cases hb : sidesB W H = true ∧ 0 ≤ y ∧ y < H ∧ (xs.length : Int) = 3 * W * H
    · obtain ⟨hs, g1, g2, h3⟩ := hb
      obtain ⟨w1, w2, h1, h2, p0, p1, p2⟩ := prod_in hs
      obtain ⟨m, hm⟩ := Int.eq_ofNat_of_zero_le (show 0 ≤ 3 * W by omega)
      obtain ⟨yy, rfl⟩ := Int.eq_ofNat_of_zero_le g1
      obtain ⟨hh, rfl⟩ := Int.eq_ofNat_of_zero_le (show 0 ≤ H by omega)
      have e3 : xs.length = m * hh := by
        rw [hm, ← Int.natCast_mul] at h3
        exact Int.ofNat.inj h3
      have hyh : m * yy + m ≤ xs.length := by
        rw [e3]
        have := Nat.mul_le_mul_left m (show yy + 1 ≤ hh by omega)
        rw [Nat.mul_add, Nat.mul_one] at this
        exact this
      have hp : 0 < xs.length := by omega
      obtain ⟨ad, rfl, -⟩ := at_float hr 0 hp
      exact rows_ok W hh xs ad cL ds AD cD yy w hf hs g1 g2 (m * yy) m (m * yy + m) hm (by rw [e3, Int.natCast_mul]) (by rw [Int.natCast_mul]) (by rw [Int.mul_add, Int.mul_one, Int.natCast_add, Int.natCast_mul]) rfl hyh hcap hr
    · exact rows_bad W H xs AL cL ds AD cD y w hf hb
  · exact rows_dark W H xs AL cL ds AD cD y w hf
end Go.Proofs.Ytaikeldhdbejaaa.Gv
