/- ProbeApart: the law, by hand. -/
import Derived.Test.YtaikeldhdbejaaaJi
namespace Go.Proofs.Ytaikeldhdbejaaa.Gv
open Go.RowKit Go.Proofs.YtaikeldhdbejaaaW.PrintWords Go.Proofs.YtaikeldhdbejaaaW.PrintLast Go.Proofs.YtaikeldhdbejaaaW.PrintMore
/-- are the first j all numbers? -/
def finN (xs ys : List Nat) : Nat → Bool
  | 0 => true
  | j + 1 => finN xs ys j && (isNum (xs.getD j 0) && isNum (ys.getD j 0))
theorem fin_same (xs ys : List Nat) : ∀ j, finN xs ys j = true → ((cnt (difP xs ys) j = 0 → amx xs ys j = 0) ∧ (cnt (difP xs ys) j ≠ 0 → 1 ≤ amx xs ys j))
  | 0, _ => ⟨fun _ => rfl, fun h => absurd rfl h⟩
  | j + 1, h => by
    rw [finN, Bool.and_eq_true, Bool.and_eq_true] at h
    obtain ⟨h0, h1, h2⟩ := h
    obtain ⟨a, b⟩ := fin_same xs ys j h0
    obtain ⟨-, -, d3, d4, d5⟩ := dist_max h1 h2 (amx_le xs ys j)
    rw [cnt, amx, h1, h2, Bool.and_self, if_pos rfl]
    have hd : difP xs ys j = (FloatKind.f64.format.order (xs.getD j 0) (ys.getD j 0) != some .eq) := rfl
    by_cases c : FloatKind.f64.format.order (xs.getD j 0) (ys.getD j 0) = some .eq
    · rw [hd, c, d3 c, if_neg (by decide)]
      exact ⟨a, b⟩
    · have e := d4 c
      rw [hd, if_pos (bne_iff_ne.mpr c)]
      exact ⟨fun z => by omega, fun _ => e⟩
theorem fin_end (xs ys : List Nat) (j : Nat) (h : finN xs ys j = true) : (FloatKind.f64.format.order (amx xs ys j) 0 == some .eq) = ((cnt (difP xs ys) j : Int) == 0) := by
  obtain ⟨a, b⟩ := fin_same xs ys j h
  rw [order_le _ 0 (amx_le xs ys j) (by omega), if_neg (by omega)]
  by_cases c : cnt (difP xs ys) j = 0
  · rw [if_pos (a c), c]
    rfl
  · have := b c
    rw [if_neg (by omega), beq_eq_false_iff_ne.mpr (show ((cnt (difP xs ys) j : Int)) ≠ 0 by omega)]
    rfl
theorem two_new {w : World} (o1 o2 : Obj) : ((w.alloc o1).alloc o2).heap[w.heap.size]? = some o1 ∧ ((w.alloc o1).alloc o2).heap[w.heap.size + 1]? = some o2 ∧ Below w.heap.size w ((w.alloc o1).alloc o2) := by
  have s1 : (w.alloc o1).heap.size = w.heap.size + 1 := by simp
  have h2 := blk_new (w.alloc o1) o2
  rw [s1] at h2
  have b1 := Below.alloc (Below.refl w.heap.size w) (Nat.le_refl _) o1
  exact ⟨blk_alloc (blk_new w o1) o2, h2, Below.alloc b1 b1.size o2⟩
section
variable (W H : Int) (xs : List Nat) (AL : Option Addr) (cL : Nat) (nD : Nat) (AD : Option Addr) (cD : Nat) (W2 H2 : Int) (ys : List Nat) (AL2 : Option Addr) (cL2 : Nat) (nD2 : Nat) (AD2 : Option Addr) (cD2 : Nat)
structure TW (w V : World) : Prop where
  px : V.heap[w.heap.size]? = some (.cells #[.int .i64 W, .int .i64 H, .slice AL xs.length cL, .slice AD nD cD] 25 (0, 0))
  py : V.heap[w.heap.size + 1]? = some (.cells #[.int .i64 W2, .int .i64 H2, .slice AL2 ys.length cL2, .slice AD2 nD2 cD2] 25 (0, 0))
  fx : FK.C V AL xs.length xs
  fy : FK.C V AL2 ys.length ys
  bel : Below w.heap.size w V
end
theorem TW.next {W H : Int} {xs : List Nat} {AL : Option Addr} {cL : Nat} {nD : Nat} {AD : Option Addr} {cD : Nat} {W2 H2 : Int} {ys : List Nat} {AL2 : Option Addr} {cL2 : Nat} {nD2 : Nat} {AD2 : Option Addr} {cD2 : Nat} {w V V1 : World} (h : TW W H xs AL cL nD AD cD W2 H2 ys AL2 cL2 nD2 AD2 cD2 w V) (hb : Below V.heap.size V V1) : TW W H xs AL cL nD AD cD W2 H2 ys AL2 cL2 nD2 AD2 cD2 w V1 :=
  ⟨blk_below h.px hb, blk_below h.py hb, Kd.C_below h.fx hb, Kd.C_below h.fy hb, below_then h.bel h.bel.size hb⟩
theorem TW.drew {W H : Int} {xs : List Nat} {AL : Option Addr} {cL : Nat} {nD : Nat} {AD : Option Addr} {cD : Nat} {W2 H2 : Int} {ys : List Nat} {AL2 : Option Addr} {cL2 : Nat} {nD2 : Nat} {AD2 : Option Addr} {cD2 : Nat} {w V : World} (h : TW W H xs AL cL nD AD cD W2 H2 ys AL2 cL2 nD2 AD2 cD2 w V) (m : Nat) : TW W H xs AL cL nD AD cD W2 H2 ys AL2 cL2 nD2 AD2 cD2 w (V.drewN m) :=
  h.next (pw_below_drewN (Below.refl _ _) m)
theorem TW.start (W H : Int) (xs : List Nat) (AL : Option Addr) (cL : Nat) (nD : Nat) (AD : Option Addr) (cD : Nat) (W2 H2 : Int) (ys : List Nat) (AL2 : Option Addr) (cL2 : Nat) (nD2 : Nat) (AD2 : Option Addr) (cD2 : Nat) (w : World) (hr : FK.C w AL xs.length xs) (hr2 : FK.C w AL2 ys.length ys) : TW W H xs AL cL nD AD cD W2 H2 ys AL2 cL2 nD2 AD2 cD2 w ((w.alloc (.cells #[.int .i64 W, .int .i64 H, .slice AL xs.length cL, .slice AD nD cD] 25 (0, 0))).alloc (.cells #[.int .i64 W2, .int .i64 H2, .slice AL2 ys.length cL2, .slice AD2 nD2 cD2] 25 (0, 0))) := by
  obtain ⟨h1, h2, hb⟩ := two_new (w := w) (.cells #[.int .i64 W, .int .i64 H, .slice AL xs.length cL, .slice AD nD cD] 25 (0, 0)) (.cells #[.int .i64 W2, .int .i64 H2, .slice AL2 ys.length cL2, .slice AD2 nD2 cD2] 25 (0, 0))
  exact ⟨h1, h2, Kd.C_below hr hb, Kd.C_below hr2 hb, hb⟩
set_option maxHeartbeats 4000000 in
theorem apart_dark (W H : Int) (xs : List Nat) (AL : Option Addr) (cL : Nat) (nD : Nat) (AD : Option Addr) (cD : Nat) (W2 H2 : Int) (ys : List Nat) (AL2 : Option Addr) (cL2 : Nat) (nD2 : Nat) (AD2 : Option Addr) (cD2 : Nat) (w : World) (hr : FK.C w AL xs.length xs) (hr2 : FK.C w AL2 ys.length ys) (hf : ¬ ((xs.length ≤ 300 ∧ nD ≤ 100) ∧ (ys.length ≤ 300 ∧ nD2 ≤ 100))) :
    Calls Try.prog 4 #[.agg #[.int .i64 W, .int .i64 H, .slice AL xs.length cL, .slice AD nD cD], .agg #[.int .i64 W2, .int .i64 H2, .slice AL2 ys.length cL2, .slice AD2 nD2 cD2]] w fun e w' => e = .returned (.bool true) ∧ Below w.heap.size w w' := by
  have hu := Try.underlying25
  have HT := Aside0.mk (TW.start W H xs AL cL nD AD cD W2 H2 ys AL2 cL2 nD2 AD2 cD2 w hr hr2)
  have HF := Aside0.mk (few_any W H AL xs.length cL AD nD cD)
  have HG := Aside0.mk (few_any W2 H2 AL2 ys.length cL2 AD2 nD2 cD2)
  obtain ⟨k0, k1, k2, k3⟩ := pic_cells HT.out.px
  clear hr hr2
  by_cases hf1 : xs.length ≤ 300 ∧ nD ≤ 100
  · have hf2 : ¬ (ys.length ≤ 300 ∧ nD2 ≤ 100) := fun h => hf ⟨hf1, h⟩
    rw [decide_eq_true hf1] at HF
    rw [decide_eq_false hf2] at HG
    clear hf hf1 hf2
    go_enter Try.func4, Try.ntmps4
    go_wp2_with (first
      | (go_at_call 6; with_reducible refine (HF.out _).mono ?_; rintro x w1 ⟨rfl, hb1⟩; have HT1 := Aside0.mk (HT.out.next hb1); obtain ⟨k0, k1, k2, k3⟩ := pic_cells HT1.out.py; clear hb1)
      | (go_at_call 6; with_reducible refine (HG.out _).mono ?_; rintro x w2 ⟨rfl, hb2⟩; have HT2 := Aside0.mk (HT1.out.next hb2); clear hb2)
      | (go_at_call 7; refine (awake40 _).mono ?_; rintro x w3 ⟨rfl, hb3⟩; have HT3 := Aside0.mk (HT2.out.next hb3); clear hb3))
    go_ret
    exact ⟨rfl, HT3.out.bel⟩
  · rw [decide_eq_false hf1] at HF
    clear hf hf1
    go_enter Try.func4, Try.ntmps4
    go_wp2_with (first
      | (go_at_call 6; with_reducible refine (HF.out _).mono ?_; rintro x w1 ⟨rfl, hb1⟩; have HT1 := Aside0.mk (HT.out.next hb1); clear hb1)
      | (go_at_call 7; refine (awake40 _).mono ?_; rintro x w2 ⟨rfl, hb2⟩; have HT2 := Aside0.mk (HT1.out.next hb2); clear hb2))
    go_ret
    exact ⟨rfl, HT2.out.bel⟩
set_option maxHeartbeats 8000000 in
theorem apart_other (W H : Int) (xs : List Nat) (AL : Option Addr) (cL : Nat) (nD : Nat) (AD : Option Addr) (cD : Nat) (W2 H2 : Int) (ys : List Nat) (AL2 : Option Addr) (cL2 : Nat) (nD2 : Nat) (AD2 : Option Addr) (cD2 : Nat) (w : World) (hr : FK.C w AL xs.length xs) (hr2 : FK.C w AL2 ys.length ys) (hf1 : xs.length ≤ 300 ∧ nD ≤ 100) (hf2 : ys.length ≤ 300 ∧ nD2 ≤ 100) (hne : ¬ (W = W2 ∧ H = H2 ∧ xs.length = ys.length)) :
    Calls Try.prog 4 #[.agg #[.int .i64 W, .int .i64 H, .slice AL xs.length cL, .slice AD nD cD], .agg #[.int .i64 W2, .int .i64 H2, .slice AL2 ys.length cL2, .slice AD2 nD2 cD2]] w fun e w' => e = .returned (.bool true) ∧ Below w.heap.size w w' := by
  have hu := Try.underlying25
  have HT := Aside0.mk (TW.start W H xs AL cL nD AD cD W2 H2 ys AL2 cL2 nD2 AD2 cD2 w hr hr2)
  have HF := Aside0.mk (few_any W H AL xs.length cL AD nD cD)
  have HG := Aside0.mk (few_any W2 H2 AL2 ys.length cL2 AD2 nD2 cD2)
  rw [decide_eq_true hf1] at HF
  rw [decide_eq_true hf2] at HG
  have HD := Aside0.mk (fun (V : World) h1 h2 => differ_any W H xs AL cL AD nD cD W2 H2 ys AL2 cL2 AD2 nD2 cD2 V h1 h2 (by omega))
  have HA := Aside0.mk (fun (V : World) h1 h2 => apart_any W H xs AL cL AD nD cD W2 H2 ys AL2 cL2 AD2 nD2 cD2 V h1 h2 (by omega))
  rw [show difV W H W2 H2 xs ys = (0, 14) from if_neg hne] at HD
  rw [show apV W H W2 H2 xs ys = (0, 14) from if_neg hne] at HA
  have o1 : (FloatKind.f64.format.order 0 0 == some .eq) = true := by decide +kernel
  have hcase : ((W != W2) = true) ∨ ((W != W2) = false ∧ (H != H2) = true) ∨ ((W != W2) = false ∧ (H != H2) = false ∧ ((xs.length : Int) != (ys.length : Int)) = true) := by
    by_cases a : W = W2
    · by_cases b : H = H2
      · exact .inr (.inr ⟨by rw [a]; simp, by rw [b]; simp, bne_iff_ne.mpr (fun e => hne ⟨a, b, by omega⟩)⟩)
      · exact .inr (.inl ⟨by rw [a]; simp, bne_iff_ne.mpr b⟩)
    · exact .inl (bne_iff_ne.mpr a)
  obtain ⟨k0, k1, k2, k3⟩ := pic_cells HT.out.px
  clear hr hr2 hf1 hf2 hne
  rcases hcase with g1 | ⟨g1, g2⟩ | ⟨g1, g2, g3⟩
  all_goals go_enter Try.func4, Try.ntmps4
  all_goals
    go_wp2_with (first
      | (go_at_call 6; with_reducible refine (HF.out _).mono ?_; rintro x w1 ⟨rfl, hb1⟩; have HT1 := Aside0.mk (HT.out.next hb1); obtain ⟨k0, k1, k2, k3⟩ := pic_cells HT1.out.py; clear hb1)
      | (go_at_call 6; with_reducible refine (HG.out _).mono ?_; rintro x w2 ⟨rfl, hb2⟩; have HT2 := Aside0.mk (HT1.out.next hb2); obtain ⟨k0, k1, k2, k3⟩ := pic_cells HT2.out.px; obtain ⟨j0, j1, j2, j3⟩ := pic_cells HT2.out.py; clear hb2)
      | (go_at_call 14; refine (HD.out _ HT2.out.fx HT2.out.fy).mono ?_; rintro x w3 ⟨rfl, hb3⟩; have HT3 := Aside0.mk (HT2.out.next hb3); obtain ⟨k0, k1, k2, k3⟩ := pic_cells HT3.out.px; obtain ⟨j0, j1, j2, j3⟩ := pic_cells HT3.out.py; clear hb3)
      | (go_at_call 15; refine (HA.out _ HT3.out.fx HT3.out.fy).mono ?_; rintro x w4 ⟨rfl, hb4⟩; have HT4 := Aside0.mk (HT3.out.next hb4); obtain ⟨k0, k1, k2, k3⟩ := pic_cells HT4.out.px; obtain ⟨j0, j1, j2, j3⟩ := pic_cells HT4.out.py; clear hb4)
      | (go_at_call 7; refine (awake40 _).mono ?_; rintro x w5 ⟨rfl, hb5⟩; have HT5 := Aside0.mk (HT4.out.next hb5); clear hb5))
  all_goals
    go_ret
    exact ⟨rfl, HT5.out.bel⟩
set_option maxHeartbeats 16000000 in
theorem apart_same (W H : Int) (xs : List Nat) (AL : Option Addr) (cL : Nat) (nD : Nat) (AD : Option Addr) (cD : Nat) (ys : List Nat) (AL2 : Option Addr) (cL2 : Nat) (nD2 : Nat) (AD2 : Option Addr) (cD2 : Nat) (w : World) (hr : FK.C w AL xs.length xs) (hr2 : FK.C w AL2 ys.length ys) (hf1 : xs.length ≤ 300 ∧ nD ≤ 100) (hf2 : ys.length ≤ 300 ∧ nD2 ≤ 100) (he : xs.length = ys.length) :
    Calls Try.prog 4 #[.agg #[.int .i64 W, .int .i64 H, .slice AL xs.length cL, .slice AD nD cD], .agg #[.int .i64 W, .int .i64 H, .slice AL2 ys.length cL2, .slice AD2 nD2 cD2]] w fun e w' => e = .returned (.bool true) ∧ Below w.heap.size w w' := by
  have hu := Try.underlying25
  have HT := Aside0.mk (TW.start W H xs AL cL nD AD cD W H ys AL2 cL2 nD2 AD2 cD2 w hr hr2)
  have HF := Aside0.mk (few_any W H AL xs.length cL AD nD cD)
  have HG := Aside0.mk (few_any W H AL2 ys.length cL2 AD2 nD2 cD2)
  rw [decide_eq_true hf1] at HF
  rw [decide_eq_true hf2] at HG
  have HD := Aside0.mk (fun (V : World) h1 h2 => differ_any W H xs AL cL AD nD cD W H ys AL2 cL2 AD2 nD2 cD2 V h1 h2 (by omega))
  have HA := Aside0.mk (fun (V : World) h1 h2 => apart_any W H xs AL cL AD nD cD W H ys AL2 cL2 AD2 nD2 cD2 V h1 h2 (by omega))
  have HR := Aside0.mk (fun (V : World) h1 h2 => rapart_any xs ys AL cL AL2 cL2 V h1 h2 he (by omega))
  rw [show difV W H W H xs ys = ((cnt (difP xs ys) xs.length : Int), 0) from if_pos ⟨rfl, rfl, he⟩] at HD
  rw [show apV W H W H xs ys = (amx xs ys xs.length, 0) from if_pos ⟨rfl, rfl, he⟩] at HA
  have hcl := cnt_le (difP xs ys) xs.length
  have hend := Aside0.mk (fin_end xs ys xs.length)
  have o1 : (FloatKind.f64.format.order (amx xs ys xs.length) (amx xs ys xs.length) == some .eq) = true := by rw [order_refl (amx_not xs ys xs.length)]; rfl
  have g3 : ((xs.length : Int) != (ys.length : Int)) = false := by rw [he]; simp
  have HL := Aside0.mk he
  have l1 : xs.length ≤ 300 := hf1.1
  obtain ⟨k0, k1, k2, k3⟩ := pic_cells HT.out.px
  clear hr hr2 hf1 hf2 he
  generalize hc : cnt (difP xs ys) xs.length = c at *
  generalize hm : amx xs ys xs.length = m at *
  clear hc hm
  go_enter Try.func4, Try.ntmps4
  go_wp2_with (first
      | (go_at_call 6; with_reducible refine (HF.out _).mono ?_; rintro x w1 ⟨rfl, hb1⟩; have HT1 := Aside0.mk (HT.out.next hb1); obtain ⟨k0, k1, k2, k3⟩ := pic_cells HT1.out.py; clear hb1)
      | (go_at_call 6; with_reducible refine (HG.out _).mono ?_; rintro x w2 ⟨rfl, hb2⟩; have HT2 := Aside0.mk (HT1.out.next hb2); obtain ⟨k0, k1, k2, k3⟩ := pic_cells HT2.out.px; obtain ⟨j0, j1, j2, j3⟩ := pic_cells HT2.out.py; clear hb2)
      | (go_at_call 14; refine (HD.out _ HT2.out.fx HT2.out.fy).mono ?_; rintro x w3 ⟨rfl, hb3⟩; have HT3 := Aside0.mk (HT2.out.next hb3); obtain ⟨k0, k1, k2, k3⟩ := pic_cells HT3.out.px; obtain ⟨j0, j1, j2, j3⟩ := pic_cells HT3.out.py; clear hb3)
      | (go_at_call 15; refine (HA.out _ HT3.out.fx HT3.out.fy).mono ?_; rintro x w4 ⟨rfl, hb4⟩; have HT4 := Aside0.mk (HT3.out.next hb4); obtain ⟨k0, k1, k2, k3⟩ := pic_cells HT4.out.px; obtain ⟨j0, j1, j2, j3⟩ := pic_cells HT4.out.py; clear hb4)
      | (go_at_call 16; refine (HR.out _ HT4.out.fx HT4.out.fy).mono ?_; rintro x w5 ⟨rfl, hb5⟩; have HT5 := Aside0.mk (HT4.out.next hb5); clear hb5))
  go_loopw [11, 12] (fun f i wr => ∃ j : Nat, j ≤ xs.length ∧ i = .int .i64 (j : Int) ∧ f = .bool (finN xs ys j) ∧ Aside0 (TW W H xs AL cL nD AD cD W H ys AL2 cL2 nD2 AD2 cD2 w wr)) (fun _ i _ => xs.length - (intOf i).toNat)
  case atStart => exact ⟨0, Nat.zero_le _, rfl, rfl, HT5⟩
  case round =>
    obtain ⟨j, hj, rfl, rfl, HU⟩ := hrel
    obtain ⟨k0, k1, k2, k3⟩ := pic_cells HU.out.px
    obtain ⟨j0, j1, j2, j3⟩ := pic_cells HU.out.py
    by_cases hlt : j < xs.length
    · have z1 : (j : Int) < (xs.length : Int) := by omega
      have z2 : (j : Int) < (ys.length : Int) := by have h := HL.out; omega
      obtain ⟨ad, rfl, hx⟩ := at_float HU.out.fx j hlt
      obtain ⟨ae, rfl, hy⟩ := at_float HU.out.fy j (by have h := HL.out; omega)
      have HS := Aside0.mk (show finN xs ys (j + 1) = (finN xs ys j && (isNum (xs.getD j 0) && isNum (ys.getD j 0))) from rfl)
      have HNx := Aside0.mk (rnum_any (xs.getD j 0))
      have HNy := Aside0.mk (rnum_any (ys.getD j 0))
      generalize xs.getD j 0 = x at *
      generalize ys.getD j 0 = y at *
      generalize finN xs ys j = f at *
      cases f with
      | false =>
        rw [Bool.false_and] at HS
        go_wp2
        go_roundw
        case rel => exact ⟨j + 1, by omega, by go_num, by rw [HS.out], HU⟩
        case measure => simp [intOf]; omega
      | true =>
        rw [Bool.true_and] at HS
        generalize isNum x = b at *
        generalize isNum y = d at *
        cases b with
        | false =>
          go_wp2_with (first
            | (go_at_call 10; with_reducible refine (HNx.out _).mono ?_; rintro q w2 ⟨rfl, m2, rfl⟩))
          go_roundw
          case rel => exact ⟨j + 1, by omega, by go_num, by rw [HS.out]; rfl, ⟨HU.out.drew _⟩⟩
          case measure => simp [intOf]; omega
        | true =>
          go_wp2_with (first
            | (go_at_call 10; with_reducible refine (HNx.out _).mono ?_; rintro q w2 ⟨rfl, m2, rfl⟩)
            | (go_at_call 10; with_reducible refine (HNy.out _).mono ?_; rintro q w2 ⟨rfl, m3, rfl⟩))
          go_roundw
          case rel => exact ⟨j + 1, by omega, by go_num, by rw [HS.out]; rfl, ⟨by first | exact (HU.out.drew _).drew _ | exact HU.out.drew _⟩⟩
          case measure => simp [intOf]; omega
    · have e : j = xs.length := by omega
      subst e
      generalize hfin : finN xs ys xs.length = f at *
      cases f with
      | false =>
        clear hfin
        go_wp2_with (go_at_call 7; refine (awake40 _).mono ?_; rintro x w7 ⟨rfl, hb7⟩; have HT7 := Aside0.mk (HU.out.next hb7); clear hb7)
        go_ret
        exact ⟨rfl, HT7.out.bel⟩
      | true =>
        have hq := hend.out rfl
        cases hz : ((c : Int) == 0) with
        | false =>
          rw [hz] at hq
          go_wp2_with (go_at_call 7; refine (awake40 _).mono ?_; rintro x w7 ⟨rfl, hb7⟩; have HT7 := Aside0.mk (HU.out.next hb7); clear hb7)
          go_ret
          exact ⟨rfl, HT7.out.bel⟩
        | true =>
          rw [hz] at hq
          go_wp2_with (go_at_call 7; refine (awake40 _).mono ?_; rintro x w7 ⟨rfl, hb7⟩; have HT7 := Aside0.mk (HU.out.next hb7); clear hb7)
          go_ret
          exact ⟨rfl, HT7.out.bel⟩
theorem probeApart_any (W H : Int) (xs : List Nat) (AL : Option Addr) (cL : Nat) (nD : Nat) (AD : Option Addr) (cD : Nat) (W2 H2 : Int) (ys : List Nat) (AL2 : Option Addr) (cL2 : Nat) (nD2 : Nat) (AD2 : Option Addr) (cD2 : Nat) (w : World) (hr : FK.C w AL xs.length xs) (hr2 : FK.C w AL2 ys.length ys) :
    Calls Try.prog 4 #[.agg #[.int .i64 W, .int .i64 H, .slice AL xs.length cL, .slice AD nD cD], .agg #[.int .i64 W2, .int .i64 H2, .slice AL2 ys.length cL2, .slice AD2 nD2 cD2]] w fun e w' => e = .returned (.bool true) ∧ Below w.heap.size w w' := by
  by_cases hf : (xs.length ≤ 300 ∧ nD ≤ 100) ∧ (ys.length ≤ 300 ∧ nD2 ≤ 100)
  · by_cases hc : W = W2 ∧ H = H2 ∧ xs.length = ys.length
    · obtain ⟨rfl, rfl, he⟩ := hc
      exact apart_same W H xs AL cL nD AD cD ys AL2 cL2 nD2 AD2 cD2 w hr hr2 hf.1 hf.2 he
    · exact apart_other W H xs AL cL nD AD cD W2 H2 ys AL2 cL2 nD2 AD2 cD2 w hr hr2 hf.1 hf.2 hc
  · exact apart_dark W H xs AL cL nD AD cD W2 H2 ys AL2 cL2 nD2 AD2 cD2 w hr hr2 hf
end Go.Proofs.Ytaikeldhdbejaaa.Gv
