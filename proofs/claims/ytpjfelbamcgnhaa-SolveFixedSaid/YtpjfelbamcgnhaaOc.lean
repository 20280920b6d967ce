/- package solve: a row to begin with, and a table eliminated. -/
import Derived.Test.YtpjfelbamcgnhaaOb
import Derived.BigRegion
import Derived.WalkMore
import Derived.ScopeJumps
namespace Go.Proofs.Ytpjfelbamcgnhaa.Gv
open Go.RowKit Go.Proofs.Ytpjfelbamcgnhaa.X Go.Proofs.YtpjfelbamcgnhaaW.PrintWords Go.Proofs.YtpjfelbamcgnhaaW.PrintLast Pl Pa De
set_option linter.unusedVariables false
theorem fnd_zero {M : Nat → Nat → Int} {c n i : Nat} (hi : i < n) (h : M i c = 0) : fnd M c (n - i) i = fnd M c (n - (i + 1)) (i + 1) := by
  obtain ⟨k, hk⟩ : ∃ k, n - i = k + 1 := ⟨n - i - 1, by omega⟩
  rw [hk, fnd, if_pos h, show n - (i + 1) = k by omega]
theorem fnd_here {M : Nat → Nat → Int} {c n i : Nat} (hi : i < n) (h : M i c ≠ 0) : fnd M c (n - i) i = some i := by
  obtain ⟨k, hk⟩ : ∃ k, n - i = k + 1 := ⟨n - i - 1, by omega⟩
  rw [hk, fnd, if_neg h]
/-- places changed about -/
def sw (f : Nat → Nat) (c a : Nat) : Nat → Nat := fun i => if i = c then f a else if i = a then f c else f i
theorem TB.swap {w : World} {B g L n m : Nat} {rs cp : Nat → Nat} {M : Nat → Nat → Int} {d : Int} (h : TB w B g L n m rs cp M d) (c a : Nat) (hc : c < n) (ha : a < n) (hca : a ≠ c) :
    TB ((w.setCell ⟨L, a, none⟩ (.slice (some ⟨rs c, 0, none⟩) m (cp c))).setCell ⟨L, c, none⟩ (.slice (some ⟨rs a, 0, none⟩) m (cp a))) B g L n m (sw rs c a) (sw cp c a) (swp M c a) d := by
  obtain ⟨cap, ht⟩ := h.t
  obtain ⟨cs, hl, hl2⟩ := h.l
  have rr : ∀ i, i < n → RowIs ((w.setCell ⟨L, a, none⟩ (.slice (some ⟨rs c, 0, none⟩) m (cp c))).setCell ⟨L, c, none⟩ (.slice (some ⟨rs a, 0, none⟩) m (cp a))) (rs i) m (M i) := fun i hi => ((h.r i hi).grown (grown_put w L a _) (h.ne i hi).2).grown (grown_put _ L c _) (h.ne i hi).2
  refine ⟨h.hm, ⟨cap, blk_far (blk_far ht (p := ⟨L, a, none⟩) h.gl _) (p := ⟨L, c, none⟩) h.gl _⟩, ⟨_, blk_set (blk_set hl a _) c _, fun i hi => ?_⟩, fun i hi => ?_, fun i j hi hj he => ?_, h.gl, fun i hi => ?_, h.ge.1, h.ge.2.1, fun i hi => ?_⟩
  · have hsz : ∀ k, k < n → k < cs.size := fun k hk => by
      have := hl2 k hk
      rw [Array.getElem?_eq_some_iff] at this
      exact this.1
    rw [Array.getElem?_setIfInBounds]
    unfold sw
    by_cases e : i = c
    · rw [if_pos e.symm, if_pos (by rw [Array.size_setIfInBounds, ← e]; exact hsz i hi), if_pos e, if_pos e]
    · rw [if_neg (fun q => e q.symm), if_neg e, if_neg e, Array.getElem?_setIfInBounds]
      by_cases f : i = a
      · rw [if_pos f.symm, if_pos (by rw [← f]; exact hsz i hi), if_pos f, if_pos f]
      · rw [if_neg (fun q => f q.symm), if_neg f, if_neg f]
        exact hl2 i hi
  · unfold sw
    by_cases e : i = c
    · rw [if_pos e, e, swp_c]; exact rr a ha
    · rw [if_neg e]
      by_cases f : i = a
      · rw [if_pos f, f, swp_a M c a hca]; exact rr c hc
      · rw [if_neg f, swp_o M c a i e f]; exact rr i hi
  · unfold sw at he
    have q : ∀ x y, x < n → y < n → rs x = rs y → x = y := fun x y hx hy => h.inj x y hx hy
    by_cases e : i = c
    · rw [if_pos e] at he
      by_cases e2 : j = c
      · omega
      · rw [if_neg e2] at he
        by_cases f2 : j = a
        · rw [if_pos f2] at he
          have := q _ _ ha hc he; omega
        · rw [if_neg f2] at he
          have := q _ _ ha hj he; omega
    · rw [if_neg e] at he
      by_cases f : i = a
      · rw [if_pos f] at he
        by_cases e2 : j = c
        · rw [if_pos e2] at he
          have := q _ _ hc ha he; omega
        · rw [if_neg e2] at he
          by_cases f2 : j = a
          · omega
          · rw [if_neg f2] at he
            have := q _ _ hc hj he; omega
      · rw [if_neg f] at he
        by_cases e2 : j = c
        · rw [if_pos e2] at he
          have := q _ _ hi ha he; omega
        · rw [if_neg e2] at he
          by_cases f2 : j = a
          · rw [if_pos f2] at he
            have := q _ _ hi hc he; omega
          · rw [if_neg f2] at he
            exact q _ _ hi hj he
  · unfold sw
    by_cases e : i = c
    · rw [if_pos e]; exact h.ne a ha
    · rw [if_neg e]
      by_cases f : i = a
      · rw [if_pos f]; exact h.ne c hc
      · rw [if_neg f]; exact h.ne i hi
  · unfold sw
    by_cases e : i = c
    · rw [if_pos e]; exact h.ge.2.2 a ha
    · rw [if_neg e]
      by_cases f : i = a
      · rw [if_pos f]; exact h.ge.2.2 c hc
      · rw [if_neg f]; exact h.ge.2.2 i hi
theorem TB.swCell {w : World} {B g L n m : Nat} {rs cp : Nat → Nat} {M : Nat → Nat → Int} {d : Int} (h : TB w B g L n m rs cp M d) (a c : Nat) (hc : c < n) (hca : a ≠ c) (v : Value) : (w.setCell ⟨L, a, none⟩ v).cell? ⟨L, c, none⟩ = some (.slice (some ⟨rs c, 0, none⟩) m (cp c)) ∧ (w.setCell ⟨L, a, none⟩ v).frozen? ⟨L, c, none⟩ = false := by
  obtain ⟨cs, hl, hl2⟩ := h.l
  have h1 := blk_set hl a v
  refine ⟨(blk_cell h1 c).trans ?_, blk_frozen h1 c⟩
  rw [Array.getElem?_setIfInBounds, if_neg hca]
  exact hl2 c hc
set_option maxHeartbeats 8000000 in
theorem begin_any (B g L n m c : Nat) (rs cp : Nat → Nat) (M : Nat → Nat → Int) (d : Int) (w0 w : World) (hT : TB w B g L n m rs cp M d) (hB : Below B w0 w) (hBw : B ≤ w.heap.size) (hc : c < n) (hn : n ≤ 12) :
    Calls Try.prog 40 #[.pointer (some ⟨g, 0, none⟩), .int .i64 c] w fun e w' => (e = .returned (.bool (fnd M c (n - c) c).isSome)) ∧ (∀ a, fnd M c (n - c) c = some a → ∃ rs' cp', TB w' B g L n m rs' cp' (swp M c a) (if a = c then d else of (0 - d))) ∧ Below B w0 w' := by
  have HT := Aside0.mk hT
  have HB := Aside0.mk hB
  have HMm := Aside0.mk hT.hm
  have HG := Aside0.mk hT.ge
  obtain ⟨cap, k0, k1, k2, f2⟩ := hT.cells
  have z0 : (0 : Int) ≤ (c : Int) := by omega
  have z1 : (c : Int) < (n : Int) := by omega
  have z2 : (c : Int) < (m : Int) := by have := hT.hm; omega
  clear hT hB
  go_enter Try.func40, Try.ntmps40
  go_wp2
  go_step3
  go_wp2
  go_step3
  go_wp2
  go_loopw [5, 6] (fun a v wr => ∃ i : Nat, c ≤ i ∧ i ≤ n ∧ .int .i64 (-1) = a ∧ .int .i64 (i : Int) = v ∧ Aside0 (fnd M c (n - c) c = fnd M c (n - i) i) ∧ wr = w) (fun _ v _ => n - (intOf v).toNat)
  case atStart => exact ⟨c, Nat.le_refl _, by omega, rfl, rfl, ⟨rfl⟩, rfl⟩
  case round =>
    obtain ⟨i, hci, hin, rfl, rfl, hf, rfl⟩ := hrel
    by_cases hlt : i < n
    · have j0 : (0 : Int) ≤ (i : Int) := by omega
      have j1 : (i : Int) < (n : Int) := by omega
      obtain ⟨l0, -⟩ := HT.out.rowCell i hlt
      have l1 := HT.out.num i c hlt (by have := HMm.out; omega)
      obtain ⟨x, hx⟩ : ∃ x, M i c = x := ⟨_, rfl⟩
      have HX := Aside0.mk hx
      rw [hx] at l1
      clear hx
      by_cases hxz : x = 0
      · have HXZ := Aside0.mk hxz
        have e1 : (x == 0) = true := beq_iff_eq.mpr hxz
        have e2 : (x != 0) = false := bne_eq_false_iff_eq.mpr hxz
        clear hxz
        go_wp2
        go_roundw
        case rel => exact ⟨i + 1, by omega, by omega, rfl, by go_num, ⟨hf.out.trans (fnd_zero hlt (HX.out.trans HXZ.out))⟩, (by first | rfl | trivial)⟩
        case measure => simp [intOf]; omega
      · have HF := Aside0.mk (hf.out.trans (fnd_here hlt (fun q => hxz (HX.out.symm.trans q))))
        have e1 : (x == 0) = false := beq_eq_false_iff_ne.mpr hxz
        have e2 : (x != 0) = true := bne_iff_ne.mpr hxz
        clear hxz hf
        by_cases hic : i = c
        · have HIC := Aside0.mk hic
          have e3 : ((i : Int) == (c : Int)) = true := by rw [beq_iff_eq]; omega
          have e4 : ((i : Int) != (c : Int)) = false := by rw [bne_eq_false_iff_eq]; omega
          clear hic
          go_wp2
          try rw [Exit.noGoto_ret]
          go_ret
          refine ⟨by rw [HF.out]; rfl, fun a ha => ⟨rs, cp, ?_⟩, HB.out⟩
          rw [HF.out] at ha
          injection ha with ha
          rw [← ha, if_pos HIC.out, HIC.out]
          have e : swp M c c = M := by unfold swp; rw [up_id, up_id]
          rw [e]
          exact HT.out
        · have HIC := Aside0.mk hic
          have e3 : ((i : Int) == (c : Int)) = false := by rw [beq_eq_false_iff_ne]; omega
          have e4 : ((i : Int) != (c : Int)) = true := by rw [bne_iff_ne]; omega
          obtain ⟨l2, l3⟩ := HT.out.rowCell c hc
          obtain ⟨-, l4⟩ := HT.out.rowCell i hlt
          obtain ⟨l5, l6⟩ := HT.out.swCell i c hc hic (.slice (some ⟨rs c, 0, none⟩) m (cp c))
          have hTs := (HT.out.swap c i hc hlt hic).below ((Below.refl _ _).drew)
          obtain ⟨capS, s0, s1, s2, s3⟩ := hTs.cells
          have HTs := Aside0.mk hTs
          have HBs := Aside0.mk (Below.setCell (Below.setCell HB.out (p := ⟨L, i, none⟩) HG.out.2.1 (.slice (some ⟨rs c, 0, none⟩) m (cp c))) (p := ⟨L, c, none⟩) HG.out.2.1 (.slice (some ⟨rs i, 0, none⟩) m (cp i))).drew
          have HS := Aside0.mk (sub_any 0 d)
          have HSw := Aside0.mk (HT.out.swap c i hc hlt hic)
          clear hic hTs
          go_wp2
          go_region
          go_wp2_with (go_at_call 44; refine (HS.out _).mono ?_; rintro e w5 ⟨rfl, rfl⟩)
          try rw [Exit.noGoto_ret]
          go_ret
          refine ⟨by rw [HF.out]; rfl, fun a ha => ⟨sw rs c i, sw cp c i, ?_⟩, Below.setCell HBs.out (p := ⟨g, 2, none⟩) HG.out.1 _⟩
          rw [HF.out] at ha
          injection ha with ha
          rw [← ha, if_neg HIC.out, show of (0 - d) = of (-d) from by rw [Int.zero_sub]]
          exact (HSw.out.putD (of (-d))).below ((Below.refl _ _).drew)
    · have hjn : i = n := by omega
      have HE := Aside0.mk hjn
      clear hjn
      go_wp2
      try rw [Exit.noGoto_ret]
      go_ret
      have e : fnd M c (n - c) c = none := by rw [hf.out, HE.out, Nat.sub_self]; rfl
      exact ⟨by rw [e]; rfl, fun a ha => (by rw [e] at ha; cases ha), HB.out⟩
theorem in_of {n : Nat} {M : Nat → Nat → Int} (h : In n M) {i k : Nat} (hi : i < n) (hk : k ≤ n) (hz : M i k ≠ 0) : of (M i k) ≠ 0 := by rw [of_small (h i k hi hk)]; exact hz
set_option maxHeartbeats 8000000 in
theorem eliminate_any (B g L n m : Nat) (rs cp : Nat → Nat) (M : Nat → Nat → Int) (d : Int) (w0 w : World) (hB0 : B ≤ w0.heap.size) (hT : TB w B g L n m rs cp M d) (hB : Below B w0 w) (hn : n ≤ 12) (hin : In n M) :
    Calls Try.prog 26 #[.pointer (some ⟨g, 0, none⟩)] w fun e w' => e = .returned (.bool (elim invP n n 0 M d).isSome) ∧ (∀ F x, elim invP n n 0 M d = some (F, x) → ∃ rs' cp', TB w' B g L n m rs' cp' F x) ∧ Below B w0 w' := by
  have HT := Aside0.mk hT
  have HB := Aside0.mk hB
  have HI := Aside0.mk hin
  obtain ⟨cap, k0, k1, k2, f2⟩ := hT.cells
  clear hT hB hin
  go_enter Try.func26, Try.ntmps26
  go_wp2
  go_loopw [8] (fun v wr => ∃ c : Nat, c ≤ n ∧ .int .i64 (c : Int) = v ∧ Aside0 (∃ rs' cp' N x, TB wr B g L n m rs' cp' N x ∧ In n N ∧ elim invP n n 0 M d = elim invP n (n - c) c N x) ∧ Aside0 (Below B w0 wr)) (fun v _ => n - (intOf v).toNat)
  case atStart => exact ⟨0, Nat.zero_le _, rfl, ⟨rs, cp, M, d, HT.out, HI.out, rfl⟩, HB⟩
  case round =>
    obtain ⟨c, hcn, rfl, hex, hb⟩ := hrel
    obtain ⟨rs1, cp1, N, x, ht, hi, he⟩ := hex.out
    have HT1 := Aside0.mk ht
    have HI1 := Aside0.mk hi
    have HE1 := Aside0.mk he
    clear hex ht hi he
    by_cases hlt : c < n
    · have HBG := Aside0.mk (begin_any B g L n m c rs1 cp1 N x w0 wr HT1.out hb.out (Nat.le_trans hB0 hb.out.size) hlt hn)
      have hstep : ∃ k, n - c = k + 1 ∧ n - (c + 1) = k := ⟨n - c - 1, by omega, by omega⟩
      obtain ⟨k, hk1, hk2⟩ := hstep
      have HK := Aside0.mk (And.intro hk1 hk2)
      clear hk1 hk2
      obtain ⟨o, hf⟩ : ∃ o, fnd N c (n - c) c = o := ⟨_, rfl⟩
      rw [hf] at HBG
      have HF := Aside0.mk hf
      clear hf
      cases o with
      | none =>
        simp only [Option.isSome] at HBG
        go_wp2_with (go_at_call 40; refine HBG.out.mono ?_; rintro e w2 ⟨rfl, -, hb2⟩; have HB2 := Aside0.mk hb2; clear hb2)
        go_ret
        have e : elim invP n n 0 M d = none := by rw [HE1.out, HK.out.1, elim, HF.out]
        exact ⟨by rw [e]; rfl, fun F x h => (by rw [e] at h; cases h), HB2.out⟩
      | some a =>
        simp only [Option.isSome] at HBG
        have hfs := fnd_some HF.out
        have HPZ := Aside0.mk (show of (swp N c a c c) ≠ 0 from by rw [swp_c]; exact in_of HI1.out (by have := hfs.2.1; omega) (by omega) hfs.2.2)
        clear hfs
        go_wp2_with (first | (go_at_call 40; refine HBG.out.mono ?_; rintro e w2 ⟨rfl, hT2, hb2⟩; obtain ⟨rs2, cp2, ht2⟩ := hT2 a rfl; have HT2 := Aside0.mk ht2; have HB2 := Aside0.mk hb2; clear hb2 ht2 hT2) | (go_at_call 41; refine (clear_any B g L n m c rs2 cp2 _ _ w0 _ HT2.out HB2.out (Nat.le_trans hB0 HB2.out.size) hlt hn HPZ.out).mono ?_; rintro e w3 ⟨rfl, ht3, hb3⟩; have HT3 := Aside0.mk ht3; have HB3 := Aside0.mk hb3; clear ht3 hb3))
        go_roundw
        case rel => exact ⟨c + 1, by omega, by go_num, ⟨rs2, cp2, _, _, HT3.out, in_clr _ _, by rw [HE1.out, HK.out.1, elim, HF.out, HK.out.2]⟩, HB3⟩
        case measure => simp [intOf]; omega
    · have hjn : c = n := by omega
      have HE := Aside0.mk hjn
      clear hjn
      go_wp2
      go_ret
      have e : elim invP n n 0 M d = some (N, x) := by rw [HE1.out, HE.out, Nat.sub_self]; rfl
      refine ⟨by rw [e]; rfl, fun F y h => ?_, hb.out⟩
      rw [e] at h
      injection h with h
      injection h with h1 h2
      subst h1 h2
      exact ⟨rs1, cp1, HT1.out⟩
end Go.Proofs.Ytpjfelbamcgnhaa.Gv
