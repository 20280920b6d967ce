/- CutTerms, by hand. -/
import Derived.Test.YtgkncmnkbhgjmaaPr
import Derived.Test.YtgkncmnkbhgjmaaXxL36awake
import Derived.Test.YtgkncmnkbhgjmaaXxL36light
namespace Go.Proofs.Ytgkncmnkbhgjmaa.Gv
open Go.RowKit Go.Proofs.Ytgkncmnkbhgjmaa.X Go.Proofs.YtgkncmnkbhgjmaaW.PrintWords Go.Proofs.YtgkncmnkbhgjmaaW.PrintLast Go.Proofs.YtgkncmnkbhgjmaaW.PrintMore _root_.Go.Proofs.Ytgkncmnkbhgjmaa.Pure
theorem awake_any (w : World) : Calls Try.prog 7 #[] w fun e w' => e = .returned (.bool true) ∧ Below w.heap.size w w' := by
  obtain ⟨k, hk⟩ := Ev.rounds (show Ev (fun k => penumbralaw36_awake.f k) true from Ev.of penumbralaw36_awake.mono (k := 40) (by decide +kernel))
  exact penumbralaw36_awake.calls k true w hk
theorem light_is (e t : List Int) (r a b : Int) (v : Bool) (h : v = true ↔ e.length ≤ 20 ∧ t.length ≤ 200) : penumbralaw36_Ask_light.f e t r a b = some v := by
  unfold penumbralaw36_Ask_light.f
  by_cases c : e.length ≤ 20
  · rw [if_pos (by omega)]
    by_cases d : t.length ≤ 200
    · rw [decide_eq_true (by omega), h.mpr ⟨c, d⟩]
    · have : v = false := by
        cases v with
        | false => rfl
        | true => exact absurd (h.mp rfl).2 d
      rw [decide_eq_false (by omega), this]
  · have : v = false := by
      cases v with
      | false => rfl
      | true => exact absurd (h.mp rfl).1 c
    rw [if_neg (by omega), this]
/-- the box of the law's ask -/
structure Bx (w : World) (e t : List Int) (A0 : Option Addr) (c0 : Nat) (A1 : Option Addr) (c1 : Nat) (r a b : Int) (W : World) : Prop where
  box : W.heap[w.heap.size]? = some (.cells #[.slice A0 e.length c0, .slice A1 t.length c1, .int .i64 r, .int .i64 a, .int .i64 b] 24 (0, 0))
  bel : Below w.heap.size w W
  re : Kd.C (Kd.int .i64) W A0 e.length e
  rt : Kd.C (Kd.int .i64) W A1 t.length t
section
variable {w W W1 : World} {e t : List Int} {A0 A1 : Option Addr} {c0 c1 : Nat} {r a b : Int}
theorem Bx.start (hr0 : Kd.C (Kd.int .i64) w A0 e.length e) (hr1 : Kd.C (Kd.int .i64) w A1 t.length t) : Bx w e t A0 c0 A1 c1 r a b (w.alloc (.cells #[.slice A0 e.length c0, .slice A1 t.length c1, .int .i64 r, .int .i64 a, .int .i64 b] 24 (0, 0))) := by
  have h := Below.alloc (Below.refl w.heap.size w) (Nat.le_refl _) (.cells #[.slice A0 e.length c0, .slice A1 t.length c1, .int .i64 r, .int .i64 a, .int .i64 b] 24 (0, 0))
  exact ⟨blk_new _ _, h, Kd.C_below hr0 h, Kd.C_below hr1 h⟩
theorem Bx.next (h : Bx w e t A0 c0 A1 c1 r a b W) (hb : Below W.heap.size W W1) : Bx w e t A0 c0 A1 c1 r a b W1 :=
  ⟨blk_below h.box hb, below_then h.bel h.bel.size hb, Kd.C_below h.re hb, Kd.C_below h.rt hb⟩
theorem Bx.cells (h : Bx w e t A0 c0 A1 c1 r a b W) : W.cell? ⟨w.heap.size, 0, none⟩ = some (.slice A0 e.length c0) ∧ W.cell? ⟨w.heap.size, 1, none⟩ = some (.slice A1 t.length c1) ∧ W.cell? ⟨w.heap.size, 2, none⟩ = some (.int .i64 r) ∧ W.cell? ⟨w.heap.size, 3, none⟩ = some (.int .i64 a) ∧ W.cell? ⟨w.heap.size, 4, none⟩ = some (.int .i64 b) :=
  ⟨(blk_cell h.box 0).trans rfl, (blk_cell h.box 1).trans rfl, (blk_cell h.box 2).trans rfl, (blk_cell h.box 3).trans rfl, (blk_cell h.box 4).trans rfl⟩
end
set_option maxHeartbeats 2000000 in
theorem terms_dark (e t : List Int) (A0 : Option Addr) (c0 : Nat) (A1 : Option Addr) (c1 : Nat) (r a b : Int) (w : World) (hr0 : Kd.C (Kd.int .i64) w A0 e.length e) (hc0 : e.length ≤ c0) (hr1 : Kd.C (Kd.int .i64) w A1 t.length t) (hc1 : t.length ≤ c1) (hl : ¬ (e.length ≤ 20 ∧ t.length ≤ 200)) :
    Calls Try.prog 3 #[.agg #[.slice A0 e.length c0, .slice A1 t.length c1, .int .i64 r, .int .i64 a, .int .i64 b]] w fun x w' => x = .returned (.bool true) ∧ Below w.heap.size w w' := by
  have hu24 := Try.underlying24
  have HX := Aside0.mk (Bx.start (c0 := c0) (c1 := c1) (r := r) (a := a) (b := b) hr0 hr1)
  have HL := Aside0.mk (light_is e t r a b false ⟨fun x => (by cases x), fun x => absurd x hl⟩)
  clear hr0 hr1 hl
  obtain ⟨k0, k1, k2, k3, k4⟩ := HX.out.cells
  go_enter Try.func3, Try.ntmps3
  go_wp2_with (first
    | (go_at_call 6; (with_reducible refine (penumbralaw36_Ask_light.calls _ _ e _ _ t r a b false _ HX.out.re hc0 HX.out.rt hc1 HL.out).mono ?_); rintro x w1 ⟨rfl, hb1⟩; have HX1 := Aside0.mk (HX.out.next hb1); clear hb1)
    | (go_at_call 7; (with_reducible refine (awake_any _).mono ?_); rintro x w2 ⟨rfl, hb2⟩; have HX2 := Aside0.mk (HX1.out.next hb2); clear hb2))
  go_ret
  exact ⟨rfl, HX2.out.bel⟩
/-- what is wrong with the model, or the term's place -/
theorem ev_some {α : Type} {f : Nat → Option α} {r : α} (h : Ev f r) : ∃ k, f k = some r := Ev.rounds h
set_option maxHeartbeats 4000000 in
theorem terms_far (e t : List Int) (A0 : Option Addr) (c0 : Nat) (A1 : Option Addr) (c1 : Nat) (r a b c z : Int) (w : World) (hr0 : Kd.C (Kd.int .i64) w A0 e.length e) (hc0 : e.length ≤ c0) (hr1 : Kd.C (Kd.int .i64) w A1 t.length t) (hc1 : t.length ≤ c1) (hl : e.length ≤ 20 ∧ t.length ≤ 200)
    (hc : ChkP e t r c) (hz : (if c = 0 then 3 else c) = z) (hfar : c ≠ 0 ∨ ¬ (0 ≤ b ∧ b ≤ 4)) :
    Calls Try.prog 3 #[.agg #[.slice A0 e.length c0, .slice A1 t.length c1, .int .i64 r, .int .i64 a, .int .i64 b]] w fun x w' => x = .returned (.bool true) ∧ Below w.heap.size w w' := by
  have hu24 := Try.underlying24
  have HX := Aside0.mk (Bx.start (c0 := c0) (c1 := c1) (r := r) (a := a) (b := b) hr0 hr1)
  have HL := Aside0.mk (light_is e t r a b true ⟨fun _ => hl, fun _ => rfl⟩)
  obtain ⟨kt, hkt⟩ := ev_some (term_far (by omega) (by omega) hc b hfar)
  obtain ⟨kc, hkc⟩ := ev_some (ccheck_ev (by omega) (by omega) hc)
  obtain ⟨kr, hkr⟩ := ev_some (rcheck_ev (by omega) hc)
  rw [hz] at hkt
  have HKt := Aside0.mk hkt
  have HKc := Aside0.mk hkc
  have HKr := Aside0.mk hkr
  have hz0 : (z == 0) = false := by
    rw [beq_eq_false_iff_ne, ← hz]
    split <;> omega
  have hcase : ((c == 0) = false ∧ c = z) ∨ (c = 0 ∧ z = 3 ∧ b < 0) ∨ (c = 0 ∧ z = 3 ∧ 0 ≤ b ∧ 4 < b) := by
    by_cases c0 : c = 0
    · rw [if_pos c0] at hz
      by_cases d : b < 0
      · exact .inr (.inl ⟨c0, hz.symm, d⟩)
      · refine .inr (.inr ⟨c0, hz.symm, by omega, ?_⟩)
        rcases hfar with h | h
        · exact absurd c0 h
        · omega
    · rw [if_neg c0] at hz
      exact .inl ⟨beq_eq_false_iff_ne.mpr c0, hz⟩
  clear hr0 hr1 hl hkt hkc hkr hc hz hfar
  obtain ⟨k0, k1, k2, k3, k4⟩ := HX.out.cells
  rcases hcase with ⟨g1, rfl⟩ | ⟨rfl, rfl, g1⟩ | ⟨rfl, rfl, g1, g2⟩
  all_goals go_enter Try.func3, Try.ntmps3
  all_goals
    go_wp2_with (first
      | (go_at_call 6; (with_reducible refine (penumbralaw36_Ask_light.calls _ _ e _ _ t r a b true _ HX.out.re hc0 HX.out.rt hc1 HL.out).mono ?_); rintro x w1 ⟨rfl, hb1⟩; have HX1 := Aside0.mk (HX.out.next hb1); clear hb1; obtain ⟨k0, k1, k2, k3, k4⟩ := HX1.out.cells)
      | (go_at_call 8; (with_reducible refine (cut_Term.calls kt _ _ e _ _ t r b _ _ _ HX1.out.re hc0 HX1.out.rt hc1 HKt.out).mono ?_); rintro x w2 ⟨v2, rfl, hR2, hb2⟩; obtain ⟨A2, c2, rfl⟩ := Kd.R_slice hR2; have HX2 := Aside0.mk (HX1.out.next hb2); clear hb2 hR2; obtain ⟨k0, k1, k2, k3, k4⟩ := HX2.out.cells)
      | (go_at_call 9; (with_reducible refine (penumbraref36_Check.calls kr _ _ e _ _ t r _ _ HX2.out.re hc0 HX2.out.rt hc1 HKr.out).mono ?_); rintro x w3 ⟨rfl, hb3⟩; have HX3 := Aside0.mk (HX2.out.next hb3.below); clear hb3; obtain ⟨k0, k1, k2, k3, k4⟩ := HX3.out.cells)
      | (go_at_call 10; (with_reducible refine (cut_Check.calls kc _ _ e _ _ t r _ _ HX3.out.re hc0 HX3.out.rt hc1 HKc.out).mono ?_); rintro x w4 ⟨rfl, hb4⟩; have HX4 := Aside0.mk (HX3.out.next hb4); clear hb4; obtain ⟨k0, k1, k2, k3, k4⟩ := HX4.out.cells)
      | (go_at_call 7; (with_reducible refine (awake_any _).mono ?_); rintro x w5 ⟨rfl, hb5⟩; have HX5 := Aside0.mk (HX4.out.next hb5); clear hb5))
  all_goals
    go_ret
    exact ⟨rfl, HX5.out.bel⟩
theorem rterm_calls (e t L : List Int) (A0 : Option Addr) (c0 : Nat) (A1 : Option Addr) (c1 : Nat) (r b : Int) (m : Nat) (hb : b = m) (W : World) (hz : Siz e t) (hg : Pure.Good e t r) (hm : m ≤ 4) (hL : tm e.length t e m = L) (hr0 : Kd.C (Kd.int .i64) W A0 e.length e) (hc0 : e.length ≤ c0) (hr1 : Kd.C (Kd.int .i64) W A1 t.length t) :
    Calls Try.prog 12 #[.slice A0 e.length c0, .slice A1 t.length c1, .int .i64 b] W fun x w' => ∃ A c, x = .returned (.slice A L.length c) ∧ L.length ≤ c ∧ Kd.C (Kd.int .i64) w' A L.length L ∧ Below W.heap.size W w' := by
  subst hb
  have hl : L.length = e.length := by rw [← hL]; exact tm_length m
  refine (rterm_any e.length e t A0 c0 A1 c1 W rfl hz.2.1 hz.2.2 hr0 hc0 hr1 m hm).mono ?_
  rintro x w' ⟨A, c, h1, h2, h3, h4, -, -⟩
  rw [rtm_tm hz hg m hm, hL] at h3
  rw [hl]
  exact ⟨A, c, h1, h2, h3, h4⟩
set_option maxHeartbeats 4000000 in
theorem terms_ok (e t : List Int) (A0 : Option Addr) (c0 : Nat) (A1 : Option Addr) (c1 : Nat) (r a b : Int) (w : World) (hr0 : Kd.C (Kd.int .i64) w A0 e.length e) (hc0 : e.length ≤ c0) (hr1 : Kd.C (Kd.int .i64) w A1 t.length t) (hc1 : t.length ≤ c1) (hl : e.length ≤ 20 ∧ t.length ≤ 200)
    (hz : Siz e t) (hg : Pure.Good e t r) (g1 : 0 ≤ b) (g2 : b ≤ 4) :
    Calls Try.prog 3 #[.agg #[.slice A0 e.length c0, .slice A1 t.length c1, .int .i64 r, .int .i64 a, .int .i64 b]] w fun x w' => x = .returned (.bool true) ∧ Below w.heap.size w w' := by
  have hu24 := Try.underlying24
  have HX := Aside0.mk (Bx.start (c0 := c0) (c1 := c1) (r := r) (a := a) (b := b) hr0 hr1)
  have HL := Aside0.mk (light_is e t r a b true ⟨fun _ => hl, fun _ => rfl⟩)
  have hc : ChkP e t r 0 := .inr (.inr ⟨hz, hg, rfl⟩)
  obtain ⟨m, hm⟩ := Int.eq_ofNat_of_zero_le g1
  have hm4 : m ≤ 4 := by omega
  obtain ⟨L, hL⟩ : ∃ L, tm e.length t e m = L := ⟨_, rfl⟩
  have hLl : L.length = e.length := by rw [← hL]; exact tm_length m
  obtain ⟨kt, hkt⟩ := ev_some (term_ev hz hg m hm4)
  rw [← hm, hL] at hkt
  obtain ⟨kc, hkc⟩ := ev_some (ccheck_ev (by omega) (by omega) hc)
  obtain ⟨kr, hkr⟩ := ev_some (rcheck_ev (by omega) hc)
  obtain ⟨ki, hki⟩ := ev_some (ints_ev L (by omega))
  obtain ⟨M, hM, hMP⟩ := cmost_ev L (by omega)
  obtain ⟨M2, hM2, hMP2⟩ := rmost_ev L (by omega)
  have e2 := most_uniq hMP2 hMP
  subst e2
  obtain ⟨km, hkm⟩ := ev_some hM
  obtain ⟨kn, hkn⟩ := ev_some hM2
  have HKt := Aside0.mk hkt
  have HKc := Aside0.mk hkc
  have HKr := Aside0.mk hkr
  have HKi := Aside0.mk hki
  have HKm := Aside0.mk hkm
  have HKn := Aside0.mk hkn
  have HT := Aside0.mk (fun W h0 h1 => rterm_calls e t L A0 c0 A1 c1 r b m hm W hz hg hm4 hL h0 hc0 h1)
  clear hr0 hr1 hl hkt hkc hkr hki hkm hkn hc hz hg hm hM hM2 hMP hMP2 hL hm4 hLl
  obtain ⟨k0, k1, k2, k3, k4⟩ := HX.out.cells
  go_enter Try.func3, Try.ntmps3
  go_wp2_with (first
    | (go_at_call 6; (with_reducible refine (penumbralaw36_Ask_light.calls _ _ e _ _ t r a b true _ HX.out.re hc0 HX.out.rt hc1 HL.out).mono ?_); rintro x w1 ⟨rfl, hb1⟩; have HX1 := Aside0.mk (HX.out.next hb1); clear hb1; obtain ⟨k0, k1, k2, k3, k4⟩ := HX1.out.cells)
    | (go_at_call 8; (with_reducible refine (cut_Term.calls kt _ _ e _ _ t r b _ _ _ HX1.out.re hc0 HX1.out.rt hc1 HKt.out).mono ?_); rintro x w2 ⟨v2, rfl, hR2, hb2⟩; obtain ⟨A2, c2, rfl⟩ := Kd.R_slice hR2; have HO2 := Aside0.mk (Kd.R_reads' hR2).2; have HX2 := Aside0.mk (HX1.out.next hb2); clear hb2 hR2; obtain ⟨k0, k1, k2, k3, k4⟩ := HX2.out.cells)
    | (go_at_call 9; (with_reducible refine (penumbraref36_Check.calls kr _ _ e _ _ t r _ _ HX2.out.re hc0 HX2.out.rt hc1 HKr.out).mono ?_); rintro x w3 ⟨rfl, hb3⟩; have HO3 := Aside0.mk (Kd.C_below HO2.out.2 hb3.below); have HX3 := Aside0.mk (HX2.out.next hb3.below); clear hb3; obtain ⟨k0, k1, k2, k3, k4⟩ := HX3.out.cells)
    | (go_at_call 10; (with_reducible refine (cut_Check.calls kc _ _ e _ _ t r _ _ HX3.out.re hc0 HX3.out.rt hc1 HKc.out).mono ?_); rintro x w4 ⟨rfl, hb4⟩; have HO4 := Aside0.mk (Kd.C_below HO3.out hb4); have HX4 := Aside0.mk (HX3.out.next hb4); clear hb4; obtain ⟨k0, k1, k2, k3, k4⟩ := HX4.out.cells)
    | (go_at_call 7; (with_reducible refine (awake_any _).mono ?_); rintro x w5 ⟨rfl, hb5⟩; have HO5 := Aside0.mk (Kd.C_below HO4.out hb5); have HX5 := Aside0.mk (HX4.out.next hb5); clear hb5; obtain ⟨k0, k1, k2, k3, k4⟩ := HX5.out.cells)
    | (go_at_call 12; (with_reducible refine (HT.out _ HX5.out.re HX5.out.rt).mono ?_); rintro x w6 ⟨A6, c6, rfl, hc6, hC6, hb6⟩; have HC6 := Aside0.mk hC6; have HO6 := Aside0.mk (Kd.C_below HO5.out hb6); have HX6 := Aside0.mk (HX5.out.next hb6); clear hb6 hC6)
    | (go_at_call 11; (with_reducible refine (penumbraref01_Ints.calls ki _ _ L _ _ L _ _ HO6.out HO2.out.1 HC6.out hc6 HKi.out).mono ?_); rintro x w7 ⟨rfl, hb7⟩; have HO7 := Aside0.mk (Kd.C_below HO6.out hb7.below); have HX7 := Aside0.mk (HX6.out.next hb7.below); clear hb7)
    | (go_at_call 13; (with_reducible refine (cut_Most.calls km _ _ L _ _ HO7.out HO2.out.1 HKm.out).mono ?_); rintro x w8 ⟨rfl, hb8⟩; have HO8 := Aside0.mk (Kd.C_below HO7.out hb8); have HX8 := Aside0.mk (HX7.out.next hb8); clear hb8)
    | (go_at_call 14; (with_reducible refine (penumbraref36_Most.calls kn _ _ L _ _ HO8.out HO2.out.1 HKn.out).mono ?_); rintro x w9 ⟨rfl, hb9⟩; have HX9 := Aside0.mk (HX8.out.next hb9.below); clear hb9))
  go_ret
  exact ⟨rfl, HX9.out.bel⟩
theorem cutTerms_any (e t : List Int) (A0 : Option Addr) (c0 : Nat) (A1 : Option Addr) (c1 : Nat) (r a b : Int) (w : World) (hr0 : Kd.C (Kd.int .i64) w A0 e.length e) (hc0 : e.length ≤ c0) (hr1 : Kd.C (Kd.int .i64) w A1 t.length t) (hc1 : t.length ≤ c1) :
    Calls Try.prog 3 #[.agg #[.slice A0 e.length c0, .slice A1 t.length c1, .int .i64 r, .int .i64 a, .int .i64 b]] w fun x w' => x = .returned (.bool true) ∧ Below w.heap.size w w' := by
  by_cases hl : e.length ≤ 20 ∧ t.length ≤ 200
  · obtain ⟨c, hc⟩ := ChkP.tot e t r
    by_cases hfar : c ≠ 0 ∨ ¬ (0 ≤ b ∧ b ≤ 4)
    · exact terms_far e t A0 c0 A1 c1 r a b c _ w hr0 hc0 hr1 hc1 hl hc rfl hfar
    · have h0 : c = 0 := Decidable.byContradiction fun x => hfar (.inl x)
      have h1 : 0 ≤ b ∧ b ≤ 4 := Decidable.byContradiction fun x => hfar (.inr x)
      subst h0
      rcases hc with ⟨_, h⟩ | ⟨_, _, h⟩ | ⟨hz, hg, _⟩
      · cases h
      · cases h
      · exact terms_ok e t A0 c0 A1 c1 r a b w hr0 hc0 hr1 hc1 hl hz hg h1.1 h1.2
  · exact terms_dark e t A0 c0 A1 c1 r a b w hr0 hc0 hr1 hc1 hl
end Go.Proofs.Ytgkncmnkbhgjmaa.Gv
