/- What must come at any rate: the walk of awake. -/
import Derived.Test.YtkmdbidjdppdnaaQh
import Derived.ChangeKeysEq
namespace Go.Proofs.Ytkmdbidjdppdnaa.Gv
open Go.RowKit Go.Proofs.Ytkmdbidjdppdnaa.X Go.Proofs.YtkmdbidjdppdnaaW.PrintWords Go.Proofs.YtkmdbidjdppdnaaW.PrintLast Go.Proofs.YtkmdbidjdppdnaaW.PrintMore
set_option linter.unusedVariables false
set_option linter.unusedSimpArgs false
theorem add_lit0 (b m : Nat) : (⟨b, 0, none⟩ : Addr).add m = ⟨b, m, none⟩ := by
  unfold Addr.add
  split
  · rename_i h; rw [h]
  · simp
/-- a pair of a row that is one's own -/
theorem pr_at {w : World} {base b n c : Nat} {ok : Nat → Prop} {l : List (Nat × Nat)} (h : PK.R 29 w base ok (.slice (some ⟨b, 0, none⟩) n c) l) (hl : l.length = n) (j : Nat) (hj : j < n) :
    w.cell? ⟨b, j * 2, none⟩ = some (.float .f64 (l.getD j (0, 0)).1) ∧ w.cell? ⟨b, j * 2 + 1, none⟩ = some (.float .f64 (l.getD j (0, 0)).2) := by
  obtain ⟨A, c2, e, _, hc⟩ := Kd.R_reads h
  injection e with e1 _ _
  subst e1
  rw [hl] at hc
  obtain ⟨ad, e2, k0, k1⟩ := pk_at hc j hj
  injection e2 with e2
  subst e2
  rw [add_lit0] at k0 k1
  exact ⟨k0, k1⟩
theorem own_first {w : World} {base n c : Nat} {ok : Nat → Prop} {l : List (Nat × Nat)} {A : Option Addr} (h : PK.R 29 w base ok (.slice A n c) l) (hn : 0 < n) : ∃ b, A = some ⟨b, 0, none⟩ ∧ base ≤ b ∧ b < w.heap.size := by
  obtain ⟨inner, hin⟩ := Kd.R_own h
  rcases hin.2 with ⟨h0, _⟩ | ⟨g2, cap, cur, h0, _⟩
  · injection h0 with _ h1 _
    omega
  · injection h0 with h0 _ _
    subst h0
    have hb := (Kd.R_bound h).1 g2 rfl
    exact ⟨g2, rfl, hb.2.1, hb.2.2.1⟩
def awX : List Nat := [4602678819172646912, 4602678819172646912, 0, 0, 4598175219545276416]
theorem aw_g0 : (gridL 2 awX 4).getD 0 (0, 0) = (4598175219545276416, 4598175219545276416) := by decide +kernel
theorem aw_g1 : (gridL 2 awX 4).getD 1 (0, 0) = (4602678819172646912, 0) := by decide +kernel
theorem aw_g2 : ((gridL 2 awX 4).getD 2 (0, 0)).1 = 4593671619917905920 := by decide +kernel
theorem aw_even : allOne (cellsL 2 (gridL 2 awX 4) 4) = true := by decide +kernel
theorem aw_spread : spreadB 4 (latL 4) = true := by decide +kernel
theorem eqf_gen {P : Program} (d : Nat) (t : TypeId) (a b : Nat) (h : P.underlying t = some (.float .f64)) (w : World) : (Op.equalIn (d + 1) t (.float .f64 a) (.float .f64 b)).run P w = .ok (feq a b) w := by
  simp [Op.equalIn, run_underlying h, Op.floatEq, feq]
theorem eqf_run (a b : Nat) (w : World) : (Op.equalIn 9999 28 (.float .f64 a) (.float .f64 b)).run Try.prog w = .ok (feq a b) w := eqf_gen 9998 28 a b Try.underlying28 w
theorem eqp_run (a b c d : Nat) (h1 : feq a c = true) (h2 : feq b d = true) (w : World) : (Op.equalIn 10000 29 (.agg #[.float .f64 a, .float .f64 b]) (.agg #[.float .f64 c, .float .f64 d])).run Try.prog w = .ok true w := by
  have e1 := fun w => eqf_run a c w
  have e2 := fun w => eqf_run b d w
  rw [h1] at e1
  rw [h2] at e2
  have hu := Try.underlying29
  have hf := Try.underlying28
  have hs : (Try.prog.info? 28).isSome = true := by kernel_rfl
  obtain ⟨i, hi⟩ := Option.isSome_iff_exists.1 hs
  have hc : Try.prog.cellsOf 28 = 1 := by kernel_rfl
  rw [run_equalIn_array w 9999 _ _ hu hi, hc]
  have hr : List.range 2 = [0, 1] := rfl
  rw [hr]
  simp [Op.eqItems, part, isAgg, run_underlying hf, e1, e2]
theorem aw_eq0 : feq 4598175219545276416 4598175219545276416 = true := by decide +kernel
theorem aw_eq1 : feq 4602678819172646912 4602678819172646912 = true := by decide +kernel
theorem aw_eq2 : feq 0 0 = true := by decide +kernel
theorem aw_eq3 : (FloatKind.f64.format.order 4593671619917905920 4593671619917905920 == some .eq) = true := by decide +kernel
theorem aw_row (w : World) : FK.C (w.alloc (.cells #[.float .f64 4602678819172646912, .float .f64 4602678819172646912, .float .f64 0, .float .f64 0, .float .f64 4598175219545276416] 28)) (some ⟨w.heap.size, 0, none⟩) awX.length awX := by
  refine Kd.C_of_reads (d := (0 : Nat)) ⟨rfl, by decide, fun _ => ⟨_, rfl, fun j hj => ?_⟩⟩
  rw [add_lit0]
  have hb := blk_new w (.cells #[.float .f64 4602678819172646912, .float .f64 4602678819172646912, .float .f64 0, .float .f64 0, .float .f64 4598175219545276416] 28)
  have h5 : j = 0 ∨ j = 1 ∨ j = 2 ∨ j = 3 ∨ j = 4 := by
    have : awX.length = 5 := rfl
    omega
  rcases h5 with rfl | rfl | rfl | rfl | rfl
  all_goals exact (blk_cell hb _).trans rfl
set_option maxHeartbeats 8000000 in
theorem awake42 (w : World) : Calls Try.prog 6 #[] w fun e w' => e = .returned (.bool true) ∧ Below w.heap.size w w' := by
  have HG := Aside0.mk (grid_any 2 (by decide) (by decide) (some ⟨w.heap.size, 0, none⟩) 5 awX _ (aw_row w) (by decide))
  have HA := Aside0.mk (show Below w.heap.size w (w.alloc (.cells #[.float .f64 4602678819172646912, .float .f64 4602678819172646912, .float .f64 0, .float .f64 0, .float .f64 4598175219545276416] 28)) from Below.alloc (Below.refl _ _) (Nat.le_refl _) _)
  have g0 := aw_g0
  have g1 := aw_g1
  have g2 := aw_g2
  have gE := aw_even
  have gS := Aside0.mk aw_spread
  have gl : (gridL 2 awX 4).length = 4 := gridL_length 2 awX 4
  have ll : (latL 4).length = 4 := latL_length 4
  rw [show 2 * 2 = 4 from rfl] at HG
  generalize gridL 2 awX 4 = l at *
  have GE := Aside0.mk gE
  have G0 := Aside0.mk g0
  have G1 := Aside0.mk g1
  have G2 := Aside0.mk g2
  have GL := Aside0.mk gl
  have LL := Aside0.mk ll
  have q0 := aw_eq0
  have q1 := aw_eq1
  have q2 := aw_eq2
  have q3 := aw_eq3
  have hu := Try.underlying29
  have eq0 := eqp_run 4598175219545276416 4598175219545276416 4598175219545276416 4598175219545276416 q0 q0
  have eq1 := eqp_run 4602678819172646912 0 4602678819172646912 0 q1 q2
  clear g0 g1 g2 gE gl ll
  go_enter Try.func6, Try.ntmps6
  go_wp2_with (first
    | (go_at_call 7; refine (show Calls _ _ _ _ _ from HG.out).mono ?_; rintro e w2 ⟨v, rfl, hR, hb⟩; obtain ⟨Av, cv, rfl⟩ : ∃ (Av : Option Addr) (cv : Nat), v = Value.slice Av 4 cv := by { obtain ⟨A1, c1, e1⟩ := Kd.R_slice hR; rw [GL.out] at e1; exact ⟨_, _, e1⟩ }; obtain ⟨b, rfl, hbb, hbl⟩ := own_first hR (by decide); have HR := Aside0.mk hR; have HB := Aside0.mk (below_then HA.out HA.out.size hb); have HBL := Aside0.mk hbl; clear hR hb hbb hbl)
    | (go_at_call 12; refine (new_any 42 54 _).mono ?_; rintro e w3 ⟨g, rfl, hg0, hG1, hb1⟩; have HRn := Aside0.mk (Kd.R_below (Kd.R_mono (Kd.R_bound HR.out) (ok' := fun k => k ≠ g) (fun k hk => (by have := hk.2.2.1; omega))) hb1); have HG1 := Aside0.mk hG1; have HB3 := Aside0.mk (below_then HB.out HB.out.size hb1); have HGg := Aside0.mk hg0; clear hG1 hb1 hg0)
    | (go_at_call 11; refine (latin4 g _ HG1.out).mono ?_; rintro e w4 ⟨v, rfl, hR, hg4⟩; obtain ⟨Aw, cw, rfl⟩ : ∃ (Aw : Option Addr) (cw : Nat), v = Value.slice Aw 4 cw := by { obtain ⟨A1, c1, e1⟩ := Kd.R_slice hR; rw [LL.out] at e1; exact ⟨_, _, e1⟩ }; have HL := Aside0.mk hR; have HB4 := Aside0.mk (grown_below HB3.out hg4 HB3.out.size (Nat.le_trans HB.out.size HGg.out)); have HR4 := Aside0.mk (Kd.R_grown HRn.out hg4 (fun k hk e => hk (by injection e))); have hc4 := Kd.R_reads' HR4.out; have hp0 := pr_at HR4.out GL.out 0 (by decide); rw [G0.out] at hp0; have hp1 := pr_at HR4.out GL.out 1 (by decide); rw [G1.out] at hp1; have hp2 := (pr_at HR4.out GL.out 2 (by decide)).1; rw [G2.out] at hp2; replace hp2 : w4.cell? ⟨b, 4, none⟩ = some (.float .f64 4593671619917905920) := hp2; have p00 : w4.cell? ⟨b, 0, none⟩ = some (.float .f64 4598175219545276416) := hp0.1; have p01 : w4.cell? ⟨b, 1, none⟩ = some (.float .f64 4598175219545276416) := hp0.2; have p10 : w4.cell? ⟨b, 2, none⟩ = some (.float .f64 4602678819172646912) := hp1.1; have p11 : w4.cell? ⟨b, 3, none⟩ = some (.float .f64 0) := hp1.2; have HE := Aside0.mk (even_any 2 (by decide) (by decide) (some ⟨b, 0, none⟩) cv l w4 (by have h := (Kd.R_reads' HR4.out).2.2; exact h) (by rw [GL.out]; decide)); rw [GL.out, GE.out] at HE; clear hR hg4 hp0 hp1 hc4)
    | (go_at_call 10; refine (show Calls _ _ _ _ _ from HE.out).mono ?_; rintro e w5 ⟨rfl, hb5⟩; have HB5 := Aside0.mk (below_then HB4.out HB4.out.size hb5); have HL5 := Aside0.mk (Kd.R_reads' (Kd.R_below HL.out hb5)).2.2; have HS := Aside0.mk (spread_any 4 (by decide) (by decide) Aw cw (latL 4) w5 HL5.out LL.out); rw [LL.out, gS.out] at HS; clear hb5)
    | (go_at_call 18; refine (show Calls _ _ _ _ _ from HS.out).mono ?_; rintro e w6 ⟨rfl, hb6⟩; have HB6 := Aside0.mk (below_then HB5.out HB5.out.size hb6); clear hb6))
  go_ret
  exact ⟨rfl, HB6.out⟩
end Go.Proofs.Ytkmdbidjdppdnaa.Gv
