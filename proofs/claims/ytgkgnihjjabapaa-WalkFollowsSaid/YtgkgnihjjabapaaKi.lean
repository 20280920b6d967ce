/- the document's path, by hand. -/
import Derived.Test.YtgkgnihjjabapaaKh
namespace Go.Proofs.Ytgkgnihjjabapaa.Gv
open Go.RowKit Go.Proofs.Ytgkgnihjjabapaa.X Go.Proofs.Ytgkgnihjjabapaa.Pl Go.Proofs.Ytgkgnihjjabapaa.Pa Go.Proofs.Ytgkgnihjjabapaa.Pb Go.Proofs.Ytgkgnihjjabapaa.Pq Go.Proofs.YtgkgnihjjabapaaW.PrintWords Go.Proofs.YtgkgnihjjabapaaW.PrintLast
set_option linter.unusedVariables false
set_option linter.unusedSimpArgs false
def bxR (R : Rw) : Obj := .cells #[.slice R.aE R.E.length R.cE, .slice R.aT R.T.length R.cT, .slice R.aG R.G.length R.cG, .slice R.aA R.A.length R.cA, .int .i64 R.on, .int .i64 (R.n : Int)] 39 (0, 0)
def bxX (j g : Nat) (o : Bool) : Obj := .cells #[.int .i64 (j : Int), .int .i64 (g : Int), .bool o] 50 (0, 0)
/-- what every world of a walk still holds -/
structure FW (R : Rw) (j g : Nat) (o : Bool) (w W : World) : Prop where
  b : W.heap[w.heap.size]? = some (bxR R)
  x : W.heap[w.heap.size + 1]? = some (bxX j g o)
  bel : Below w.heap.size w W
theorem FW.next {R : Rw} {j g : Nat} {o : Bool} {w W W' : World} (h : FW R j g o w W) (hb : Below W.heap.size W W') : FW R j g o w W' := ⟨blk_below h.b hb, blk_below h.x hb, below_then h.bel h.bel.size hb⟩
theorem FW.drawn {R : Rw} {j g : Nat} {o : Bool} {w W : World} (h : FW R j g o w W) (m : Nat) : FW R j g o w (W.drewN m) := h.next (pw_below_drewN (Below.refl _ _) m)
theorem FW.drew {R : Rw} {j g : Nat} {o : Bool} {w W : World} (h : FW R j g o w W) : FW R j g o w W.drew := h.drawn 1
theorem FW.cells {R : Rw} {j g : Nat} {o : Bool} {w W : World} (h : FW R j g o w W) : W.cell? ⟨w.heap.size, 0, none⟩ = some (.slice R.aE R.E.length R.cE) ∧ W.cell? ⟨w.heap.size, 1, none⟩ = some (.slice R.aT R.T.length R.cT) ∧ W.cell? ⟨w.heap.size, 2, none⟩ = some (.slice R.aG R.G.length R.cG) ∧ W.cell? ⟨w.heap.size, 3, none⟩ = some (.slice R.aA R.A.length R.cA) ∧ W.cell? ⟨w.heap.size, 4, none⟩ = some (.int .i64 R.on) ∧ W.cell? ⟨w.heap.size, 5, none⟩ = some (.int .i64 (R.n : Int)) ∧ W.cell? ⟨w.heap.size + 1, 0, none⟩ = some (.int .i64 (j : Int)) ∧ W.cell? ⟨w.heap.size + 1, 1, none⟩ = some (.int .i64 (g : Int)) ∧ W.cell? ⟨w.heap.size + 1, 2, none⟩ = some (.bool o) :=
  ⟨(blk_cell h.b 0).trans rfl, (blk_cell h.b 1).trans rfl, (blk_cell h.b 2).trans rfl, (blk_cell h.b 3).trans rfl, (blk_cell h.b 4).trans rfl, (blk_cell h.b 5).trans rfl, (blk_cell h.x 0).trans rfl, (blk_cell h.x 1).trans rfl, (blk_cell h.x 2).trans rfl⟩
theorem fw_start (R : Rw) (j g : Nat) (o : Bool) (w : World) : FW R j g o w ((w.alloc (bxR R)).alloc (bxX j g o)) := by
  have h0 := blk_alloc (blk_new w (bxR R)) (bxX j g o)
  have h1 := blk_new (w.alloc (bxR R)) (bxX j g o)
  rw [show (w.alloc (bxR R)).heap.size = w.heap.size + 1 by simp] at h1
  exact ⟨h0, h1, Below.alloc (Below.alloc (Below.refl _ _) (Nat.le_refl _) _) (by simp) _⟩
theorem drewN_below {w w2 : World} {m : Nat} (h : Below (w.drewN m).heap.size (w.drewN m) w2) : Below w.heap.size w w2 := ⟨h.os, h.tape, h.output, h.size, h.block⟩
/-- the choices behind the first one -/
theorem tail_row (x : S50) (l : List S50) (ad : Addr) (c : Nat) (w : World) (hL : Kd.C k50 w (some ad) (x :: l).length (x :: l)) (hc : (x :: l).length ≤ c) : ∃ (A2 : Option Addr) (c2 : Nat), (∀ W : World, (Instr.slice 27 (.slice (some ad) (x :: l).length c) (some (.int .i64 1)) none none).run Try.prog W = .ok (.slice A2 l.length c2) W) ∧ Kd.C k50 w A2 l.length l ∧ l.length ≤ c2 := by
  obtain ⟨i0, hi0, _, hsz, _⟩ := info_parts info50
  have hcut := cut_from (P := Try.prog) 27 50 .i64 Try.underlying27 hi0 3 hsz (some ad) (x :: l).length c 1 (by decide) (by rw [List.length_cons]; omega)
  have hr := Kd.C_drop (m := 1) (c := c) hL (by rw [List.length_cons]; omega) hc
  exact ⟨_, _, hcut, hr, by rw [List.length_cons] at hc; show l.length ≤ c - 1; omega⟩
theorem below_of {f : FuncId} {args : Array Value} {w : World} {v : Value} (h : Calls Try.prog f args w fun e w' => e = .returned v ∧ Drawn0 w w') : Calls Try.prog f args w fun e w' => e = .returned v ∧ Below w.heap.size w w' := h.mono fun _ _ ⟨h1, h2⟩ => ⟨h1, h2.below⟩
/-- the rows' cells of one patch, too -/
structure FJ (R : Rw) (j g : Nat) (o : Bool) (w : World) (adE adT adQ : Addr) (q ix : Nat) (e t a : Int) (iq : Nat) (W : World) : Prop where
  fw : FW R j g o w W
  ce : W.cell? (adE.add q) = some (.int .i64 e)
  ct : W.cell? (adT.add ix) = some (.int .i64 t)
  ca : W.cell? (adQ.add iq) = some (.int .i64 a)
theorem FJ.next {R : Rw} {j g : Nat} {o : Bool} {w : World} {adE adT adQ : Addr} {q ix iq : Nat} {e t a : Int} {W W' : World} (h : FJ R j g o w adE adT adQ q ix e t a iq W) (hb : Below W.heap.size W W') : FJ R j g o w adE adT adQ q ix e t a iq W' := ⟨h.fw.next hb, cell_later' hb h.ce, cell_later' hb h.ct, cell_later' hb h.ca⟩
theorem FJ.drew {R : Rw} {j g : Nat} {o : Bool} {w : World} {adE adT adQ : Addr} {q ix iq : Nat} {e t a : Int} {W : World} (h : FJ R j g o w adE adT adQ q ix e t a iq W) : FJ R j g o w adE adT adQ q ix e t a iq W.drew := h.next (pw_below_drewN (Below.refl _ _) 1)
/-- everything that a region may load -/
theorem FJ.all {R : Rw} {j g : Nat} {o : Bool} {w : World} {adE adT adQ : Addr} {q ix iq : Nat} {e t a : Int} {W : World} (h : Aside0 (FJ R j g o w adE adT adQ q ix e t a iq W)) : W.cell? ⟨w.heap.size, 0, none⟩ = some (.slice R.aE R.E.length R.cE) ∧ W.cell? ⟨w.heap.size, 1, none⟩ = some (.slice R.aT R.T.length R.cT) ∧ W.cell? ⟨w.heap.size, 2, none⟩ = some (.slice R.aG R.G.length R.cG) ∧ W.cell? ⟨w.heap.size, 3, none⟩ = some (.slice R.aA R.A.length R.cA) ∧ W.cell? ⟨w.heap.size, 4, none⟩ = some (.int .i64 R.on) ∧ W.cell? ⟨w.heap.size, 5, none⟩ = some (.int .i64 (R.n : Int)) ∧ W.cell? ⟨w.heap.size + 1, 0, none⟩ = some (.int .i64 (j : Int)) ∧ W.cell? ⟨w.heap.size + 1, 1, none⟩ = some (.int .i64 (g : Int)) ∧ W.cell? ⟨w.heap.size + 1, 2, none⟩ = some (.bool o) ∧ W.cell? (adE.add q) = some (.int .i64 e) ∧ W.cell? (adT.add ix) = some (.int .i64 t) ∧ W.cell? (adQ.add iq) = some (.int .i64 a) ∧ Aside0 (FJ R j g o w adE adT adQ q ix e t a iq W) := by
  obtain ⟨k0, k1, k2, k3, k4, k5, k6, k7, k8⟩ := h.out.fw.cells
  exact ⟨k0, k1, k2, k3, k4, k5, k6, k7, k8, h.out.ce, h.out.ct, h.out.ca, h⟩
set_option maxHeartbeats 16000000 in
set_option maxRecDepth 100000 in
theorem rf_in (R : Rw) (W0 : World) (ok : RwOk R W0) (l : List S50) (A : Option Addr) (c i : Nat) (wt : Int) (j g : Nat) (o : Bool) (hj : j ≤ R.n) (hg : g ≤ R.n) (w : World) (hb : Below W0.heap.size W0 w) (hi : i < R.n) (hl : l.length ≤ 1000) (hL : Kd.C k50 w A ((⟨(j : Int), (g : Int), o⟩ : S50) :: l).length (⟨(j : Int), (g : Int), o⟩ :: l)) (hc : ((⟨(j : Int), (g : Int), o⟩ : S50) :: l).length ≤ c) (r : Int × Int) (hr : rF R i wt (⟨(j : Int), (g : Int), o⟩ :: l) = r)
    (IH : ∀ (A : Option Addr) (c i : Nat) (wt : Int) (W : World), Below W0.heap.size W0 W → i < R.n → Kd.C k50 W A l.length l → l.length ≤ c → Calls Try.prog 11 #[.agg #[.slice R.aE R.E.length R.cE, .slice R.aT R.T.length R.cT, .slice R.aG R.G.length R.cG, .slice R.aA R.A.length R.cA, .int .i64 R.on, .int .i64 (R.n : Int)], .int .i64 (i : Int), .int .i64 wt, .slice A l.length c] W fun e w' => e = .returned (.tuple #[.int .i64 (rF R i wt l).1, .int .i64 (rF R i wt l).2]) ∧ Below W.heap.size W w') :
    Calls Try.prog 11 #[.agg #[.slice R.aE R.E.length R.cE, .slice R.aT R.T.length R.cT, .slice R.aG R.G.length R.cG, .slice R.aA R.A.length R.cA, .int .i64 R.on, .int .i64 (R.n : Int)], .int .i64 (i : Int), .int .i64 wt, .slice A ((⟨(j : Int), (g : Int), o⟩ : S50) :: l).length c] w fun e w' => e = .returned (.tuple #[.int .i64 r.1, .int .i64 r.2]) ∧ Below w.heap.size w w' := by
  obtain ⟨ad, rfl, t0, t1, t2⟩ := at_T50 hL 0 (by decide) (by rw [List.length_cons]; omega)
  have hx0 : rd_T50 ((⟨(j : Int), (g : Int), o⟩ : S50) :: l) 0 = ⟨(j : Int), (g : Int), o⟩ := rfl
  rw [hx0, show (0 : Int).toNat * 3 = 0 from rfl, Addr.add_zero'] at t0 t1 t2
  have t0' := cell_later' (Below.alloc (Below.refl _ _) (Nat.le_refl _) (bxR R)) t0
  have t1' := cell_later' (Below.alloc (Below.refl _ _) (Nat.le_refl _) (bxR R)) t1
  have t2' := cell_later' (Below.alloc (Below.refl _ _) (Nat.le_refl _) (bxR R)) t2
  unfold bxR at t0' t1' t2'
  have hn1' := ok.n1
  obtain ⟨adE, eE, -⟩ := Kd.at_int ok.hE 0 (by decide) (by rw [ok.lE]; omega)
  obtain ⟨adT, eT, -⟩ := Kd.at_int ok.hT 0 (by decide) (by rw [ok.lT]; have := Nat.mul_pos hn1' hn1'; omega)
  obtain ⟨adG, eG, -⟩ := Kd.at_int ok.hG 0 (by decide) (by rw [ok.lG]; have := Nat.mul_pos hn1' hn1'; omega)
  obtain ⟨adA, eA, -⟩ := Kd.at_int ok.hA 0 (by decide) (by rw [ok.lA]; omega)
  have AE := Aside0.mk eE
  have AT := Aside0.mk eT
  have AG := Aside0.mk eG
  have AA := Aside0.mk eA
  rw [eE, eT, eG, eA]
  rw [eE, eT, eG, eA] at t0' t1' t2'
  clear eE eT eG eA hn1'
  have hln : ((⟨(j : Int), (g : Int), o⟩ : S50) :: l).length = l.length + 1 := rfl
  have hn0 : (((⟨(j : Int), (g : Int), o⟩ : S50) :: l).length == 0) = false := rfl
  have hn1 : (0 : Int) < (((⟨(j : Int), (g : Int), o⟩ : S50) :: l).length : Int) := by rw [List.length_cons]; omega
  obtain ⟨A2, c2, htl, hlt, hc2⟩ := tail_row _ l ad c w hL hc
  have HTl := Aside0.mk htl
  have HLt := Aside0.mk hlt
  have HIH := Aside0.mk IH
  clear IH
  have HFs := Aside0.mk (fw_start R j g o w)
  have HL := Aside0.mk hL
  have HLn := Aside0.mk hln
  have HC := Aside0.mk hc
  have OK := Aside0.mk ok
  have HB := Aside0.mk hb
  have HR := Aside0.mk hr
  have y1 : decide ((j : Int) < 0) = false := decide_eq_false (by omega)
  have y2 : decide (R.n < j) = false := decide_eq_false (by omega)
  have y3 : decide ((g : Int) < 0) = false := decide_eq_false (by omega)
  have y4 : decide (R.n < g) = false := decide_eq_false (by omega)
  have Hl := Aside0.mk hl
  clear hx0 hL hln hc ok hb hr hl htl hlt
  generalize ((⟨(j : Int), (g : Int), o⟩ : S50) :: l).length = len at *
  go_enter Try.func11, Try.ntmps11
  go_upto_if 55 with (fail)
  obtain ⟨ws, hws⟩ : ∃ W, W = (w.alloc (bxR R)).alloc (bxX j g o) := ⟨_, rfl⟩
  have HFs2 : Aside0 (FW R j g o w ws) := ⟨by rw [hws]; exact HFs.out⟩
  unfold bxR bxX at hws
  rw [AE.out, AT.out, AG.out, AA.out] at hws
  rw [← hws]
  clear HFs
  have HFs := HFs2
  clear HFs2
  clear hws t0' t1' t2' t0 t1 t2
  obtain ⟨k0, k1, k2, k3, k4, k5, k6, k7, k8⟩ := HFs.out.cells
  rw [AE.out] at k0
  rw [AT.out] at k1
  rw [AG.out] at k2
  rw [AA.out] at k3
  go_cut [12, 13] (fun v12 v13 wc => v12 = .int .i64 (rVal R i wt j) ∧ v13 = .int .i64 (rCh R j) ∧ Aside0 (FW R j g o w wc))
  case first =>
    by_cases cj : j = R.n
    · have z1 : ((j : Int) == (R.n : Int)) = true := by rw [cj]; exact beq_self_eq_true _
      have HLf := Aside0.mk (by have h := left_any R.aA R.cA R.A (by rw [OK.out.lA]; have := OK.out.n12; omega) ws (Kd.C_below OK.out.hA (below_then HB.out HB.out.size HFs.out.bel)) OK.out.cA; rw [AA.out] at h; exact h)
      have E1 := Aside0.mk (show rVal R i wt j = 0 from if_pos cj)
      have E2 := Aside0.mk (show rCh R j = lft R.A from if_pos cj)
      clear cj
      go_wp2_with (go_at_call 24; refine HLf.out.mono ?_; rintro x w1 ⟨rfl, m1, rfl⟩)
      go_meet
      case rel => exact ⟨by rw [E1.out], by rw [E2.out], ⟨HFs.out.drawn m1⟩⟩
    · have hjn : j < R.n := by omega
      have ok := OK.out
      have hbs : Below W0.heap.size W0 ws := below_then HB.out HB.out.size HFs.out.bel
      obtain ⟨adA', eA, hxA⟩ := Kd.at_int (Kd.C_below ok.hA hbs) (j : Int) (by omega) (by rw [ok.lA]; omega)
      obtain ⟨adE', eE, hxE⟩ := Kd.at_int (Kd.C_below ok.hE hbs) (j : Int) (by omega) (by rw [ok.lE]; omega)
      obtain ⟨adT', eT, hxT⟩ := Kd.at_int (Kd.C_below ok.hT hbs) ((i * R.n + j : Nat) : Int) (by omega) (by have := ix_lt hi hjn; rw [ok.lT]; omega)
      rw [AA.out] at eA
      cases eA
      rw [AE.out] at eE
      cases eE
      rw [AT.out] at eT
      cases eT
      rw [rd_eq, Int.toNat_natCast] at hxA hxE hxT
      obtain ⟨x1, x2⟩ := ix_wrap ok.n12 hi hjn
      have y5 : IntKind.i64.wrap ((i : Int) * (R.n : Int)) = ((i * R.n : Nat) : Int) := (i64_w _).trans x1
      have y6 : IntKind.i64.wrap (((i * R.n : Nat) : Int) + (j : Int)) = ((i * R.n + j : Nat) : Int) := (i64_w _).trans x2
      have z0 : (0 : Int) ≤ (j : Int) := by omega
      have z1 : (j : Int) < (R.A.length : Int) := by rw [ok.lA]; omega
      have z2 : (j : Int) < (R.E.length : Int) := by rw [ok.lE]; omega
      have z3 : (0 : Int) ≤ ((i * R.n + j : Nat) : Int) := by omega
      have z4 : ((i * R.n + j : Nat) : Int) < (R.T.length : Int) := by have := ix_lt hi hjn; rw [ok.lT]; omega
      have z6 : ((j : Int) == (R.n : Int)) = false := by rw [beq_eq_false_iff_ne]; omega
      have E1 := Aside0.mk (show rVal R i wt j = of (of (of (wt * R.T.getD (i * R.n + j) 0) * of (R.E.getD j 0 * (wts R.G R.A R.n i j).1)) * inv0 (R.A.getD j 0)) from if_neg cj)
      have E2 := Aside0.mk (show rCh R j = of (R.A.getD j 0) from if_neg cj)
      have HJ := Aside0.mk (FJ.mk HFs.out hxE hxT hxA)
      have HW := Aside0.mk (fun W hW => by have h := rweights_any R W0 ok i j hi hjn W hW; rw [AG.out, AA.out] at h; exact h)
      have HBW := Aside0.mk (fun W (hW : Below w.heap.size w W) => below_then HB.out HB.out.size hW)
      generalize R.A.getD j 0 = a at *
      generalize R.E.getD j 0 = b at *
      generalize R.T.getD (i * R.n + j) 0 = c0 at *
      generalize (wts R.G R.A R.n i j).1 = d at *
      generalize (wts R.G R.A R.n i j).2 = d2 at *
      have HO := Aside0.mk (fun W => below_of (rof_any a W))
      have HM1 := Aside0.mk (fun W => rmul_any wt c0 W)
      have HM2 := Aside0.mk (fun W => rmul_any b d W)
      generalize of (wt * c0) = p1 at *
      generalize of (b * d) = p2 at *
      have HM3 := Aside0.mk (fun W => rmul_any p1 p2 W)
      generalize of (p1 * p2) = p3 at *
      have HI := Aside0.mk (fun W => rinv_any a W)
      generalize inv0 a = p4 at *
      have HM5 := Aside0.mk (fun W => rmul_any p3 p4 W)
      generalize of (p3 * p4) = p5 at *
      generalize of a = oa at *
      generalize i * R.n + j = ix at *
      generalize i * R.n = im at *
      clear ok hbs hxE hxT x1 x2 hjn cj
      go_wp2_with (first
        | (go_at_call 23; with_reducible refine (HO.out _).mono ?_; rintro x w1 ⟨rfl, hb1⟩; have HJ1 := Aside0.mk (HJ.out.next hb1); have f1 := FJ.all HJ1; rw [AE.out, AT.out, AG.out, AA.out] at f1; clear hb1)
        | (go_at_call 19; with_reducible refine (HW.out w1 (HBW.out w1 HJ1.out.fw.bel)).mono ?_; rintro x w2 ⟨rfl, hb2⟩; have HJ2 := Aside0.mk (HJ1.out.next hb2); clear hb2))
      have HJd := Aside0.mk HJ2.out.drew
      clear k0 k1 k2 k3 k4 k5 k6 k7 k8 hxA f1
      have hdw := HJd.out
      obtain ⟨k0, k1, k2, k3, k4, k5, k6, k7, k8⟩ := hdw.fw.cells
      have k9 := hdw.ce
      have k10 := hdw.ct
      rw [AE.out] at k0
      rw [AT.out] at k1
      have HK := Aside0.mk (And.intro k0 (And.intro k1 (And.intro k9 k10)))
      have q3 := HJ2.out.fw.cells.2.2.2.1
      rw [AA.out] at q3
      have qa := HJ2.out.ca
      clear hdw k2 k3 k4 k5 k6 k7 k8
      go_region_held3 (fun w' => w'.cell? ⟨w.heap.size, 0, none⟩ = some (.slice (some adE) R.E.length R.cE) ∧ w'.cell? ⟨w.heap.size, 1, none⟩ = some (.slice (some adT) R.T.length R.cT) ∧ w'.cell? (adE.add j) = some (.int .i64 b) ∧ w'.cell? (adT.add ix) = some (.int .i64 c0)) (exact HK.out)
        (first
          | (go_at_call 16; with_reducible refine (HM1.out _).mono ?_; rintro x w5 ⟨rfl, m5, rfl⟩)
          | (go_at_call 16; with_reducible refine (HM2.out _).mono ?_; rintro x w6 ⟨rfl, m6, rfl⟩)
          | (go_at_call 16; with_reducible refine (HM3.out _).mono ?_; rintro x w7 ⟨rfl, m7, rfl⟩))
      clear k0 k1 k9 k10
      go_wp2_with (first
        | (go_at_call 25; with_reducible refine (HI.out _).mono ?_; rintro x w8 ⟨rfl, m8, rfl⟩)
        | (go_at_call 16; with_reducible refine (HM5.out _).mono ?_; rintro x w9 ⟨rfl, m9, rfl⟩))
      go_meet
      case rel => exact ⟨by rw [E1.out], by rw [E2.out], ⟨HJ2.out.fw.drawn _⟩⟩
  case rest =>
    obtain ⟨rfl, rfl, HF⟩ := hcut
    clear k0 k1 k2 k3 k4 k5 k6 k7 k8
    obtain ⟨k0, k1, k2, k3, k4, k5, k6, k7, k8⟩ := HF.out.cells
    rw [AE.out] at k0
    rw [AT.out] at k1
    rw [AG.out] at k2
    rw [AA.out] at k3
    have hij : inn R.n (j : Int) = true := decide_eq_true ⟨by omega, by omega⟩
    have hig : inn R.n (g : Int) = true := decide_eq_true ⟨by omega, by omega⟩
    have hr := HR.out
    rw [rF, if_pos ⟨hij, hig⟩] at hr
    simp only [Int.toNat_natCast] at hr
    by_cases cg : g = R.n
    · rw [if_pos cg] at hr
      have z1 : ((g : Int) == (R.n : Int)) = true := by rw [cg]; exact beq_self_eq_true _
      cases o with
      | true =>
        rw [if_pos rfl] at hr
        have HR2 := Aside0.mk hr
        clear hr cg hij hig
        generalize rVal R i wt j = value at *
        generalize rCh R j = ch at *
        go_wp2
        go_ret2
        rw [← HR2.out]
        exact ⟨rfl, HF.out.bel⟩
      | false =>
        rw [if_neg (by decide)] at hr
        have HR2 := Aside0.mk hr
        obtain ⟨A', c', hcG, hrow, hcr⟩ := mid_row R W0 OK.out i hi
        rw [AG.out] at hcG
        have n12 := OK.out.n12
        obtain ⟨x1, -⟩ := ix_wrap (j := 0) n12 hi (by omega)
        obtain ⟨hs1, -⟩ := ix_small (j := 0) n12 hi (by omega)
        have y5 : IntKind.i64.wrap ((i : Int) * (R.n : Int)) = ((i * R.n : Nat) : Int) := (i64_w _).trans x1
        have y6 : IntKind.i64.wrap (((i * R.n : Nat) : Int) + (R.n : Int)) = ((i * R.n + R.n : Nat) : Int) := (i64_w _).trans (by rw [wrap_id (by omega) (by omega)]; omega)
        have hlr : (rowG R i).length ≤ 1000000 := by
          unfold rowG
          rw [List.length_drop, List.length_take, OK.out.lG]
          have := Nat.mul_le_mul n12 n12
          omega
        have HLf := Aside0.mk (fun W (hW : Below w.heap.size w W) => left_any A' c' (rowG R i) hlr W (hrow W (below_then HB.out HB.out.size hW)) hcr)
        have HOv := Aside0.mk (fun W (hW : Below w.heap.size w W) => rover_any R.n A2 c2 l (by have := Hl.out; omega) W (Kd.C_below HLt.out hW) hc2)
        have htl := HTl.out
        clear hr cg hij hig x1 hs1 hrow hcr n12 hlr hc2
        generalize rVal R i wt j = value at *
        generalize rCh R j = ch at *
        generalize lft (rowG R i) = lf at *
        generalize (rowG R i).length = ln at *
        generalize all1 R.n l = al at *
        generalize l.length = ll at *
        have HM1 := Aside0.mk (fun W => rmul_any ch lf W)
        generalize of (ch * lf) = p1 at *
        have HM2 := Aside0.mk (fun W => rmul_any p1 al W)
        generalize of (p1 * al) = p2 at *
        generalize i * R.n + R.n = ie at *
        generalize i * R.n = im at *
        have HK := Aside0.mk k2
        have HBd := Aside0.mk HF.out.bel
        clear k0 k1 k3
        go_wp2
        go_region_held3 (fun w' => w'.cell? ⟨w.heap.size, 2, none⟩ = some (.slice (some adG) R.G.length R.cG)) (exact HK.out)
          (first
            | (go_at_call 24; with_reducible refine (HLf.out _ ?hW).mono ?_; (case hW => first | exact below_drew1 HBd.out | exact pw_below_drewN' HBd.out _ | exact HBd.out); rintro x w5 ⟨rfl, m5, rfl⟩)
            | (go_at_call 26; with_reducible refine (HOv.out _ ?hW).mono ?_; (case hW => first | exact below_drew1 HBd.out | exact pw_below_drewN' HBd.out _ | exact HBd.out); rintro x w6 ⟨rfl, m6, rfl⟩)
            | (go_at_call 16; with_reducible refine (HM1.out _).mono ?_; rintro x w7 ⟨rfl, m7, rfl⟩)
            | (go_at_call 16; with_reducible refine (HM2.out _).mono ?_; rintro x w8 ⟨rfl, m8, rfl⟩))
        all_goals
          go_wp2
          go_ret2
          rw [← HR2.out]
          exact ⟨rfl, pw_below_drewN' HBd.out _⟩
    · rw [if_neg cg] at hr
      have hgn : g < R.n := by omega
      have ok := OK.out
      have hbs : Below W0.heap.size W0 wc := below_then HB.out HB.out.size HF.out.bel
      obtain ⟨adG', eG, hxG⟩ := Kd.at_int (Kd.C_below ok.hG hbs) ((i * R.n + g : Nat) : Int) (by omega) (by have := ix_lt hi hgn; rw [ok.lG]; omega)
      obtain ⟨adE', eE, hxE⟩ := Kd.at_int (Kd.C_below ok.hE hbs) (g : Int) (by omega) (by rw [ok.lE]; omega)
      obtain ⟨adT', eT, hxT⟩ := Kd.at_int (Kd.C_below ok.hT hbs) ((i * R.n + g : Nat) : Int) (by omega) (by have := ix_lt hi hgn; rw [ok.lT]; omega)
      rw [AG.out] at eG
      cases eG
      rw [AE.out] at eE
      cases eE
      rw [AT.out] at eT
      cases eT
      rw [rd_eq, Int.toNat_natCast] at hxG hxE hxT
      obtain ⟨x1, x2⟩ := ix_wrap ok.n12 hi hgn
      have y5 : IntKind.i64.wrap ((i : Int) * (R.n : Int)) = ((i * R.n : Nat) : Int) := (i64_w _).trans x1
      have y6 : IntKind.i64.wrap (((i * R.n : Nat) : Int) + (g : Int)) = ((i * R.n + g : Nat) : Int) := (i64_w _).trans x2
      have z0 : (0 : Int) ≤ (g : Int) := by omega
      have z1 : (g : Int) < (R.E.length : Int) := by rw [ok.lE]; omega
      have z3 : (0 : Int) ≤ ((i * R.n + g : Nat) : Int) := by omega
      have z4 : ((i * R.n + g : Nat) : Int) < (R.T.length : Int) := by have := ix_lt hi hgn; rw [ok.lT]; omega
      have z5 : ((i * R.n + g : Nat) : Int) < (R.G.length : Int) := by have := ix_lt hi hgn; rw [ok.lG]; omega
      have z6 : ((g : Int) == (R.n : Int)) = false := by rw [beq_eq_false_iff_ne]; omega
      have HJ := Aside0.mk (FJ.mk HF.out hxE hxT hxG)
      have HW := Aside0.mk (fun W (hW : Below w.heap.size w W) => by have h := rweights_any R W0 ok i g hi hgn W (below_then HB.out HB.out.size hW); rw [AG.out, AA.out] at h; exact h)
      by_cases cz : of (R.G.getD (i * R.n + g) 0) = 0
      · rw [if_pos cz] at hr
        have HR2 := Aside0.mk hr
        generalize R.G.getD (i * R.n + g) 0 = a at *
        generalize rVal R i wt j = value at *
        generalize rCh R j = ch at *
        have HO := Aside0.mk (fun W => rof_any a W)
        have cz' : (of a == 0) = true := by rw [cz]; rfl
        generalize of a = oa at *
        generalize i * R.n + g = ix at *
        generalize i * R.n = im at *
        clear hr cg hij hig x1 x2 hxE hxT ok hbs hgn cz
        go_wp2_with (go_at_call 23; with_reducible refine (HO.out _).mono ?_; rintro x w1 ⟨rfl, m1, rfl⟩)
        go_ret2
        rw [← HR2.out]
        exact ⟨rfl, pw_below_drewN' HF.out.bel _⟩
      · rw [if_neg cz] at hr
        unfold rV rW at hr
        have HR2 := Aside0.mk hr
        have HOv := Aside0.mk (fun W (hW : Below w.heap.size w W) => rover_any R.n A2 c2 l (by have := Hl.out; omega) W (Kd.C_below HLt.out hW) hc2)
        have HFo := Aside0.mk (fun (wt2 : Int) W (hW : Below w.heap.size w W) => by have h := HIH.out A2 c2 g wt2 W (below_then HB.out HB.out.size hW) hgn (Kd.C_below HLt.out hW) hc2; rw [AE.out, AT.out, AG.out, AA.out] at h; exact h)
        have htl := HTl.out
        clear hr cg hij hig x1 x2 hxE hxT hxG ok hbs hgn HIH hc2
        generalize R.G.getD (i * R.n + g) 0 = a at *
        generalize R.T.getD (i * R.n + g) 0 = c0 at *
        generalize R.E.getD g 0 = e at *
        generalize (wts R.G R.A R.n i g).1 = d1 at *
        generalize (wts R.G R.A R.n i g).2 = d2 at *
        generalize rVal R i wt j = value at *
        generalize rCh R j = ch at *
        generalize all1 R.n l = al at *
        have HO := Aside0.mk (fun W => rof_any a W)
        have cz' : (of a == 0) = false := beq_eq_false_iff_ne.mpr cz
        clear cz
        generalize of a = oa at *
        have M1 := Aside0.mk (fun W => rmul_any wt c0 W)
        generalize of (wt * c0) = p1 at *
        have I1 := Aside0.mk (fun W => rinv_any a W)
        generalize inv0 a = p2 at *
        have M3 := Aside0.mk (fun W => rmul_any p1 p2 W)
        generalize of (p1 * p2) = p3 at *
        have M4 := Aside0.mk (fun W => rmul_any e d2 W)
        generalize of (e * d2) = p4 at *
        have M5 := Aside0.mk (fun W => rmul_any p3 p4 W)
        generalize of (p3 * p4) = p5 at *
        have M6 := Aside0.mk (fun W => radd_any value p5 W)
        generalize of (value + p5) = p6 at *
        have M7 := Aside0.mk (fun W => rmul_any ch a W)
        generalize of (ch * a) = p7 at *
        generalize i * R.n + g = ix at *
        generalize i * R.n = im at *
        clear k0 k1 k2 k3 k4 k5 k6 k7 k8
        have f0 := FJ.all HJ
        rw [AE.out, AT.out, AG.out, AA.out] at f0
        cases o with
        | false =>
          rw [if_neg (by decide)] at HR2
          have M8 := Aside0.mk (fun W => rsub_any 1 R.on W)
          generalize of (1 - R.on) = p8 at *
          have M9 := Aside0.mk (fun W => rmul_any p7 p8 W)
          generalize of (p7 * p8) = p9 at *
          have M10 := Aside0.mk (fun W => rmul_any p9 al W)
          generalize of (p9 * al) = p10 at *
          clear HFo
          generalize l.length = ll at *
          go_wp2_with (first
            | (go_at_call 23; with_reducible refine (HO.out _).mono ?_; rintro x w1 ⟨rfl, m1, rfl⟩)
            | (go_at_call 19; with_reducible refine (HW.out (wc.drewN m1) (pw_below_drewN' HF.out.bel m1)).mono ?_; rintro x w2 ⟨rfl, hb2⟩; have HJ2 := Aside0.mk (HJ.out.next (drewN_below hb2)); have f2 := FJ.all HJ2; rw [AE.out, AT.out, AG.out, AA.out] at f2; clear hb2 f0)
            | (go_at_call 25; with_reducible refine (I1.out _).mono ?_; rintro x w4 ⟨rfl, m4, rfl⟩)
            | (go_at_call 16; with_reducible refine (M1.out _).mono ?_; rintro x w3 ⟨rfl, m3, rfl⟩)
            | (go_at_call 16; with_reducible refine (M3.out _).mono ?_; rintro x w5 ⟨rfl, m5, rfl⟩)
            | (go_at_call 16; with_reducible refine (M4.out _).mono ?_; rintro x w6 ⟨rfl, m6, rfl⟩)
            | (go_at_call 16; with_reducible refine (M5.out _).mono ?_; rintro x w7 ⟨rfl, m7, rfl⟩)
            | (go_at_call 12; with_reducible refine (M6.out _).mono ?_; rintro x w8 ⟨rfl, m8, rfl⟩)
            | (go_at_call 16; with_reducible refine (M7.out _).mono ?_; rintro x w9 ⟨rfl, m9, rfl⟩))
          have HK := Aside0.mk f2.2.2.2.2.1
          have HBd := Aside0.mk HJ2.out.fw.bel
          have k4 := f2.2.2.2.2.1
          clear f2
          go_region_held3 (fun w' => w'.cell? ⟨w.heap.size, 4, none⟩ = some (.int .i64 R.on)) (exact HK.out)
            (first
              | (go_at_call 27; with_reducible refine (M8.out _).mono ?_; rintro x w10 ⟨rfl, m10, rfl⟩)
              | (go_at_call 16; with_reducible refine (M9.out _).mono ?_; rintro x w11 ⟨rfl, m11, rfl⟩)
              | (go_at_call 26; with_reducible refine (HOv.out _ ?hW).mono ?_; (case hW => exact pw_below_drewN' HBd.out _); rintro x w12 ⟨rfl, m12, rfl⟩)
              | (go_at_call 16; with_reducible refine (M10.out _).mono ?_; rintro x w13 ⟨rfl, m13, rfl⟩))
          all_goals
            go_wp2
            go_ret2
            rw [← HR2.out]
            exact ⟨rfl, pw_below_drewN' HBd.out _⟩
        | true =>
          rw [if_pos rfl] at HR2
          have I8 := Aside0.mk (fun W => rinv_any R.on W)
          generalize inv0 R.on = q1 at *
          have M9 := Aside0.mk (fun W => rmul_any p3 q1 W)
          generalize of (p3 * q1) = q2 at *
          have HFo2 := Aside0.mk (HFo.out q2)
          clear HFo HOv
          generalize rF R g q2 l = rec at *
          obtain ⟨v2, ch2⟩ := rec
          have A10 := Aside0.mk (fun W => radd_any p6 v2 W)
          have M11 := Aside0.mk (fun W => rmul_any p7 R.on W)
          simp only at HR2
          generalize of (p6 + v2) = q3 at *
          generalize of (p7 * R.on) = q4 at *
          have M12 := Aside0.mk (fun W => rmul_any q4 ch2 W)
          generalize of (q4 * ch2) = q5 at *
          generalize l.length = ll at *
          go_wp2_with (first
            | (go_at_call 23; with_reducible refine (HO.out _).mono ?_; rintro x w1 ⟨rfl, m1, rfl⟩)
            | (go_at_call 19; with_reducible refine (HW.out (wc.drewN m1) (pw_below_drewN' HF.out.bel m1)).mono ?_; rintro x w2 ⟨rfl, hb2⟩; have HJ2 := Aside0.mk (HJ.out.next (drewN_below hb2)); have f2 := FJ.all HJ2; rw [AE.out, AT.out, AG.out, AA.out] at f2; clear hb2 f0)
            | (go_at_call 25; with_reducible refine (I1.out _).mono ?_; rintro x w4 ⟨rfl, m4, rfl⟩)
            | (go_at_call 16; with_reducible refine (M1.out _).mono ?_; rintro x w3 ⟨rfl, m3, rfl⟩)
            | (go_at_call 16; with_reducible refine (M3.out _).mono ?_; rintro x w5 ⟨rfl, m5, rfl⟩)
            | (go_at_call 16; with_reducible refine (M4.out _).mono ?_; rintro x w6 ⟨rfl, m6, rfl⟩)
            | (go_at_call 16; with_reducible refine (M5.out _).mono ?_; rintro x w7 ⟨rfl, m7, rfl⟩)
            | (go_at_call 12; with_reducible refine (M6.out _).mono ?_; rintro x w8 ⟨rfl, m8, rfl⟩)
            | (go_at_call 16; with_reducible refine (M7.out _).mono ?_; rintro x w9 ⟨rfl, m9, rfl⟩))
          have HK := Aside0.mk (And.intro f2.1 (And.intro f2.2.1 (And.intro f2.2.2.1 (And.intro f2.2.2.2.1 (And.intro f2.2.2.2.2.1 (And.intro f2.2.2.2.2.2.1 f2.2.2.2.2.2.2.2.1))))))
          have HBd := Aside0.mk HJ2.out.fw.bel
          obtain ⟨k0, k1, k2, k3, k4, k5, k6⟩ := HK.out
          clear f2
          go_region_held3 (fun w' => w'.cell? ⟨w.heap.size, 0, none⟩ = some (.slice (some adE) R.E.length R.cE) ∧ w'.cell? ⟨w.heap.size, 1, none⟩ = some (.slice (some adT) R.T.length R.cT) ∧ w'.cell? ⟨w.heap.size, 2, none⟩ = some (.slice (some adG) R.G.length R.cG) ∧ w'.cell? ⟨w.heap.size, 3, none⟩ = some (.slice (some adA) R.A.length R.cA) ∧ w'.cell? ⟨w.heap.size, 4, none⟩ = some (.int .i64 R.on) ∧ w'.cell? ⟨w.heap.size, 5, none⟩ = some (.int .i64 (R.n : Int)) ∧ w'.cell? ⟨w.heap.size + 1, 1, none⟩ = some (.int .i64 (g : Int))) (first | exact HK.out | exact HK4.out)
            (first
              | (go_at_call 25; with_reducible refine (I8.out _).mono ?_; rintro x w10 ⟨rfl, m10, rfl⟩)
              | (go_at_call 16; with_reducible refine (M9.out _).mono ?_; rintro x w11 ⟨rfl, m11, rfl⟩)
              | (go_at_call 11; with_reducible refine (HFo2.out _ ?hW).mono ?_; (case hW => exact pw_below_drewN' HBd.out _); rintro x w12 ⟨rfl, hb12⟩; have hb := drewN_below hb12; have HB4 := Aside0.mk (below_then HBd.out HBd.out.size hb); have HK4 := Aside0.mk (And.intro (cell_later' hb k0) (And.intro (cell_later' hb k1) (And.intro (cell_later' hb k2) (And.intro (cell_later' hb k3) (And.intro (cell_later' hb k4) (And.intro (cell_later' hb k5) (cell_later' hb k6))))))); clear hb hb12))
          all_goals
            have k4' := HK4.out.2.2.2.2.1
            have HK5 := Aside0.mk k4'
            clear k0 k1 k2 k3 k4 k5 k6
            go_wp2
            go_region_held3 (fun w' => w'.cell? ⟨w.heap.size, 4, none⟩ = some (.int .i64 R.on)) (exact HK5.out)
              (first
                | (go_at_call 12; with_reducible refine (A10.out _).mono ?_; rintro x w13 ⟨rfl, m13, rfl⟩)
                | (go_at_call 16; with_reducible refine (M11.out _).mono ?_; rintro x w14 ⟨rfl, m14, rfl⟩)
                | (go_at_call 16; with_reducible refine (M12.out _).mono ?_; rintro x w15 ⟨rfl, m15, rfl⟩))
            all_goals
              go_wp2
              go_ret2
              rw [← HR2.out]
              exact ⟨rfl, pw_below_drewN' HB4.out _⟩
end Go.Proofs.Ytgkgnihjjabapaa.Gv
