/- Rows turned about, rasters turned, and colour taken: the plain law. -/
import Derived.Test.YtmpbjmjphapnoaaXxL44PpmTurns
import Derived.Test.YtmpbjmjphapnoaaMf
namespace Go.Proofs.Ytmpbjmjphapnoaa.Pure
open Go.RowKit Go.Proofs.Ytmpbjmjphapnoaa.X Go.Proofs.YtmpbjmjphapnoaaW.PrintWords Go.Proofs.YtmpbjmjphapnoaaW.PrintLast Pe Gv
theorem tdiv_nat (a b : Nat) : Int.tdiv (a : Int) (b : Int) = ((a / b : Nat) : Int) := (Int.ofNat_tdiv a b).symm
theorem tmod_nat (a b : Nat) : Int.tmod (a : Int) (b : Int) = ((a % b : Nat) : Int) := (Int.ofNat_tmod a b).symm
theorem rd_nat (l : List Int) (k : Nat) : rd l ((k : Nat) : Int) = l.getD k 0 := by rw [rd, Int.toNat_natCast]
theorem wn (n : Nat) (h : n ≤ 1000000000) : wrap64 ((n : Nat) : Int) = ((n : Nat) : Int) := wrap_id (by omega) (by omega)
theorem wmul (a b : Nat) (h : a * b ≤ 1000000000) : wrap64 ((a : Int) * (b : Int)) = ((a * b : Nat) : Int) := by rw [← Int.natCast_mul, wn _ h]
theorem wadd (a b : Nat) (h : a + b ≤ 1000000000) : wrap64 ((a : Int) + (b : Int)) = ((a + b : Nat) : Int) := by rw [← Int.natCast_add, wn _ h]
theorem wsub (a b : Nat) (h : b ≤ a) (h2 : a ≤ 1000000000) : wrap64 ((a : Int) - (b : Int)) = ((a - b : Nat) : Int) := by rw [← Int.ofNat_sub h, wn _ (Nat.le_trans (Nat.sub_le _ _) h2)]
theorem wdiv (a b : Nat) (h : a ≤ 1000000000) : wrap64 (Int.tdiv (a : Int) (b : Int)) = ((a / b : Nat) : Int) := by rw [tdiv_nat, wn _ (Nat.le_trans (Nat.div_le_self _ _) h)]
theorem wdiv3 (a : Nat) (h : a ≤ 1000000000) : wrap64 (Int.tdiv (a : Int) 3) = ((a / 3 : Nat) : Int) := wdiv a 3 h
theorem wmod3 (a : Nat) : Int.tmod (a : Int) 3 = ((a % 3 : Nat) : Int) := tmod_nat a 3
theorem wmul3 (a : Nat) (h : 3 * a ≤ 1000000000) : wrap64 (3 * (a : Int)) = ((3 * a : Nat) : Int) := wmul 3 a h
theorem wadd1 (a : Nat) (h : a + 1 ≤ 1000000000) : wrap64 ((a : Int) + 1) = ((a + 1 : Nat) : Int) := wadd a 1 h
theorem wadd2 (a : Nat) (h : a + 2 ≤ 1000000000) : wrap64 ((a : Int) + 2) = ((a + 2 : Nat) : Int) := wadd a 2 h
theorem wsub1 (a : Nat) (h : 1 ≤ a) (h2 : a ≤ 1000000000) : wrap64 ((a : Int) - 1) = ((a - 1 : Nat) : Int) := wsub a 1 h h2
theorem flip_ix (p W : Nat) (hW : 1 ≤ W) (hW2 : W ≤ 8192) (hp : p ≤ 200) : wrap64 (wrap64 (wrap64 (wrap64 (wrap64 (Int.tdiv (p : Int) (W : Int)) * (W : Int)) + (W : Int)) - 1) - Int.tmod (p : Int) (W : Int)) = ((p / W * W + (W - 1 - p % W) : Nat) : Int) := by
  have h1 : p / W * W ≤ p := Nat.div_mul_le_self p W
  have h2 : p % W < W := Nat.mod_lt _ hW
  rw [wdiv p W (by omega), wmul _ _ (by omega), wadd _ _ (by omega), wsub1 _ (by omega) (by omega), tmod_nat, wsub _ _ (by omega) (by omega)]
  generalize p / W * W = q at *
  generalize p % W = r at *
  omega
theorem turn_ix (p W H : Nat) (hH : 1 ≤ H) (hH2 : H ≤ 8192) (hp : p ≤ 200) (hq : (H - 1 - p % H) * W ≤ 200) : wrap64 (wrap64 (wrap64 (wrap64 ((H : Int) - 1) - Int.tmod (p : Int) (H : Int)) * (W : Int)) + wrap64 (Int.tdiv (p : Int) (H : Int))) = (((H - 1 - p % H) * W + p / H : Nat) : Int) := by
  have h2 : p % H < H := Nat.mod_lt _ hH
  have h3 : p / H ≤ p := Nat.div_le_self _ _
  rw [wsub1 H hH (by omega), tmod_nat, wsub _ _ (by omega) (by omega), wmul _ _ (by omega), wdiv p H (by omega), wadd _ _ (by omega)]
theorem mean_ix (u0 u1 u2 v : Int) (h0 : 0 ≤ u0 ∧ u0 ≤ 255) (h1 : 0 ≤ u1 ∧ u1 ≤ 255) (h2 : 0 ≤ u2 ∧ u2 ≤ 255) (hv : v = (u0 + u1 + u2) / 3) : wrap64 v = wrap64 (Int.tdiv (wrap64 (wrap64 (wrap64 u0 + wrap64 u1) + wrap64 u2)) 3) := by
  rw [wrap_id (n := u0) (by omega) (by omega), wrap_id (n := u1) (by omega) (by omega), wrap_id (n := u2) (by omega) (by omega), wrap_id (n := u0 + u1) (by omega) (by omega), wrap_id (n := u0 + u1 + u2) (by omega) (by omega), Int.tdiv_eq_ediv_of_nonneg (by omega), hv]
theorem turns_go (W H : Nat) (b : List Int) (hW : 1 ≤ W) (hH : 1 ≤ H) (hW2 : W ≤ 8192) (hH2 : H ≤ 8192) (hb : b.length = 3 * (H * W)) (hl : b.length ≤ 600) (hr : ∀ k, 0 ≤ b.getD k 0 ∧ b.getD k 0 ≤ 255) (B0 B1 B2 : List Int) (L0 : B0.length = b.length) (L1 : B1.length = b.length) (L2 : B2.length = b.length)
    (E0 : ∀ k, k < b.length → B0.getD k 0 = b.getD (3 * (k / 3 / W * W + (W - 1 - k / 3 % W)) + k % 3) 0)
    (E1 : ∀ k, k < b.length → B1.getD k 0 = b.getD (3 * ((H - 1 - k / 3 % H) * W + k / 3 / H) + k % 3) 0)
    (E2 : ∀ k, k < b.length → B2.getD k 0 = (b.getD (3 * (k / 3)) 0 + b.getD (3 * (k / 3) + 1) 0 + b.getD (3 * (k / 3) + 2) 0) / 3) : ∀ (m i : Nat), i + m = b.length →
    Ev (fun k => penumbralaw44_PpmTurns.l0 k (W : Int) (H : Int) b B0 B1 B2 (i : Int)) true := by
  intro m
  induction m with
  | zero =>
    intro i hi
    exact Ev.step (fun k => by rw [penumbralaw44_PpmTurns.l0]) (ev_neg (by omega) (Ev.bind awake_ev (Ev.now _)))
  | succ m ih =>
    intro i hi
    have hi' : i < b.length := by omega
    have IH := ih (i + 1) (by omega)
    have e0 := Aside0.mk (E0 i hi')
    have e1 := Aside0.mk (E1 i hi')
    have e2 := Aside0.mk (E2 i hi')
    have hb' := Aside0.mk hb
    clear E0 E1 E2 ih
    obtain ⟨p, hp⟩ : ∃ p, i / 3 = p := ⟨_, rfl⟩
    obtain ⟨cc, hcc⟩ : ∃ cc, i % 3 = cc := ⟨_, rfl⟩
    have w0 : Aside0 (wrap64 (Int.tdiv (i : Int) 3) = (p : Int)) := ⟨by rw [wdiv3 i (by omega), hp]⟩
    have wm : Aside0 (Int.tmod (i : Int) 3 = (cc : Int)) := ⟨by rw [wmod3, hcc]⟩
    have wi := Aside0.mk (wadd1 i (by omega))
    have hc3 : cc < 3 := by omega
    have hpi : 3 * p + cc = i := by omega
    have e0 := Aside0.mk (show B0.getD i 0 = b.getD (3 * (p / W * W + (W - 1 - p % W)) + cc) 0 by rw [← hp, ← hcc]; exact e0.out)
    have e1 := Aside0.mk (show B1.getD i 0 = b.getD (3 * ((H - 1 - p % H) * W + p / H) + cc) 0 by rw [← hp, ← hcc]; exact e1.out)
    have e2 := Aside0.mk (show B2.getD i 0 = (b.getD (3 * p) 0 + b.getD (3 * p + 1) 0 + b.getD (3 * p + 2) 0) / 3 by rw [← hp]; exact e2.out)
    have hpx : p < H * W := by omega
    clear hp hcc
    have hpx' : p < W * H := by rw [Nat.mul_comm]; exact hpx
    obtain ⟨g1, g2, -⟩ := px_facts hpx
    obtain ⟨f1, f2, -⟩ := px_facts hpx'
    have q1 : p / W * W + (W - 1 - p % W) < H * W := at_lt (back_lt g1) g2
    have q2 : (H - 1 - p % H) * W + p / H < H * W := at_lt f2 (back_lt f1)
    clear g1 g2 f1 f2 hpx'
    have hn : H * W ≤ 200 := by omega
    have x1 := Aside0.mk (flip_ix p W hW hW2 (by omega))
    have x2 := Aside0.mk (turn_ix p W H hH hH2 (by omega) (Nat.le_trans (Nat.le_add_right _ (p / H)) (Nat.le_trans (Nat.le_of_lt q2) hn)))
    generalize p / W * W + (W - 1 - p % W) = q at *
    generalize (H - 1 - p % H) * W + p / H = q' at *
    generalize H * W = n at *
    refine Ev.step (fun k => by rw [penumbralaw44_PpmTurns.l0]) ?_
    have c0 := Aside0.mk (wmul3 p (by omega))
    have c1 := Aside0.mk (wadd1 (3 * p) (by omega))
    have c2 := Aside0.mk (wadd2 (3 * p) (by omega))
    have c3 := Aside0.mk (wmul3 q (by omega))
    have c4 := Aside0.mk (wadd (3 * q) cc (by omega))
    have c5 := Aside0.mk (wmul3 q' (by omega))
    have c6 := Aside0.mk (wadd (3 * q') cc (by omega))
    simp only [wi.out, w0.out, wm.out, x1.out, x2.out, c0.out, c1.out, c2.out, c3.out, c4.out, c5.out, c6.out, rd_nat]
    have hv := Aside0.mk (mean_ix (b.getD (3 * p) 0) (b.getD (3 * p + 1) 0) (b.getD (3 * p + 2) 0) (B2.getD i 0) (hr _) (hr _) (hr _) e2.out)
    clear w0 wm wi x1 x2 c0 c1 c2 c3 c4 c5 c6 e2
    refine ev_pos (by omega) (ev_neg (by omega) (ev_neg (by omega) (ev_pos (by omega) (ev_pos (by omega) (ev_pos (by omega) (ev_pos (by omega) (ev_pos (by omega) (ev_pos (by omega) (ev_pos (by omega) (ev_pos (by omega) (ev_pos (by omega) (ev_pos (by omega) (ev_pos e0.out (ev_pos (by omega) (ev_pos (by omega) (ev_pos (by omega) (ev_pos e1.out (ev_pos (by omega) (ev_pos hv.out ?_)))))))))))))))))))
    exact IH
theorem PpmTurns : penumbralaw44_PpmTurns.Pure := by
  intro a b l _ _ _ _ hwf
  refine Ev.rounds ?_
  unfold penumbralaw44_PpmTurns.f
  by_cases c : (l.length : Int) > 600
  · exact ev_pos c (Ev.bind awake_ev (Ev.now _))
  refine ev_neg c ?_
  unfold ppm_Flip.f ppm_Turn.f flipF turnF
  by_cases c0 : chk a b l.length = 0
  · have hg := gray_ev a b l (by omega) (byte_range hwf)
    rw [if_pos c0] at hg
    rw [if_pos c0, if_pos c0]
    obtain ⟨W, H, rfl, rfl, h1, h2, h3, h4, hlen⟩ := chk_nat c0
    refine ev_some (ev_some (Ev.bind hg (Ev.bind (rchk_ev _ _ l) (ev_pos c0 (ev_pos rfl (ev_pos rfl (ev_pos rfl (ev_pos ?_ (ev_pos ?_ ?_)))))))))
    · simp only [frTo_length]
    · simp only [frTo_length]
    · simp only [grTo_length, Int.toNat_natCast]
      rw [show ((l.length : Int) != (l.length : Int)) = false from bne_eq_false_iff_eq.mpr rfl]
      have hgo : Ev (fun k => penumbralaw44_PpmTurns.l0 k (W : Int) (H : Int) l (frTo l W (fun x y => y * W + (W - 1 - x)) l.length) (frTo l H (fun x y => (H - 1 - x) * W + y) l.length) (grTo l l.length) 0) true := turns_go W H l h1 h2 h3 h4 hlen (by omega) (byte_range hwf) (frTo l W (fun x y => y * W + (W - 1 - x)) l.length) (frTo l H (fun x y => (H - 1 - x) * W + y) l.length) (grTo l l.length) (frTo_length _ _ _ _) (frTo_length _ _ _ _) (grTo_length _ _) (fun k hk => frTo_get l W (fun x y => y * W + (W - 1 - x)) l.length k hk) (fun k hk => frTo_get l H (fun x y => (H - 1 - x) * W + y) l.length k hk) (fun k hk => grTo_get _ _ _ hk) l.length 0 (by omega)
      exact Ev.step (fun k => by rw [penumbralaw44_PpmTurns.j0]) (ev_neg (by decide) hgo)
  · have hg := gray_ev a b l (by omega) (byte_range hwf)
    rw [if_neg c0] at hg
    rw [if_neg c0, if_neg c0]
    exact ev_some (ev_some (Ev.bind hg (Ev.bind (rchk_ev _ _ l) (ev_neg c0 (Ev.bind awake_ev (ev_pos rfl (ev_pos rfl (ev_pos rfl (ev_pos rfl (Ev.congr (f := fun _ => some true) (fun _ => by show some (wrap64 (wrap64 (((0 : Nat) : Int) + ((0 : Nat) : Int)) + ((0 : Nat) : Int)) == 0) = some true; decide +kernel) (Ev.now true)))))))))))
end Go.Proofs.Ytmpbjmjphapnoaa.Pure
