/- the document's terms of chapter 36, by hand. -/
import Derived.Test.YtgkncmnkbhgjmaaGlo
namespace Go.Proofs.Ytgkncmnkbhgjmaa.Gv
open Go.RowKit Go.Proofs.Ytgkncmnkbhgjmaa.X Go.Proofs.YtgkncmnkbhgjmaaW.PrintWords Go.Proofs.YtgkncmnkbhgjmaaW.PrintLast Go.Proofs.YtgkncmnkbhgjmaaW.PrintMore
/-- a row of t, thrown at l, up to its place j -/
def wd (n : Nat) (t l : List Int) (i : Nat) : Nat → Int
  | 0 => 0
  | j + 1 => wrap64 (wd n t l i j + wrap64 (t.getD (i * n + j) 0 * l.getD j 0))
def wrow (n : Nat) (t l : List Int) : Nat → List Int
  | 0 => []
  | i + 1 => wrow n t l i ++ [wd n t l i n]
theorem wrow_length (n : Nat) (t l : List Int) : ∀ i, (wrow n t l i).length = i
  | 0 => rfl
  | i + 1 => by rw [wrow, List.length_append, wrow_length n t l i]; rfl
def rtm (n : Nat) (t e : List Int) : Nat → List Int
  | 0 => e
  | k + 1 => wrow n t (rtm n t e k) n
theorem rtm_length (n : Nat) (t e : List Int) (he : e.length = n) : ∀ k, (rtm n t e k).length = n
  | 0 => he
  | _ + 1 => wrow_length _ _ _ _
def TermPost (n : Nat) (t e : List Int) (A0 : Option Addr) (c0 : Nat) (m : Nat) (w : World) (x : Ending) (w' : World) : Prop :=
  ∃ A c, x = .returned (.slice A n c) ∧ n ≤ c ∧ Kd.C (Kd.int .i64) w' A n (rtm n t e m) ∧ Below w.heap.size w w' ∧ (m = 0 → A = A0 ∧ c = c0) ∧ (m ≠ 0 → Kd.R (Kd.int .i64) 3 w' w.heap.size (fun _ => True) (.slice A n c) (rtm n t e m))
set_option maxHeartbeats 1000000 in
theorem rterm_zero (n : Nat) (e t : List Int) (A0 : Option Addr) (c0 : Nat) (A1 : Option Addr) (c1 : Nat) (w : World) (hr0 : Kd.C (Kd.int .i64) w A0 n e) (hc0 : n ≤ c0) :
    Calls Try.prog 12 #[.slice A0 n c0, .slice A1 t.length c1, .int .i64 0] w (TermPost n t e A0 c0 0 w) := by
  have HR0 := Aside0.mk hr0
  clear hr0
  go_enter Try.func12, Try.ntmps12
  go_wp2
  go_ret
  exact ⟨A0, c0, rfl, hc0, HR0.out, Below.refl _ _, fun _ => ⟨rfl, rfl⟩, fun h => absurd rfl h⟩
set_option maxHeartbeats 4000000 in
theorem rterm_step (n : Nat) (e t : List Int) (A0 : Option Addr) (c0 : Nat) (A1 : Option Addr) (c1 : Nat) (w : World) (he : e.length = n) (hn : n ≤ 12) (ht : t.length = n * n) (hr1 : Kd.C (Kd.int .i64) w A1 t.length t) (m m1 : Nat) (hm : (m1 : Int) - 1 = m) (hm1 : m1 ≤ 4) (hm2 : m1 = m + 1)
    (ih : Calls Try.prog 12 #[.slice A0 n c0, .slice A1 t.length c1, .int .i64 m] w (TermPost n t e A0 c0 m w)) :
    Calls Try.prog 12 #[.slice A0 n c0, .slice A1 t.length c1, .int .i64 m1] w (TermPost n t e A0 c0 m1 w) := by
  have HR1 := Aside0.mk hr1
  have HI := Aside0.mk ih
  have HM2 := Aside0.mk hm2
  have HT := Aside0.mk ht
  have hz : ((m1 : Int) == 0) = false := by rw [beq_eq_false_iff_ne]; omega
  have hw : IntKind.i64.wrap (m : Int) = (m : Int) := IntWalk.i64_in _ (by omega)
  have hnn : n * n ≤ 12 * 12 := Nat.mul_le_mul hn hn
  clear hr1 ih hm2 ht
  go_enter Try.func12, Try.ntmps12
  go_wp2_with (go_at_call 12; refine HI.out.mono ?_; rintro x w1 ⟨Al, cl, rfl, hcl, hCl, hb1, -, -⟩)
  have HL := Aside0.mk (show Kd.C (Kd.int .i64) w1 Al (rtm n t e m).length (rtm n t e m) by rw [rtm_length n t e he]; exact hCl)
  have HT1 := Aside0.mk (Kd.C_below HR1.out hb1)
  have HLn := Aside0.mk (rtm_length n t e he m)
  have HB1 := Aside0.mk hb1
  clear hCl hb1
  generalize hl : rtm n t e m = l at *
  have Hl := Aside0.mk hl
  clear hl
  go_loopw [9, 10] (fun y i wr => ∃ (k : Nat) (v : Value), k ≤ n ∧ v = y ∧ i = .int .i64 (k : Int) ∧ Aside0 (Kd.R (Kd.int .i64) 3 wr w1.heap.size (fun _ => True) v (wrow n t l k)) ∧ Aside0 (Below w1.heap.size w1 wr)) (fun _ i _ => n - (intOf i).toNat)
  case atStart => exact ⟨0, _, Nat.zero_le _, rfl, rfl, ⟨Kd.R_nil _ _ _ _ _⟩, ⟨Below.refl _ _⟩⟩
  case round =>
    obtain ⟨k, v, hk, rfl, rfl, HO, HB⟩ := hrel
    by_cases hkn : k < n
    · have hkn2 : (k : Int) < (n : Int) := by omega
      obtain ⟨p, hp⟩ : ∃ p, k * n = p := ⟨_, rfl⟩
      have hpn : p + n ≤ n * n := by
        have := Nat.mul_le_mul_right n (show k + 1 ≤ n from hkn)
        rw [Nat.add_mul, Nat.one_mul, hp] at this
        exact this
      have hmul : (n : Int) * (k : Int) = (p : Int) := by rw [← hp, Int.natCast_mul, Int.mul_comm]
      have hwp : IntKind.i64.wrap (p : Int) = (p : Int) := IntWalk.i64_in _ (by omega)
      have Hp := Aside0.mk hp
      clear hp
      go_wp2
      go_loopw [11, 12] (fun s i wq => ∃ j : Nat, j ≤ n ∧ i = .int .i64 (j : Int) ∧ s = .int .i64 (wd n t l k j) ∧ Aside0 (Kd.R (Kd.int .i64) 3 wq w1.heap.size (fun _ => True) v (wrow n t l k)) ∧ Aside0 (Below w1.heap.size w1 wq)) (fun _ i _ => n - (intOf i).toNat)
      case atStart => exact ⟨0, Nat.zero_le _, rfl, rfl, HO, HB⟩
      case round =>
        obtain ⟨j, hj, rfl, rfl, HOq, HBq⟩ := hrel
        by_cases hjn : j < n
        · have hjn2 : (j : Int) < (n : Int) := by omega
          obtain ⟨q, hq⟩ : ∃ q, p + j = q := ⟨_, rfl⟩
          have hadd : (p : Int) + (j : Int) = (q : Int) := by omega
          have hwq : IntKind.i64.wrap (q : Int) = (q : Int) := IntWalk.i64_in _ (by omega)
          have hql : (q : Int) < (t.length : Int) := by rw [HT.out]; omega
          have hq0 : (0 : Int) ≤ (q : Int) := by omega
          have hj0 : (0 : Int) ≤ (j : Int) := by omega
          have hjl : (j : Int) < (l.length : Int) := by rw [HLn.out]; omega
          obtain ⟨ad, rfl, hx⟩ := Kd.at_int (Kd.C_below HT1.out HBq.out) (q : Int) hq0 hql
          obtain ⟨ae, rfl, hy⟩ := Kd.at_int (Kd.C_below HL.out HBq.out) (j : Int) hj0 hjl
          rw [Int.toNat_natCast] at hx hy
          have X : rd t (q : Int) = t.getD q 0 := by simp [rd]
          have Y : rd l (j : Int) = l.getD j 0 := by simp [rd]
          rw [X] at hx
          rw [Y] at hy
          have HS := Aside0.mk (show wd n t l k (j + 1) = wrap64 (wd n t l k j + wrap64 (t.getD q 0 * l.getD j 0)) from by rw [wd, Hp.out, hq])
          clear X Y hq
          generalize hs0 : wd n t l k j = s at *
          generalize hx0 : t.getD q 0 = x at *
          generalize hy0 : l.getD j 0 = y at *
          clear hs0 hx0 hy0
          go_wp2
          go_region
          go_wp2
          go_roundw
          case rel => exact ⟨j + 1, by omega, by go_num, by rw [HS.out], ⟨Kd.R_drew HOq.out⟩, ⟨below_drew HBq.out⟩⟩
          case measure => simp [intOf]; omega
        · have hje : j = n := by omega
          have HJ := Aside0.mk (show wd n t l k j = wd n t l k n by rw [hje])
          have HS := Aside0.mk (show wrow n t l (k + 1) = wrow n t l k ++ [wd n t l k n] from rfl)
          have HWl := Aside0.mk (wrow_length n t l k)
          clear hje
          generalize hs0 : wd n t l k j = s at *
          generalize hw0 : wrow n t l k = ws at *
          clear hs0 hw0
          go_wp2_with ((with_reducible refine gate_builtin (b := .append) (xs := #[.tmp 48, .tmp 50]) rfl ?_); at_builtin; refine Kd.R_append (Kd.int .i64) (w0 := w1) w1.heap.size rfl (.tmp 48) (.tmp 50) 22 3 (.int .i64 0) 8 rfl Try.underlying22 info3 rfl (by decide) (by omega) v ws s [.int .i64 s] (fun _ => True) (fun _ => False) rfl rfl ?aP (fun _ hk => hk.elim) ?aF ?aO ?aB ?aS ?aL ?_; (case aP => exact rfl); (case aF => exact fun _ _ => trivial); (case aO => exact HOq.out); (case aB => exact HBq.out); (case aS => exact HBq.out.size); (case aL => have h := HWl.out; omega); intro v1 w5 ho5 hb5 hg5 hat5; clear hg5 hat5; have HO5 := Aside0.mk ho5; have HB5 := Aside0.mk hb5; clear ho5 hb5)
          go_roundw
          case rel => exact ⟨k + 1, v1, by omega, rfl, by go_num, ⟨by rw [HS.out, ← HJ.out]; exact HO5.out⟩, HB5⟩
          case measure => simp [intOf]; omega
    · have hke : k = n := by omega
      have HK := Aside0.mk (show wrow n t l k = rtm n t e m1 by rw [hke, HM2.out, rtm, Hl.out])
      clear hke
      go_wp2
      go_ret
      have hR : Kd.R (Kd.int .i64) 3 wr w.heap.size (fun _ => True) v (rtm n t e m1) := by
        have h := HO.out
        rw [HK.out] at h
        exact Kd.R_lower h HB1.out.size
      obtain ⟨A, c, rfl⟩ := Kd.R_slice hR
      have hlen := rtm_length n t e he m1
      have hC := (Kd.R_reads' hR).2
      rw [hlen] at hR hC ⊢
      exact ⟨A, c, rfl, hC.1, hC.2, below_then HB1.out HB1.out.size HB.out, fun h => by have := HM2.out; omega, fun _ => hR⟩
theorem rterm_any (n : Nat) (e t : List Int) (A0 : Option Addr) (c0 : Nat) (A1 : Option Addr) (c1 : Nat) (w : World) (he : e.length = n) (hn : n ≤ 12) (ht : t.length = n * n) (hr0 : Kd.C (Kd.int .i64) w A0 n e) (hc0 : n ≤ c0) (hr1 : Kd.C (Kd.int .i64) w A1 t.length t) : ∀ m : Nat, m ≤ 4 →
    Calls Try.prog 12 #[.slice A0 n c0, .slice A1 t.length c1, .int .i64 m] w (TermPost n t e A0 c0 m w)
  | 0, _ => rterm_zero n e t A0 c0 A1 c1 w hr0 hc0
  | m + 1, h => rterm_step n e t A0 c0 A1 c1 w he hn ht hr1 m (m + 1) (by omega) h rfl (rterm_any n e t A0 c0 A1 c1 w he hn ht hr0 hc0 hr1 m (by omega))
end Go.Proofs.Ytgkncmnkbhgjmaa.Gv
