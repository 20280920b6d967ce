/- the document's path, for every list of choices. -/
import Derived.Test.YtgkgnihjjabapaaKi
namespace Go.Proofs.Ytgkgnihjjabapaa.Gv
open Go.RowKit Go.Proofs.Ytgkgnihjjabapaa.X Go.Proofs.Ytgkgnihjjabapaa.Pl Go.Proofs.Ytgkgnihjjabapaa.Pa Go.Proofs.Ytgkgnihjjabapaa.Pb Go.Proofs.Ytgkgnihjjabapaa.Pq Go.Proofs.YtgkgnihjjabapaaW.PrintWords Go.Proofs.YtgkgnihjjabapaaW.PrintLast
--BODY
set_option maxHeartbeats 2000000 in
set_option maxRecDepth 100000 in
theorem rf_nil (R : Rw) (A : Option Addr) (c i : Nat) (wt : Int) (w : World) :
    Calls Try.prog 11 #[.agg #[.slice R.aE R.E.length R.cE, .slice R.aT R.T.length R.cT, .slice R.aG R.G.length R.cG, .slice R.aA R.A.length R.cA, .int .i64 R.on, .int .i64 (R.n : Int)], .int .i64 (i : Int), .int .i64 wt, .slice A 0 c] w fun e w' => e = .returned (.tuple #[.int .i64 0, .int .i64 1]) ∧ Below w.heap.size w w' := by
  have HB := Aside0.mk (Below.alloc (Below.refl w.heap.size w) (Nat.le_refl _) (bxR R))
  go_enter Try.func11, Try.ntmps11
  go_wp2
  go_ret2
  exact ⟨rfl, HB.out⟩
set_option maxHeartbeats 8000000 in
set_option maxRecDepth 100000 in
theorem rf_out (R : Rw) (x : S50) (l : List S50) (A : Option Addr) (c i : Nat) (wt : Int) (w : World) (hL : Kd.C k50 w A (x :: l).length (x :: l)) (b1 b2 b3 b4 : Bool) (y1 : decide (x.f0 < 0) = b1) (y2 : decide ((R.n : Int) < x.f0) = b2) (y3 : decide (x.f1 < 0) = b3) (y4 : decide ((R.n : Int) < x.f1) = b4) (hx : b1 = true ∨ b2 = true ∨ b3 = true ∨ b4 = true) :
    Calls Try.prog 11 #[.agg #[.slice R.aE R.E.length R.cE, .slice R.aT R.T.length R.cT, .slice R.aG R.G.length R.cG, .slice R.aA R.A.length R.cA, .int .i64 R.on, .int .i64 (R.n : Int)], .int .i64 (i : Int), .int .i64 wt, .slice A (x :: l).length c] w fun e w' => e = .returned (.tuple #[.int .i64 0, .int .i64 0]) ∧ Below w.heap.size w w' := by
  obtain ⟨ad, rfl, t0, t1, t2⟩ := at_T50 hL 0 (by decide) (by rw [List.length_cons]; omega)
  have hx0 : rd_T50 (x :: l) 0 = x := rfl
  rw [hx0, show (0 : Int).toNat * 3 = 0 from rfl, Addr.add_zero'] at t0 t1 t2
  have t0' := cell_later' (Below.alloc (Below.refl _ _) (Nat.le_refl _) (bxR R)) t0
  have t1' := cell_later' (Below.alloc (Below.refl _ _) (Nat.le_refl _) (bxR R)) t1
  have t2' := cell_later' (Below.alloc (Below.refl _ _) (Nat.le_refl _) (bxR R)) t2
  unfold bxR at t0' t1' t2'
  have HB := Aside0.mk (Below.alloc (Below.alloc (Below.refl w.heap.size w) (Nat.le_refl _) (bxR R)) (by simp) (.cells #[.int .i64 x.f0, .int .i64 x.f1, .bool x.f2] 50 (0, 0)))
  have hn0 : ((x :: l).length == 0) = false := rfl
  have hn1 : (0 : Int) < ((x :: l).length : Int) := by rw [List.length_cons]; omega
  clear hx0 hL
  generalize (x :: l).length = len at *
  cases b1 with
  | true =>
    clear y2 y3 y4 hx
    go_enter Try.func11, Try.ntmps11
    go_wp2
    go_ret2
    exact ⟨rfl, HB.out⟩
  | false =>
    cases b2 with
    | true =>
      clear y3 y4 hx
      go_enter Try.func11, Try.ntmps11
      go_wp2
      go_ret2
      exact ⟨rfl, HB.out⟩
    | false =>
      cases b3 with
      | true =>
        clear y4 hx
        go_enter Try.func11, Try.ntmps11
        go_wp2
        go_ret2
        exact ⟨rfl, HB.out⟩
      | false =>
        have hb4 : b4 = true := by simpa using hx
        subst hb4
        clear hx
        go_enter Try.func11, Try.ntmps11
        go_wp2
        go_ret2
        exact ⟨rfl, HB.out⟩
theorem rfollow_any (R : Rw) (W0 : World) (ok : RwOk R W0) : ∀ (l : List S50), l.length ≤ 1000 → ∀ (A : Option Addr) (c i : Nat) (wt : Int) (W : World), Below W0.heap.size W0 W → i < R.n → Kd.C k50 W A l.length l → l.length ≤ c → Calls Try.prog 11 #[.agg #[.slice R.aE R.E.length R.cE, .slice R.aT R.T.length R.cT, .slice R.aG R.G.length R.cG, .slice R.aA R.A.length R.cA, .int .i64 R.on, .int .i64 (R.n : Int)], .int .i64 (i : Int), .int .i64 wt, .slice A l.length c] W fun e w' => e = .returned (.tuple #[.int .i64 (rF R i wt l).1, .int .i64 (rF R i wt l).2]) ∧ Below W.heap.size W w'
  | [], _, A, c, i, wt, W, _, _, _, _ => rf_nil R A c i wt W
  | x :: l, hl, A, c, i, wt, W, hb, hi, hL, hc => by
    have hl' : l.length ≤ 1000 := by rw [List.length_cons] at hl; omega
    by_cases h : inn R.n x.f0 = true ∧ inn R.n x.f1 = true
    · obtain ⟨h0, h1⟩ := h
      obtain ⟨j0, j1⟩ := inn_nat h0
      obtain ⟨g0, g1⟩ := inn_nat h1
      obtain ⟨f0, f1, f2⟩ := x
      simp only at j0 j1 g0 g1
      rw [← j1, ← g1] at hL hc ⊢
      exact rf_in R W0 ok l A c i wt f0.toNat f1.toNat f2 j0 g0 W hb hi hl' hL hc _ rfl (fun A c i wt W hb hi hL hc => rfollow_any R W0 ok l hl' A c i wt W hb hi hL hc)
    · have e : rF R i wt (x :: l) = (0, 0) := by rw [rF, if_neg h]
      rw [e]
      refine rf_out R x l A c i wt W hL _ _ _ _ rfl rfl rfl rfl ?_
      unfold inn at h
      simp only [decide_eq_true_eq] at h ⊢
      omega
/-- the document's path, where its model and its chances fit -/
def rfF (E T G A : List Int) (on n i wt : Int) (l : List S50) : Option (Int × Int) := if Pq.shape E T G A ∧ n = (E.length : Int) ∧ (0 ≤ i ∧ i < n) ∧ l.length ≤ 1000 then some (rF (Rn E T G A on) i.toNat wt l) else none
theorem rF_addr (a b c d : Option Addr) (p q r t n : Nat) (E T G A : List Int) (on : Int) : ∀ (l : List S50) (i : Nat) (wt : Int), rF ⟨a, b, c, d, p, q, r, t, E, T, G, A, on, n⟩ i wt l = rF ⟨none, none, none, none, 0, 0, 0, 0, E, T, G, A, on, n⟩ i wt l
  | [], i, wt => rfl
  | x :: l, i, wt => by
    rw [rF, rF, rF_addr a b c d p q r t n E T G A on l]
    rfl
theorem rfF_any (A0 : Option Addr) (c0 : Nat) (E : List Int) (A1 : Option Addr) (c1 : Nat) (T : List Int) (A2 : Option Addr) (c2 : Nat) (G : List Int) (A3 : Option Addr) (c3 : Nat) (A : List Int) (on n i wt : Int) (A4 : Option Addr) (c4 : Nat) (l : List S50) (r1 r2 : Int) (w : World) (hE : Kd.C (Kd.int .i64) w A0 E.length E) (cE : E.length ≤ c0) (hT : Kd.C (Kd.int .i64) w A1 T.length T) (cT : T.length ≤ c1) (hG : Kd.C (Kd.int .i64) w A2 G.length G) (cG : G.length ≤ c2) (hA : Kd.C (Kd.int .i64) w A3 A.length A) (cA : A.length ≤ c3) (hL : Kd.C k50 w A4 l.length l) (cL : l.length ≤ c4) (h : rfF E T G A on n i wt l = some (r1, r2)) :
    Calls Try.prog 11 #[.agg #[.slice A0 E.length c0, .slice A1 T.length c1, .slice A2 G.length c2, .slice A3 A.length c3, .int .i64 on, .int .i64 n], .int .i64 i, .int .i64 wt, .slice A4 l.length c4] w fun e w' => e = .returned (.tuple #[.int .i64 r1, .int .i64 r2]) ∧ Below w.heap.size w w' := by
  unfold rfF at h
  by_cases c : Pq.shape E T G A ∧ n = (E.length : Int) ∧ (0 ≤ i ∧ i < n) ∧ l.length ≤ 1000
  · rw [if_pos c] at h
    obtain ⟨⟨⟨n1, n12, lT⟩, lG, lA⟩, rfl, ⟨i0, i1⟩, hl⟩ := c
    obtain ⟨f, rfl⟩ := Int.eq_ofNat_of_zero_le i0
    rw [Int.toNat_natCast] at h
    have hr := rfollow_any ⟨A0, A1, A2, A3, c0, c1, c2, c3, E, T, G, A, on, E.length⟩ w ⟨hE, hT, hG, hA, cE, cT, cG, cA, rfl, lT, lG, lA, n1, n12⟩ l hl A4 c4 f wt w (Below.refl _ _) (show f < E.length by omega) hL cL
    rw [rF_addr] at hr
    have e : rF (Rn E T G A on) f wt l = (r1, r2) := Option.some.inj h
    unfold Rn at e
    rw [e] at hr
    exact hr
  · rw [if_neg c] at h
    cases h
end Go.Proofs.Ytgkgnihjjabapaa.Gv
