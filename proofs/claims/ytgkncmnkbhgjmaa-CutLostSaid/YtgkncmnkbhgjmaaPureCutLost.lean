/- CutLost: plain. -/
import Derived.Test.YtgkncmnkbhgjmaaPs
import Derived.Test.YtgkncmnkbhgjmaaXxSCutLost
namespace Go.Proofs.Ytgkncmnkbhgjmaa.Pure
open Go.RowKit Go.Proofs.Ytgkncmnkbhgjmaa.X Go.Proofs.YtgkncmnkbhgjmaaW.PrintWords Go.Proofs.YtgkncmnkbhgjmaaW.PrintLast
theorem awakeL : Ev (fun k => penumbralaw36_awake.f k) true := Ev.of penumbralaw36_awake.mono (k := 40) (by decide +kernel)
theorem lightL (e t : List Int) (r a b : Int) (v : Bool) (h : v = true ↔ e.length ≤ 20 ∧ t.length ≤ 200) : penumbralaw36_Ask_light.f e t r a b = some v := by
  unfold penumbralaw36_Ask_light.f
  by_cases c : e.length ≤ 20
  · rw [if_pos (by omega)]
    by_cases d : t.length ≤ 200
    · rw [decide_eq_true (by omega), h.mpr ⟨c, d⟩]
    · have : v = false := by
        cases v with
        | false => rfl
        | true => exact absurd (h.mp rfl).2 d
      rw [decide_eq_false (by omega), this]
  · have : v = false := by
      cases v with
      | false => rfl
      | true => exact absurd (h.mp rfl).1 c
    rw [if_neg (by omega), this]
theorem tmf {e t : List Int} {r : Int} (hz : Siz e t) (hg : Good e t r) (k : Nat) (hk : k ≤ 4) : penumbraref36_Term.f e t (k : Int) = some (tm e.length t e k) := by
  show Gv.rtF e t (k : Int) = _
  unfold Gv.rtF
  rw [if_pos ⟨hz.2.1, hz.2.2, by omega, by omega⟩, Int.toNat_natCast, rtm_tm hz hg k hk]
section
variable {e t : List Int} {r M : Int} (hz : Siz e t) (hg : Good e t r) (hM : 0 ≤ M) (hM2 : M ≤ 1024) (he : ∀ j, j < e.length → e.getD j 0 ≤ M)
include hz hg hM hM2 he
theorem cl1 (a x4 : Int) (x3 : List Int) {b kk d : Nat} (hd : kk + d = b) (hb : b ≤ 4) {out : List Int} (hol : out.length = e.length) {c : Bool} (H : Ev (fun k => penumbralaw36_CutLost.l0 k x3 x4 (Gv.adm out (tm e.length t e kk) d e.length) ((kk + 1 : Nat) : Int) e t r a (b : Int)) c) :
    ∀ q j : Nat, j + q = e.length → Ev (fun k => penumbralaw36_CutLost.l1 k x3 x4 (Gv.adm out (tm e.length t e kk) d j) (kk : Int) (tm e.length t e kk) (j : Int) e t r a (b : Int)) c := by
  have hl := tm_length (t := t) (e := e) kk
  have h12 := hz.2.1
  intro q
  induction q with
  | zero =>
    intro j hj
    have e2 : j = e.length := by omega
    subst e2
    refine Ev.step (fun _ => by rw [penumbralaw36_CutLost.l1]) (neg (by omega) ?_)
    rw [suc (by omega)]
    exact H
  | succ q ih =>
    intro j hj
    have h := ih (j + 1) (by omega)
    obtain ⟨p1, p2, p3⟩ := tm_scaled hz hg hM hM2 he kk d (by omega) j (by omega)
    have B := (mrp hM hM2 hg.2.2.1 hg.2.2.2.1 kk d (by omega)).2
    have hal := Gv.adm_length out (tm e.length t e kk) d j
    have ew : wrap64 ((b : Int) - (kk : Int)) = (d : Int) := by rw [show (b : Int) - (kk : Int) = (d : Int) by omega]; exact wfit _ (by omega) (by omega)
    refine Ev.step (fun _ => by rw [penumbralaw36_CutLost.l1]) (pos (by omega) (pos (by omega) (pos (by omega) ?_)))
    rw [ew]
    refine Ev.bind (power_ev (r := 1024) (by decide) (by decide) d (by omega)) ?_
    rw [rd_nat, rd_nat, Int.toNat_natCast, suc (by omega), wfit _ p2 (by omega), ← p1]
    exact h
theorem cl0 (a : Int) (x3 : List Int) {b : Nat} (hb : b ≤ 4) (hj : Ev (fun k => penumbralaw36_CutLost.j4 k x3 false e t r a (b : Int)) true) (hx : x3.length = e.length) :
    ∀ (d kk : Nat) (out : List Int), kk + d = b + 1 → out.length = e.length → x3 = lz e t b d out → Ev (fun k => penumbralaw36_CutLost.l0 k x3 0 out (kk : Int) e t r a (b : Int)) true := by
  have h12 := hz.2.1
  intro d
  induction d with
  | zero =>
    intro kk out hk hol hres
    have e3 : x3 = out := hres
    refine Ev.step (fun _ => by rw [penumbralaw36_CutLost.l0]) (neg (by omega) (pos rfl ?_))
    rw [← e3]
    exact Ev.bind (ints_ev x3 (by omega)) hj
  | succ d ih =>
    intro kk out hk hol hres
    rw [lz, show b - d = kk by omega] at hres
    refine Ev.step (fun _ => by rw [penumbralaw36_CutLost.l0]) (pos (by omega) ?_)
    rw [tmf hz hg kk (by omega)]
    have h := ih (kk + 1) (Gv.adm out (tm e.length t e kk) d e.length) (by omega) (by rw [Gv.adm_length, hol]) hres
    exact cl1 hz hg hM hM2 he a 0 x3 (by omega) hb hol h e.length 0 (by omega)
end
theorem cj4 {e t res : List Int} {r M : Int} (hz : Siz e t) (hg : Good e t r) (hM : MostP e e.length M) (hM2 : M ≤ 1024) {a b : Nat} (ha : a ≤ 4) (hb : b ≤ 4) (hres : res = lz e t b (b + 1 - a) (List.replicate e.length 0)) :
    Ev (fun k => penumbralaw36_CutLost.j4 k res false e t r (a : Int) (b : Int)) true := by
  have h12 := hz.2.1
  have hr0 := hg.2.2.1
  have hr1 := hg.2.2.2.1
  have hrl : res.length = e.length := by rw [hres, lz_length]; simp
  obtain ⟨R, hR, hRP⟩ := rmost_ev res (by omega)
  refine Ev.step (fun _ => by rw [penumbralaw36_CutLost.j4]) (neg (by decide) ?_)
  by_cases c : b < a
  · have h0 : R = 0 := by
      rcases hRP.2.2 with h | ⟨i, hi, h⟩
      · exact h
      · rw [hres, show b + 1 - a = 0 by omega, lz] at h
        rw [← h]
        simp [List.getD_eq_getElem?_getD, show i < e.length by omega]
    subst h0
    exact pos (by omega) (Ev.bind awakeL (pos rfl (Ev.bind hR (show Ev (fun _ => some ((0 : Int) == 0)) true from Ev.now _))))
  · obtain ⟨M3, hE, hEP⟩ := rmost_ev e (by omega)
    have e3 := most_uniq hEP hM
    subst e3
    obtain ⟨-, hL⟩ := lim_end hz hg hM.1 hM2 hM.2.1 hb (b + 1 - a) (List.replicate e.length 0) (by omega) (lim_start (by omega))
    rw [← hres] at hL
    have B := mrp hM.1 hM2 hr0 hr1 a (b + 1 - a) (by omega)
    have B2 := mrp hM.1 hM2 hr0 hr1 (b + 1) 0 (by omega)
    have B3 := mrp hM.1 hM2 hr0 hr1 a 0 (by omega)
    rw [Int.pow_zero, Int.mul_one] at B3
    have hle : R * (1024 - r) ≤ M3 * r ^ a * 1024 ^ (b + 1 - a) := by
      rcases hRP.2.2 with h | ⟨i, hi, h⟩
      · rw [h]; omega
      · have := (hL i (by omega)).2
        rw [← h]
        rw [Nat.sub_zero] at this
        omega
    have hge : 0 ≤ R * (1024 - r) := Int.mul_nonneg hRP.1 (by omega)
    have e1 : wrap64 (wrap64 ((b : Int) - (a : Int)) + 1) = ((b + 1 - a : Nat) : Int) := by
      rw [show (b : Int) - (a : Int) = ((b - a : Nat) : Int) by omega, wfit ((b - a : Nat) : Int) (by omega) (by omega), suc (by omega)]
      omega
    refine neg (by omega) (Ev.bind awakeL (pos rfl (Ev.bind hR (Ev.bind hE (Ev.bind (power_ev hr0 (by omega) a (by omega)) ?_)))))
    rw [e1]
    refine Ev.bind (power_ev (r := 1024) (by decide) (by decide) (b + 1 - a) (by omega)) ?_
    rw [wfit (1024 - r) (by omega) (by omega), wfit _ hge (by omega), wfit (M3 * r ^ a) B3.1 (by omega), wfit _ B.1 (by omega), decide_eq_true hle]
    exact Ev.now _
theorem sl0 (x3 : List Int) (x4 x5 : Int) (v : Bool) (e t : List Int) (r a b : Int) (k : Nat) : penumbralaw36_CutLost.j0 (k + 1) x3 x4 x5 v e t r a b = if v = true then (penumbralaw36_CutLost.j1 k x3 x4 3 e t r a b) else (penumbralaw36_CutLost.j1 k x3 x4 x5 e t r a b) := by rw [penumbralaw36_CutLost.j0]
theorem cfail (e t : List Int) (r a b z : Int) (hz : z ≠ 0) : Ev (fun k => penumbralaw36_CutLost.j1 k [] z z e t r a b) true := by
  refine Ev.step (fun _ => by rw [penumbralaw36_CutLost.j1]) (neg hz (Ev.bind awakeL (pos rfl (pos rfl ?_))))
  rw [beq_self_eq_true]
  exact Ev.now _
theorem CutLost : penumbralaw36_CutLost.Pure := by
  unfold penumbralaw36_CutLost.Pure
  intro e t r a b _ _ _ _ _ _ _
  refine Ev.rounds ?_
  unfold penumbralaw36_CutLost.f
  by_cases c : e.length ≤ 20 ∧ t.length ≤ 200
  · rw [lightL e t r a b true ⟨fun _ => c, fun _ => rfl⟩]
    simp only [Option.bind_some, ↓reduceIte]
    obtain ⟨v, hv⟩ := ChkP.tot e t r
    have hrc := rcheck_ev (e := e) (t := t) (r := r) (by omega) hv
    by_cases v0 : v = 0
    · subst v0
      by_cases hab : (0 ≤ a ∧ a ≤ 4) ∧ 0 ≤ b ∧ b ≤ 4
      · rcases hv with ⟨_, h⟩ | ⟨_, _, h⟩ | ⟨hz, hg, _⟩
        · cases h
        · cases h
        · obtain ⟨⟨a0, a4⟩, b0, b4⟩ := hab
          obtain ⟨a, rfl⟩ := Int.eq_ofNat_of_zero_le a0
          obtain ⟨b, rfl⟩ := Int.eq_ofNat_of_zero_le b0
          obtain ⟨M, _, hM⟩ := rmost_ev e (by omega)
          have hM2 : M ≤ 1024 := by
            rcases hM.2.2 with h | ⟨j, hj, rfl⟩
            · omega
            · exact (hg.1 j hj).2
          have h12 := hz.2.1
          refine Ev.bind (lost_ev hz hg (a := a) (b := b) (by omega) (by omega)) (Ev.bind hrc (pos rfl (neg (by omega) (neg (by omega) (neg (by omega) ?_)))))
          rw [decide_eq_false (show ¬ ((b : Int) > 4) by omega)]
          refine Ev.step (fun k => sl0 _ _ _ _ e t r _ _ k) (neg (by decide) (Ev.step (fun _ => by rw [penumbralaw36_CutLost.j1]) (pos rfl (pos (by omega) (pos (by omega) ?_)))))
          rw [Int.toNat_natCast]
          by_cases hle : a ≤ b + 1
          · exact cl0 hz hg hM.1 hM2 hM.2.1 a _ (by omega) (cj4 hz hg hM hM2 (by omega) (by omega) rfl) (by rw [lz_length]; simp) (b + 1 - a) a _ (by omega) (by simp) rfl
          · have e0 : b + 1 - a = 0 := by omega
            rw [e0, lz]
            refine Ev.step (fun _ => by rw [penumbralaw36_CutLost.l0]) (neg (by omega) (pos rfl (Ev.bind (ints_ev _ (by simp; omega)) ?_)))
            exact cj4 hz hg hM hM2 (by omega) (by omega) (by rw [e0, lz])
      · refine Ev.bind (lost_far (by omega) (by omega) hv (.inr hab)) (Ev.bind hrc (pos rfl ?_))
        rw [if_pos rfl]
        have go : Ev (fun k => penumbralaw36_CutLost.j0 k [] 3 0 true e t r a b) true := Ev.step (fun k => sl0 _ _ _ _ e t r a b k) (pos rfl (cfail e t r a b 3 (by decide)))
        by_cases d1 : a < 0
        · exact pos d1 go
        · by_cases d2 : a > 4
          · exact neg d1 (pos d2 go)
          · by_cases d3 : b < 0
            · exact neg d1 (neg d2 (pos d3 go))
            · refine neg d1 (neg d2 (neg d3 ?_))
              rw [decide_eq_true (show b > 4 by omega)]
              exact go
    · refine Ev.bind (lost_far (by omega) (by omega) hv (.inl v0)) (Ev.bind hrc (neg v0 ?_))
      rw [if_neg v0]
      exact Ev.step (fun k => sl0 _ _ _ _ e t r a b k) (neg (by decide) (cfail e t r a b v v0))
  · rw [lightL e t r a b false ⟨fun x => (by cases x), fun x => absurd x c⟩]
    simp only [Option.bind_some, Bool.false_eq_true, ↓reduceIte]
    exact Ev.bind awakeL (Ev.now _)
end Go.Proofs.Ytgkncmnkbhgjmaa.Pure
