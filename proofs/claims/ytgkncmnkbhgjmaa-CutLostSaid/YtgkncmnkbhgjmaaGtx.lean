/- the document's term, as the law CutLost takes it: fresh, or the very argument. -/
import Derived.Test.YtgkncmnkbhgjmaaGtm
namespace Go.Proofs.Ytgkncmnkbhgjmaa.Gv
open Go.RowKit Go.Proofs.Ytgkncmnkbhgjmaa.X Go.Proofs.YtgkncmnkbhgjmaaW.PrintWords Go.Proofs.YtgkncmnkbhgjmaaW.PrintLast Go.Proofs.YtgkncmnkbhgjmaaW.PrintMore
def XQ (W : World) (b : Nat) (ok : Nat → Prop) (A0 : Option Addr) (c0 : Nat) (l0 : List Int) (v : Value) (r : List Int) : Prop := (v = .slice A0 l0.length c0 ∧ r = l0) ∨ Kd.R (Kd.int .i64) 3 W b ok v r
section
variable {W W1 : World} {b : Nat} {ok : Nat → Prop} {A0 : Option Addr} {c0 : Nat} {l0 r : List Int} {v : Value}
theorem XQ.start {u1 u2 : Value} (h : XQ W1 W.heap.size (fun _ => True) A0 c0 l0 v r) (h1 : ∀ k, u1.ownBlock = some k → k < W.heap.size) (h2 : ∀ k, u2.ownBlock = some k → k < W.heap.size) (hb : b ≤ W.heap.size) : XQ W1 b (fun k_ => some k_ ≠ u1.ownBlock ∧ some k_ ≠ u2.ownBlock) A0 c0 l0 v r := by
  rcases h with h | h
  · exact .inl h
  · exact .inr (Kd.R_lower (Kd.R_mono (Kd.R_bound h) (fun k hk => ⟨fun e => by have := h1 k e.symm; have := hk.2.1; omega, fun e => by have := h2 k e.symm; have := hk.2.1; omega⟩)) hb)
theorem XQ.slice (h : XQ W b ok A0 c0 l0 v r) : ∃ A c, v = .slice A r.length c := by
  rcases h with ⟨rfl, rfl⟩ | h
  · exact ⟨_, _, rfl⟩
  · exact Kd.R_slice h
theorem XQ.drew (h : XQ W b ok A0 c0 l0 v r) : XQ W.drew b ok A0 c0 l0 v r := h.imp id Kd.R_drew
theorem XQ.drewN (h : XQ W b ok A0 c0 l0 v r) (m : Nat) : XQ (W.drewN m) b ok A0 c0 l0 v r := h.imp id (fun x => Kd.R_drewN x m)
theorem XQ.alloc (h : XQ W b ok A0 c0 l0 v r) (o : Obj) : XQ (W.alloc o) b ok A0 c0 l0 v r := h.imp id (fun x => Kd.R_alloc x o)
theorem XQ.far (h : XQ W b ok A0 c0 l0 v r) {p : Addr} (hok : ∀ k, ok k → k ≠ p.block) (u : Value) : XQ (W.setCell p u) b ok A0 c0 l0 v r := h.imp id (fun x => Kd.R_far x hok u)
theorem XQ.reads {A : Option Addr} {n c : Nat} (h : XQ W b ok A0 c0 l0 (.slice A n c) r) (hr : Kd.C (Kd.int .i64) W A0 l0.length l0) : Kd.C (Kd.int .i64) W A r.length r := by
  rcases h with ⟨h, rfl⟩ | h
  · injection h with h1 h2 h3
    subst h1
    exact hr
  · exact (Kd.R_reads' h).2.2
end
def rtF (l0 l1 : List Int) (a2 : Int) : Option (List Int) := if l0.length ≤ 12 ∧ l1.length = l0.length * l0.length ∧ 0 ≤ a2 ∧ a2 ≤ 4 then some (rtm l0.length l1 l0 a2.toNat) else none
theorem rt_any (A0 : Option Addr) (c0 : Nat) (l0 : List Int) (A1 : Option Addr) (c1 : Nat) (l1 : List Int) (a2 : Int) (r : List Int) (w : World) (hr0 : Kd.C (Kd.int .i64) w A0 l0.length l0) (hc0 : l0.length ≤ c0) (hr1 : Kd.C (Kd.int .i64) w A1 l1.length l1) (h : rtF l0 l1 a2 = some r) :
    Calls Try.prog 12 #[.slice A0 l0.length c0, .slice A1 l1.length c1, .int .i64 a2] w fun e w' => ∃ v0_ : Value, e = .returned v0_ ∧ XQ w' w.heap.size (fun _ => True) A0 c0 l0 v0_ r ∧ Below w.heap.size w w' := by
  unfold rtF at h
  by_cases c : l0.length ≤ 12 ∧ l1.length = l0.length * l0.length ∧ 0 ≤ a2 ∧ a2 ≤ 4
  · rw [if_pos c] at h
    obtain rfl := Option.some.inj h
    obtain ⟨d1, d2, d3, d4⟩ := c
    obtain ⟨m, rfl⟩ := Int.eq_ofNat_of_zero_le d3
    rw [Int.toNat_natCast]
    refine (rterm_any l0.length l0 l1 A0 c0 A1 c1 w rfl d1 d2 hr0 hc0 hr1 m (by omega)).mono ?_
    rintro x w' ⟨A, c, h1, -, -, h4, h5, h6⟩
    refine ⟨_, h1, ?_, h4⟩
    by_cases h0 : m = 0
    · obtain ⟨rfl, rfl⟩ := h5 h0
      subst h0
      exact .inl ⟨rfl, rfl⟩
    · exact .inr (h6 h0)
  · rw [if_neg c] at h
    cases h
end Go.Proofs.Ytgkncmnkbhgjmaa.Gv
