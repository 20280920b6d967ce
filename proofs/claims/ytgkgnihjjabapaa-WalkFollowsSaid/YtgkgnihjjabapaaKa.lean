/- package walk: a path's block, and what its small steps do, by hand. -/
import Derived.Test.YtgkgnihjjabapaaPa
import Derived.Test.YtgkgnihjjabapaaXxF35
import Derived.Deep.RegionHeld3
import Derived.BigQuiet
import Derived.Deep.QuietTactic
import Derived.RegionTactic
import Derived.OwnWalk
import Derived.Laws.EntriesVeiled
namespace Go.Proofs.Ytgkgnihjjabapaa.Gv
open Go.RowKit Go.Proofs.Ytgkgnihjjabapaa.X Go.Proofs.Ytgkgnihjjabapaa.Pl Go.Proofs.Ytgkgnihjjabapaa.Pa Go.Proofs.YtgkgnihjjabapaaW.PrintWords Go.Proofs.YtgkgnihjjabapaaW.PrintLast
/-- a quotient; 0, if there is none -/
def ovr (a b : Int) : Int := if of b = 0 then 0 else of (a * invP b)
theorem ovr_ev (a b : Int) : Ev (fun k => walk_over.f k a b) (ovr a b) := by
  unfold walk_over.f ovr
  by_cases h : of b = 0
  · rw [if_pos h]
    exact Ev.bind (Div_no a b h) (Ev.now _)
  · rw [if_neg h]
    exact Ev.bind (Div_yes a b h) (Ev.now _)
theorem over_any (a b : Int) (w : World) : Calls Try.prog 38 #[.int .i64 a, .int .i64 b] w fun e w' => e = .returned (.int .i64 (ovr a b)) ∧ Below w.heap.size w w' := by
  obtain ⟨K, hK⟩ := ovr_ev a b
  exact walk_over.calls K a b _ w (hK K (Nat.le_refl _))
theorem lit_C (W : World) (xs : List Int) (t : TypeId) (hx : xs.length ≤ 1000) : Kd.C (Kd.int .i64) (W.alloc (.cells (xs.map (Value.int .i64)).toArray t)) (some ⟨W.heap.size, 0, none⟩) xs.length xs := by
  refine Kd.C_of_reads (h1 := fun _ => rfl) (d := (0 : Int)) ⟨rfl, by show xs.length ≤ 9223372036854775807; omega, fun _ => ⟨_, rfl, fun j hj => ?_⟩⟩
  have hh := blk_cell (g := W.heap.size) (t := t) (cs := (xs.map (Value.int .i64)).toArray) (MapKept.heap_alloc W _).1
  have e : (⟨W.heap.size, 0, none⟩ : Addr).add j = ⟨W.heap.size, j, none⟩ := by
    simp [Addr.add]
    omega
  rw [e]
  refine (hh j).trans ?_
  simp [List.getD_eq_getElem?_getD, List.getElem?_eq_getElem hj]
theorem mul_lit (xs : List Int) (t : TypeId) (hx : xs.length ≤ 1000) (n : Nat) (hn : xs.length = n) (W : World) :
    Calls Try.prog 29 #[.slice (some ⟨W.heap.size, 0, none⟩) n n] (W.alloc (.cells (xs.map (Value.int .i64)).toArray t)) fun e w' => e = .returned (.int .i64 (prodl' xs)) ∧ Below W.heap.size W w' := by
  subst hn
  refine (field_Mul.calls _ _ xs (prodl' xs) _ (lit_C W xs t hx) (Nat.le_refl _) rfl).mono ?_
  rintro e w' ⟨rfl, hd⟩
  have h1 : Below W.heap.size W (W.alloc (.cells (xs.map (Value.int .i64)).toArray t)) := Below.alloc (Below.refl _ _) (Nat.le_refl _) _
  exact ⟨rfl, below_then h1 h1.size hd.below⟩
theorem add_lit (xs : List Int) (t : TypeId) (hx : xs.length ≤ 1000) (n : Nat) (hn : xs.length = n) (W : World) :
    Calls Try.prog 30 #[.slice (some ⟨W.heap.size, 0, none⟩) n n] (W.alloc (.cells (xs.map (Value.int .i64)).toArray t)) fun e w' => e = .returned (.int .i64 (suml xs)) ∧ Below W.heap.size W w' := by
  subst hn
  refine (field_Add.calls _ _ xs (suml xs) _ (lit_C W xs t hx) (Nat.le_refl _) rfl).mono ?_
  rintro e w' ⟨rfl, hd⟩
  have h1 : Below W.heap.size W (W.alloc (.cells (xs.map (Value.int .i64)).toArray t)) := Below.alloc (Below.refl _ _) (Nat.le_refl _) _
  exact ⟨rfl, below_then h1 h1.size hd.below⟩
/-- 1 less numbers -/
def rs (l : List Int) : Int := of (1 - suml l)
theorem rest_any (A0 : Option Addr) (c0 : Nat) (l : List Int) (w : World) (hr : Kd.C (Kd.int .i64) w A0 l.length l) (hc : l.length ≤ c0) :
    Calls Try.prog 45 #[.slice A0 l.length c0] w fun e w' => e = .returned (.int .i64 (rs l)) ∧ Drawn0 w w' := by
  have HA := Aside0.mk (field_Add.calls A0 c0 l (suml l) w hr hc rfl)
  have HS := Aside0.mk (fun W => field_Sub.calls 1 (suml l) (rs l) W (Sub_eq 1 (suml l)))
  generalize rs l = z at *
  generalize suml l = y at *
  clear hr
  go_enter Try.func45, Try.ntmps45
  go_wp2_with (first
    | (go_at_call 30; with_reducible refine HA.out.mono ?_; rintro x w1 ⟨rfl, m1, rfl⟩)
    | (go_at_call 39; with_reducible refine (HS.out _).mono ?_; rintro x w2 ⟨rfl, m2, rfl⟩))
  go_ret
  exact ⟨rfl, ⟨_, by first | rfl | (simp [World.drewN]; rfl) | simp [World.drewN, Nat.add_assoc]⟩⟩
/-- what stands in a path's block -/
structure TS where
  i : Nat
  v : Int
  wt : Int
  p : Int
  ov : Bool
/-- a path's block: the rows of its model and of its chances, and its numbers -/
structure Rw where
  aE : Option Addr
  aT : Option Addr
  aG : Option Addr
  aA : Option Addr
  cE : Nat
  cT : Nat
  cG : Nat
  cA : Nat
  E : List Int
  T : List Int
  G : List Int
  A : List Int
  on : Int
  n : Nat
def trO (R : Rw) (s : TS) : Obj := .cells #[.slice R.aE R.E.length R.cE, .slice R.aT R.T.length R.cT, .slice R.aG R.G.length R.cG, .slice R.aA R.A.length R.cA, .int .i64 R.on, .int .i64 (R.n : Int), .int .i64 (s.i : Int), .int .i64 s.v, .int .i64 s.wt, .int .i64 s.p, .bool s.ov] 62 (0, 0)
end Go.Proofs.Ytgkgnihjjabapaa.Gv
