-- written by xprint.py (a program of this session, over the kit's print)
import Derived.Test.YtmpbjmjphapnoaaXx0
import Derived.Test.YtmpbjmjphapnoaaLb
import Derived.Test.YtmpbjmjphapnoaaLc
namespace Go.Proofs.Ytmpbjmjphapnoaa.X
open Go.RowKit Go.Proofs.YtmpbjmjphapnoaaW.PrintWords Go.Proofs.YtmpbjmjphapnoaaW.PrintLast Go.Proofs.YtmpbjmjphapnoaaW.PrintMore
attribute [local go_sem] max2_int min2_int max_two min_two max_three min_three max_four min_four   -- for this text's walks alone
set_option linter.unusedVariables false
set_option linter.unusedSimpArgs false

/-! ### ppm_Decode: function 12 -/
def ppm_Decode.f (a0 : ByteArray) : Option (Int × Int × List Int × Int) := if a0.size ≤ 100000 then some (Gv.decF a0) else none
theorem ppm_Decode.calls (a0 : ByteArray) (r1 : Int) (r2 : Int) (r3 : List Int) (r4 : Int) (w : World) (h : ppm_Decode.f a0 = some (r1, r2, r3, r4)) :
    Calls Try.prog 12 #[.string a0] w fun e w' => ∃ v0_ : Value, e = .returned (.tuple #[.int .i64 r1, .int .i64 r2, v0_, .int .i64 r4]) ∧ Gv.RQ w' w.heap.size v0_ r3 ∧ Below w.heap.size w w' := by
  unfold ppm_Decode.f at h
  by_cases c : a0.size ≤ 100000
  · rw [if_pos c] at h
    exact Gv.decode_any a0 r1 r2 r3 r4 w c (Option.some.inj h)
  · rw [if_neg c] at h
    cases h

/-! ### ppm_Flip: function 14 -/
def ppm_Flip.f (a0 : Int) (a1 : Int) (l2 : List Int) : Option (List Int × Int) := some (Gv.flipF a0 a1 l2)
theorem ppm_Flip.calls (a0 : Int) (a1 : Int) (A2 : Option Addr) (c2 : Nat) (l2 : List Int) (r1 : List Int) (r2 : Int) (w : World) (hr2 : Kd.C (Kd.int .u8) w A2 l2.length l2) (hc2 : l2.length ≤ c2) (h : ppm_Flip.f a0 a1 l2 = some (r1, r2)) :
    Calls Try.prog 14 #[.int .i64 a0, .int .i64 a1, .slice A2 l2.length c2] w fun e w' => ∃ v0_ : Value, e = .returned (.tuple #[v0_, .int .i64 r2]) ∧ Kd.R (Kd.int .u8) 5 w' w.heap.size (fun _ => True) v0_ r1 ∧ Below w.heap.size w w' :=
  Gv.flip_any a0 a1 A2 c2 l2 r1 r2 w hr2 hc2 (Option.some.inj h)

/-! ### ppm_Turn: function 15 -/
def ppm_Turn.f (a0 : Int) (a1 : Int) (l2 : List Int) : Option (List Int × Int) := some (Gv.turnF a0 a1 l2)
theorem ppm_Turn.calls (a0 : Int) (a1 : Int) (A2 : Option Addr) (c2 : Nat) (l2 : List Int) (r1 : List Int) (r2 : Int) (w : World) (hr2 : Kd.C (Kd.int .u8) w A2 l2.length l2) (hc2 : l2.length ≤ c2) (h : ppm_Turn.f a0 a1 l2 = some (r1, r2)) :
    Calls Try.prog 15 #[.int .i64 a0, .int .i64 a1, .slice A2 l2.length c2] w fun e w' => ∃ v0_ : Value, e = .returned (.tuple #[v0_, .int .i64 r2]) ∧ Kd.R (Kd.int .u8) 5 w' w.heap.size (fun _ => True) v0_ r1 ∧ Below w.heap.size w w' :=
  Gv.turn_any a0 a1 A2 c2 l2 r1 r2 w hr2 hc2 (Option.some.inj h)

end Go.Proofs.Ytmpbjmjphapnoaa.X
