-- written by xprint.py (a program of this session, over the kit's print)
import Derived.Test.YtnliiljnddjbcaaXx0
import Derived.Test.YtnliiljnddjbcaaHd
namespace Go.Proofs.Ytnliiljnddjbcaa.X
open Go.RowKit Go.Proofs.YtnliiljnddjbcaaW.PrintWords Go.Proofs.YtnliiljnddjbcaaW.PrintLast Go.Proofs.YtnliiljnddjbcaaW.PrintMore
attribute [local go_sem] max2_int min2_int max_two min_two max_three min_three max_four min_four   -- for this text's walks alone
set_option linter.unusedVariables false
set_option linter.unusedSimpArgs false

/-! ### penumbralaw07_PcgBelow: function 3 -/
def penumbralaw07_PcgBelow.f (a0 : Int) (a1 : Int) (l2 : List Int) : Option Bool := if ∀ i, i < l2.length → 0 ≤ l2.getD i 0 ∧ l2.getD i 0 < 4294967296 then some true else none
theorem penumbralaw07_PcgBelow.calls (a0 : Int) (a1 : Int) (A2 : Option Addr) (c2 : Nat) (l2 : List Int) (r : Bool) (w : World) (hr2 : Kd.C (Kd.int .u32) w A2 l2.length l2) (hc2 : l2.length ≤ c2) (h : penumbralaw07_PcgBelow.f a0 a1 l2 = some r) (hr_ : r = true) :
    Calls Try.prog 3 #[.int .u64 a0, .int .u64 a1, .slice A2 l2.length c2] w fun e w' => e = .returned (.bool r) ∧ Below w.heap.size w w' := by
  subst hr_
  unfold penumbralaw07_PcgBelow.f at h
  by_cases c : ∀ i, i < l2.length → 0 ≤ l2.getD i 0 ∧ l2.getD i 0 < 4294967296
  · exact Gv.pcgBelow_any a0 a1 l2 A2 c2 w c hr2
  · rw [if_neg c] at h
    cases h

end Go.Proofs.Ytnliiljnddjbcaa.X
