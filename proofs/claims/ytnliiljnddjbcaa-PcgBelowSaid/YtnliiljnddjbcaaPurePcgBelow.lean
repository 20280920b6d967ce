/- Numbers below any number: the walk shows it for every input; what is left are the numbers' ranges. -/
import Derived.Test.YtnliiljnddjbcaaXxSPcgBelow
namespace Go.Proofs.Ytnliiljnddjbcaa.Pure
open Go.RowKit Go.Proofs.Ytnliiljnddjbcaa.X
theorem u32_range {x : Int} (h : (Lit.int .u32 x).wf = true) : 0 ≤ x ∧ x < 4294967296 := by
  simp [Lit.wf, IntKind.min, IntKind.max, IntKind.signed, IntKind.bits] at h
  omega
theorem PcgBelow : penumbralaw07_PcgBelow.Pure := by
  unfold penumbralaw07_PcgBelow.Pure
  intro a d l _ _ _ hl
  unfold penumbralaw07_PcgBelow.f
  refine if_pos (fun i hi => u32_range (hl _ ?_))
  simp [List.getD_eq_getElem?_getD, hi]
end Go.Proofs.Ytnliiljnddjbcaa.Pure
