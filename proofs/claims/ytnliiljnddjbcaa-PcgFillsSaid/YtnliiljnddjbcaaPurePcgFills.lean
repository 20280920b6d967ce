/- Draws below 1: the walk shows it for every input; nothing is left. -/
import Derived.Test.YtnliiljnddjbcaaXxSPcgFills
namespace Go.Proofs.Ytnliiljnddjbcaa.Pure
open Go.RowKit Go.Proofs.Ytnliiljnddjbcaa.X
theorem PcgFills : penumbralaw07_PcgFills.Pure := by
  unfold penumbralaw07_PcgFills.Pure
  intros
  rfl
end Go.Proofs.Ytnliiljnddjbcaa.Pure
