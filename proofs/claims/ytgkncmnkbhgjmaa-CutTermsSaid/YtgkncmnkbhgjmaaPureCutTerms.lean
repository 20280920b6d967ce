/- Slots have different places: the walk shows it for every input; nothing is left. -/
import Derived.Test.YtgkncmnkbhgjmaaXxSCutTerms
namespace Go.Proofs.Ytgkncmnkbhgjmaa.Pure
open Go.RowKit Go.Proofs.Ytgkncmnkbhgjmaa.X
theorem CutTerms : penumbralaw36_CutTerms.Pure := by
  unfold penumbralaw36_CutTerms.Pure
  intros
  rfl
end Go.Proofs.Ytgkncmnkbhgjmaa.Pure
