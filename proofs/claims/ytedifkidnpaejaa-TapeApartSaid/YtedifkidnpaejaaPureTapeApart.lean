/- Slots have different places: the walk shows it for every input; nothing is left. -/
import Derived.Test.YtedifkidnpaejaaXxSTapeApart
namespace Go.Proofs.Ytedifkidnpaejaa.Pure
open Go.RowKit Go.Proofs.Ytedifkidnpaejaa.X
theorem TapeApart : penumbralaw06_TapeApart.Pure := by
  unfold penumbralaw06_TapeApart.Pure
  intros
  rfl
end Go.Proofs.Ytedifkidnpaejaa.Pure
