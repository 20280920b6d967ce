/- The draws of any tape: the walk shows it for every input; nothing is left. -/
import Derived.Test.YtedifkidnpaejaaXxSTapeTells
namespace Go.Proofs.Ytedifkidnpaejaa.Pure
open Go.RowKit Go.Proofs.Ytedifkidnpaejaa.X
theorem TapeTells : penumbralaw06_TapeTells.Pure := by
  unfold penumbralaw06_TapeTells.Pure
  intros
  rfl
end Go.Proofs.Ytedifkidnpaejaa.Pure
