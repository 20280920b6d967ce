/- What any draw counts as: the walk shows it for every input; nothing is left. -/
import Derived.Test.YtedifkidnpaejaaXxSTapeCleans
namespace Go.Proofs.Ytedifkidnpaejaa.Pure
open Go.RowKit Go.Proofs.Ytedifkidnpaejaa.X
theorem TapeCleans : penumbralaw06_TapeCleans.Pure := by
  unfold penumbralaw06_TapeCleans.Pure
  intros
  rfl
end Go.Proofs.Ytedifkidnpaejaa.Pure
