/- Any row of any picture: the walk shows it for every input; nothing is left. -/
import Derived.Test.YtaikeldhdbejaaaXxSProbeRows
namespace Go.Proofs.Ytaikeldhdbejaaa.Pure
open Go.RowKit Go.Proofs.Ytaikeldhdbejaaa.X
theorem ProbeRows : penumbralaw40_ProbeRows.Pure := by
  unfold penumbralaw40_ProbeRows.Pure
  intros
  rfl
end Go.Proofs.Ytaikeldhdbejaaa.Pure
