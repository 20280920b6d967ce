/- Any row of any picture: the walk shows it for every input; nothing is left. -/
import Derived.Test.YtaikeldhdbejaaaXxSProbeApart
namespace Go.Proofs.Ytaikeldhdbejaaa.Pure
open Go.RowKit Go.Proofs.Ytaikeldhdbejaaa.X
theorem ProbeApart : penumbralaw40_ProbeApart.Pure := by
  unfold penumbralaw40_ProbeApart.Pure
  intros
  rfl
end Go.Proofs.Ytaikeldhdbejaaa.Pure
