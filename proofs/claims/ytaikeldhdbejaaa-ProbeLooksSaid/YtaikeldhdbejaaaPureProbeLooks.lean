/- Any row of any picture: the walk shows it for every input; nothing is left. -/
import Derived.Test.YtaikeldhdbejaaaXxSProbeLooks
namespace Go.Proofs.Ytaikeldhdbejaaa.Pure
open Go.RowKit Go.Proofs.Ytaikeldhdbejaaa.X
theorem ProbeLooks : penumbralaw40_ProbeLooks.Pure := by
  unfold penumbralaw40_ProbeLooks.Pure
  intros
  rfl
end Go.Proofs.Ytaikeldhdbejaaa.Pure
