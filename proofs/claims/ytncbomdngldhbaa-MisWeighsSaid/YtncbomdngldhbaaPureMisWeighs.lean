/- How much any two ways count: the walk shows it for every input; nothing is left. -/
import Derived.Test.YtncbomdngldhbaaXxSMisWeighs
namespace Go.Proofs.Ytncbomdngldhbaa.Pure
open Go.RowKit Go.Proofs.Ytncbomdngldhbaa.X
theorem MisWeighs : penumbralaw25_MisWeighs.Pure := by
  unfold penumbralaw25_MisWeighs.Pure
  intros
  rfl
end Go.Proofs.Ytncbomdngldhbaa.Pure
