/- Both weights together are 1, as near as numbers are: the walk shows it for every input; nothing is left. -/
import Derived.Test.YtncbomdngldhbaaXxSMisOne
namespace Go.Proofs.Ytncbomdngldhbaa.Pure
open Go.RowKit Go.Proofs.Ytncbomdngldhbaa.X
theorem MisOne : penumbralaw25_MisOne.Pure := by
  unfold penumbralaw25_MisOne.Pure
  intros
  rfl
end Go.Proofs.Ytncbomdngldhbaa.Pure
