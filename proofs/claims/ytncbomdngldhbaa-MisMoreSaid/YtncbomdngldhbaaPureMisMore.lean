/- Who is more probable counts no less: the walk shows it for every input; nothing is left. -/
import Derived.Test.YtncbomdngldhbaaXxSMisMore
namespace Go.Proofs.Ytncbomdngldhbaa.Pure
open Go.RowKit Go.Proofs.Ytncbomdngldhbaa.X
theorem MisMore : penumbralaw25_MisMore.Pure := by
  unfold penumbralaw25_MisMore.Pure
  intros
  rfl
end Go.Proofs.Ytncbomdngldhbaa.Pure
