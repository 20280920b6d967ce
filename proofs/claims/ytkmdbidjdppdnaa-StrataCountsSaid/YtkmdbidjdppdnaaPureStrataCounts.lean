/- How many of any draws lie in each cell. -/
import Derived.Test.YtkmdbidjdppdnaaXxSStrataCounts
namespace Go.Proofs.Ytkmdbidjdppdnaa.Pure
open Go.RowKit Go.Proofs.Ytkmdbidjdppdnaa.X
theorem StrataCounts : penumbralaw42_StrataCounts.Pure := by
  unfold penumbralaw42_StrataCounts.Pure
  intros
  rfl
end Go.Proofs.Ytkmdbidjdppdnaa.Pure
