/- Any draws laid in a grid. -/
import Derived.Test.YtkmdbidjdppdnaaXxSStrataGrid
namespace Go.Proofs.Ytkmdbidjdppdnaa.Pure
open Go.RowKit Go.Proofs.Ytkmdbidjdppdnaa.X
theorem StrataGrid : penumbralaw42_StrataGrid.Pure := by
  unfold penumbralaw42_StrataGrid.Pure
  intros
  rfl
end Go.Proofs.Ytkmdbidjdppdnaa.Pure
