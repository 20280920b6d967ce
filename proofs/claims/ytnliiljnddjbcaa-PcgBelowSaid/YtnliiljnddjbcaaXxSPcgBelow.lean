-- written by xprint.py (a program of this session, over the kit's print)
import Derived.Test.YtnliiljnddjbcaaRows
import Derived.Test.YtnliiljnddjbcaaXxL07PcgBelow
import Derived.WalkKit
import Derived.ProofKit
import Derived.OpenShut
import Derived.ShutString
import Derived.ChangeOld
import Derived.Below
import Derived.SizedLaws
namespace Go.Proofs.Ytnliiljnddjbcaa.X
open Go.RowKit Go.Proofs.YtnliiljnddjbcaaW.PrintWords Go.Proofs.YtnliiljnddjbcaaW.PrintLast Go.Proofs.YtnliiljnddjbcaaW.PrintMore
set_option linter.unusedVariables false
/-- THE ONE PURE STATEMENT. -/
def penumbralaw07_PcgBelow.Pure : Prop := ∀ (a0 : Int) (a1 : Int) (l2 : List Int), (Lit.int .u64 a0).wf = true → (Lit.int .u64 a1).wf = true → l2.length ≤ maxLen → (∀ x ∈ l2, (Lit.int .u32 x).wf = true) → penumbralaw07_PcgBelow.f a0 a1 l2 = some true
end Go.Proofs.Ytnliiljnddjbcaa.X
