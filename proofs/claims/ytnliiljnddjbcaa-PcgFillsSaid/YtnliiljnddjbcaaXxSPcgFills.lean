-- written by xprint.py (a program of this session, over the kit's print)
import Derived.Test.YtnliiljnddjbcaaRows
import Derived.Test.YtnliiljnddjbcaaXxL07PcgFills
import Derived.WalkKit
import Derived.ProofKit
import Derived.OpenShut
import Derived.ShutString
import Derived.ChangeOld
import Derived.Below
import Derived.SizedLaws
namespace Go.Proofs.Ytnliiljnddjbcaa.X
open Go.RowKit Go.Proofs.YtnliiljnddjbcaaW.PrintWords Go.Proofs.YtnliiljnddjbcaaW.PrintLast Go.Proofs.YtnliiljnddjbcaaW.PrintMore
set_option linter.unusedVariables false
/-- THE ONE PURE STATEMENT. -/
def penumbralaw07_PcgFills.Pure : Prop := ∀ (a0 : Int) (a1 : Int) (a2 : Int), (Lit.int .u64 a0).wf = true → (Lit.int .u64 a1).wf = true → (Lit.int .i64 a2).wf = true → penumbralaw07_PcgFills.f a0 a1 a2 = some true
end Go.Proofs.Ytnliiljnddjbcaa.X
