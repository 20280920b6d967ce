-- written by xprint.py (a program of this session, over the kit's print)
import Derived.Test.YtncbomdngldhbaaRows
import Derived.Test.YtncbomdngldhbaaXxL25MisMore
import Derived.WalkKit
import Derived.ProofKit
import Derived.OpenShut
import Derived.ShutString
import Derived.ChangeOld
import Derived.Below
import Derived.SizedLaws
namespace Go.Proofs.Ytncbomdngldhbaa.X
open Go.RowKit Go.Proofs.YtncbomdngldhbaaW.PrintWords Go.Proofs.YtncbomdngldhbaaW.PrintLast Go.Proofs.YtncbomdngldhbaaW.PrintMore
set_option linter.unusedVariables false
/-- THE ONE PURE STATEMENT. -/
def penumbralaw25_MisMore.Pure : Prop := ∀ (a0_0 : Bool) (a0_1 : Nat) (a0_2 : Nat) (a0_3 : Nat), (Lit.float .f64 a0_1).wf = true → (Lit.float .f64 a0_2).wf = true → (Lit.float .f64 a0_3).wf = true → penumbralaw25_MisMore.f a0_0 a0_1 a0_2 a0_3 = some true
end Go.Proofs.Ytncbomdngldhbaa.X
