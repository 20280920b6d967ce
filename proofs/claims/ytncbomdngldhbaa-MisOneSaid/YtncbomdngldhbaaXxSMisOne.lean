-- written by xprint.py (a program of this session, over the kit's print)
import Derived.Test.YtncbomdngldhbaaRows
import Derived.Test.YtncbomdngldhbaaXxL25MisOne
import Derived.WalkKit
import Derived.ProofKit
import Derived.OpenShut
import Derived.ShutString
import Derived.ChangeOld
import Derived.Below
import Derived.SizedLaws
namespace Go.Proofs.Ytncbomdngldhbaa.X
open Go.RowKit Go.Proofs.YtncbomdngldhbaaW.PrintWords Go.Proofs.YtncbomdngldhbaaW.PrintLast Go.Proofs.YtncbomdngldhbaaW.PrintMore
set_option linter.unusedVariables false
/-- THE ONE PURE STATEMENT. -/
def penumbralaw25_MisOne.Pure : Prop := ∀ (a0 : Bool) (a1 : Nat) (a2 : Nat), (Lit.float .f64 a1).wf = true → (Lit.float .f64 a2).wf = true → penumbralaw25_MisOne.f a0 a1 a2 = some true
end Go.Proofs.Ytncbomdngldhbaa.X
