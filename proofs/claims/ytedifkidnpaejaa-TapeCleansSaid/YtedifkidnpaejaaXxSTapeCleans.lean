-- written by xprint.py (a program of this session, over the kit's print)
import Derived.Test.YtedifkidnpaejaaRows
import Derived.Test.YtedifkidnpaejaaXxL06TapeCleans
import Derived.WalkKit
import Derived.ProofKit
import Derived.OpenShut
import Derived.ShutString
import Derived.ChangeOld
import Derived.Below
import Derived.SizedLaws
namespace Go.Proofs.Ytedifkidnpaejaa.X
open Go.RowKit Go.Proofs.YtedifkidnpaejaaW.PrintWords Go.Proofs.YtedifkidnpaejaaW.PrintLast Go.Proofs.YtedifkidnpaejaaW.PrintMore
set_option linter.unusedVariables false
/-- THE ONE PURE STATEMENT. -/
def penumbralaw06_TapeCleans.Pure : Prop := ∀ (a0 : Nat), (Lit.float .f64 a0).wf = true → penumbralaw06_TapeCleans.f a0 = some true
end Go.Proofs.Ytedifkidnpaejaa.X
