-- written by xprint.py (a program of this session, over the kit's print)
import Derived.Test.YtedifkidnpaejaaRows
import Derived.Test.YtedifkidnpaejaaXxL06TapeTells
import Derived.WalkKit
import Derived.ProofKit
import Derived.OpenShut
import Derived.ShutString
import Derived.ChangeOld
import Derived.Below
import Derived.SizedLaws
namespace Go.Proofs.Ytedifkidnpaejaa.X
open Go.RowKit Go.Proofs.YtedifkidnpaejaaW.PrintWords Go.Proofs.YtedifkidnpaejaaW.PrintLast Go.Proofs.YtedifkidnpaejaaW.PrintMore
set_option linter.unusedVariables false
/-- THE ONE PURE STATEMENT. -/
def penumbralaw06_TapeTells.Pure : Prop := ∀ (l0 : List Nat) (l1 : List Int), l0.length ≤ maxLen → (∀ x ∈ l0, (Lit.float .f64 x).wf = true) → l1.length ≤ maxLen → (∀ x ∈ l1, (Lit.int .i64 x).wf = true) → penumbralaw06_TapeTells.f l0 l1 = some true
end Go.Proofs.Ytedifkidnpaejaa.X
