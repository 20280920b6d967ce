-- written by xprint.py (a program of this session, over the kit's print)
import Derived.Test.YtkjgaecjdfgnmaaRows
import Derived.Test.YtkjgaecjdfgnmaaXxL30FieldLaws
import Derived.WalkKit
import Derived.ProofKit
import Derived.OpenShut
import Derived.ShutString
import Derived.ChangeOld
import Derived.Below
import Derived.SizedLaws
namespace Go.Proofs.Ytkjgaecjdfgnmaa.X
open Go.RowKit Go.Proofs.YtkjgaecjdfgnmaaW.PrintWords Go.Proofs.YtkjgaecjdfgnmaaW.PrintLast Go.Proofs.YtkjgaecjdfgnmaaW.PrintMore
set_option linter.unusedVariables false
/-- THE ONE PURE STATEMENT. -/
def penumbralaw30_FieldLaws.Pure : Prop := ∀ (a0_0 : Int) (a0_1 : Int) (a0_2 : Int) (a0_3 : Int) (a0_4 : Int), (Lit.int .i64 a0_0).wf = true → (Lit.int .i64 a0_1).wf = true → (Lit.int .i64 a0_2).wf = true → (Lit.int .u16 a0_3).wf = true → (Lit.int .u16 a0_4).wf = true → ∃ k, penumbralaw30_FieldLaws.f k a0_0 a0_1 a0_2 a0_3 a0_4 = some true
end Go.Proofs.Ytkjgaecjdfgnmaa.X
