-- written by xprint.py (a program of this session, over the kit's print)
import Derived.Test.YtknmhlneeelaoaaRows
import Derived.Test.YtknmhlneeelaoaaXxL32GraphMixes
import Derived.WalkKit
import Derived.ProofKit
import Derived.OpenShut
import Derived.ShutString
import Derived.ChangeOld
import Derived.Below
import Derived.SizedLaws
namespace Go.Proofs.Ytknmhlneeelaoaa.X
open Go.RowKit Go.Proofs.YtknmhlneeelaoaaW.PrintWords Go.Proofs.YtknmhlneeelaoaaW.PrintLast Go.Proofs.YtknmhlneeelaoaaW.PrintMore
set_option linter.unusedVariables false
/-- THE ONE PURE STATEMENT. -/
def penumbralaw32_GraphMixes.Pure : Prop := ∀ (l0_0 : List Int) (l0_1 : List Int) (l0_2 : List Int) (a0_3 : Int) (a0_4 : Int) (a0_5 : Int), l0_0.length ≤ maxLen → (∀ x ∈ l0_0, (Lit.int .i64 x).wf = true) → l0_1.length ≤ maxLen → (∀ x ∈ l0_1, (Lit.int .i64 x).wf = true) → l0_2.length ≤ maxLen → (∀ x ∈ l0_2, (Lit.int .i64 x).wf = true) → (Lit.int .i64 a0_3).wf = true → (Lit.int .i64 a0_4).wf = true → (Lit.int .u8 a0_5).wf = true → ∃ k, penumbralaw32_GraphMixes.f k l0_0 l0_1 l0_2 a0_3 a0_4 a0_5 = some true
end Go.Proofs.Ytknmhlneeelaoaa.X
