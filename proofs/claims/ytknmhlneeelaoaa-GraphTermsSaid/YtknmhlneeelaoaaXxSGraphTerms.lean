-- written by xprint.py (a program of this session, over the kit's print)
import Derived.Test.YtknmhlneeelaoaaRows
import Derived.Test.YtknmhlneeelaoaaXxL32GraphTerms
import Derived.WalkKit
import Derived.ProofKit
import Derived.OpenShut
import Derived.ShutString
import Derived.ChangeOld
import Derived.Below
import Derived.SizedLaws
namespace Go.Proofs.Ytknmhlneeelaoaa.X
open Go.RowKit Go.Proofs.YtknmhlneeelaoaaW.PrintWords Go.Proofs.YtknmhlneeelaoaaW.PrintLast Go.Proofs.YtknmhlneeelaoaaW.PrintMore
set_option linter.unusedVariables false
/-- THE ONE PURE STATEMENT. -/
def penumbralaw32_GraphTerms.Pure : Prop := ∀ (l0_0 : List Int) (l0_1 : List Int) (a1 : Int) (l2 : List Int), l0_0.length ≤ maxLen → (∀ x ∈ l0_0, (Lit.int .i64 x).wf = true) → l0_1.length ≤ maxLen → (∀ x ∈ l0_1, (Lit.int .i64 x).wf = true) → (Lit.int .i64 a1).wf = true → l2.length ≤ maxLen → (∀ x ∈ l2, (Lit.int .i64 x).wf = true) → ∃ k, penumbralaw32_GraphTerms.f k l0_0 l0_1 a1 l2 = some true
end Go.Proofs.Ytknmhlneeelaoaa.X
