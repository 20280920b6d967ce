-- written by xprint.py (a program of this session, over the kit's print)
import Derived.Test.YtbjjjbjhpcdgmaaRows
import Derived.Test.YtbjjjbjhpcdgmaaXxL33SeriesSums
import Derived.WalkKit
import Derived.ProofKit
import Derived.OpenShut
import Derived.ShutString
import Derived.ChangeOld
import Derived.Below
import Derived.SizedLaws
namespace Go.Proofs.Ytbjjjbjhpcdgmaa.X
open Go.RowKit Go.Proofs.YtbjjjbjhpcdgmaaW.PrintWords Go.Proofs.YtbjjjbjhpcdgmaaW.PrintLast Go.Proofs.YtbjjjbjhpcdgmaaW.PrintMore
set_option linter.unusedVariables false
/-- THE ONE PURE STATEMENT. -/
def penumbralaw33_SeriesSums.Pure : Prop := ∀ (l0_0 : List Int) (l0_1 : List Int) (a1 : Int) (l2 : List Int), l0_0.length ≤ maxLen → (∀ x ∈ l0_0, (Lit.int .i64 x).wf = true) → l0_1.length ≤ maxLen → (∀ x ∈ l0_1, (Lit.int .i64 x).wf = true) → (Lit.int .i64 a1).wf = true → l2.length ≤ maxLen → (∀ x ∈ l2, (Lit.int .i64 x).wf = true) → ∃ k, penumbralaw33_SeriesSums.f k l0_0 l0_1 a1 l2 = some true
end Go.Proofs.Ytbjjjbjhpcdgmaa.X
