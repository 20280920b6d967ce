-- written by xprint.py (a program of this session, over the kit's print)
import Derived.Test.YtgkncmnkbhgjmaaRows
import Derived.Test.YtgkncmnkbhgjmaaXxL36CutLost
import Derived.WalkKit
import Derived.ProofKit
import Derived.OpenShut
import Derived.ShutString
import Derived.ChangeOld
import Derived.Below
import Derived.SizedLaws
namespace Go.Proofs.Ytgkncmnkbhgjmaa.X
open Go.RowKit Go.Proofs.YtgkncmnkbhgjmaaW.PrintWords Go.Proofs.YtgkncmnkbhgjmaaW.PrintLast Go.Proofs.YtgkncmnkbhgjmaaW.PrintMore
set_option linter.unusedVariables false
/-- THE ONE PURE STATEMENT. -/
def penumbralaw36_CutLost.Pure : Prop := ∀ (l0_0 : List Int) (l0_1 : List Int) (a0_2 : Int) (a0_3 : Int) (a0_4 : Int), l0_0.length ≤ maxLen → (∀ x ∈ l0_0, (Lit.int .i64 x).wf = true) → l0_1.length ≤ maxLen → (∀ x ∈ l0_1, (Lit.int .i64 x).wf = true) → (Lit.int .i64 a0_2).wf = true → (Lit.int .i64 a0_3).wf = true → (Lit.int .i64 a0_4).wf = true → ∃ k, penumbralaw36_CutLost.f k l0_0 l0_1 a0_2 a0_3 a0_4 = some true
end Go.Proofs.Ytgkncmnkbhgjmaa.X
