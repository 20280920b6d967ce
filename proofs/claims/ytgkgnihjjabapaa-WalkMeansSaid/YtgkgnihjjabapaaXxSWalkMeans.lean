-- written by xprint.py (a program of this session, over the kit's print)
import Derived.Test.YtgkgnihjjabapaaRows
import Derived.Test.YtgkgnihjjabapaaXxL35WalkMeans
import Derived.WalkKit
import Derived.ProofKit
import Derived.OpenShut
import Derived.ShutString
import Derived.ChangeOld
import Derived.Below
import Derived.SizedLaws
namespace Go.Proofs.Ytgkgnihjjabapaa.X
open Go.RowKit Go.Proofs.YtgkgnihjjabapaaW.PrintWords Go.Proofs.YtgkgnihjjabapaaW.PrintLast Go.Proofs.YtgkgnihjjabapaaW.PrintMore
set_option linter.unusedVariables false
/-- THE ONE PURE STATEMENT. -/
def penumbralaw35_WalkMeans.Pure : Prop := ∀ (l0_0 : List Int) (l0_1 : List Int) (l1_0 : List Int) (l1_1 : List Int) (a1_2 : Int) (a2 : Int), l0_0.length ≤ maxLen → (∀ x ∈ l0_0, (Lit.int .i64 x).wf = true) → l0_1.length ≤ maxLen → (∀ x ∈ l0_1, (Lit.int .i64 x).wf = true) → l1_0.length ≤ maxLen → (∀ x ∈ l1_0, (Lit.int .i64 x).wf = true) → l1_1.length ≤ maxLen → (∀ x ∈ l1_1, (Lit.int .i64 x).wf = true) → (Lit.int .i64 a1_2).wf = true → (Lit.int .i64 a2).wf = true → ∃ k, penumbralaw35_WalkMeans.f k l0_0 l0_1 l1_0 l1_1 a1_2 a2 = some true
end Go.Proofs.Ytgkgnihjjabapaa.X
