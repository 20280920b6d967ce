-- written by xprint.py (a program of this session, over the kit's print)
import Derived.Test.YtaikeldhdbejaaaRows
import Derived.Test.YtaikeldhdbejaaaXxL40ProbeLooks
import Derived.WalkKit
import Derived.ProofKit
import Derived.OpenShut
import Derived.ShutString
import Derived.ChangeOld
import Derived.Below
import Derived.SizedLaws
namespace Go.Proofs.Ytaikeldhdbejaaa.X
open Go.RowKit Go.Proofs.YtaikeldhdbejaaaW.PrintWords Go.Proofs.YtaikeldhdbejaaaW.PrintLast Go.Proofs.YtaikeldhdbejaaaW.PrintMore
set_option linter.unusedVariables false
/-- THE ONE PURE STATEMENT. -/
def penumbralaw40_ProbeLooks.Pure : Prop := ∀ (a0_0 : Int) (a0_1 : Int) (l0_2 : List Nat) (l0_3 : List Int) (a1_0 : Int) (a1_1 : Nat) (a1_2 : Int), (Lit.int .i64 a0_0).wf = true → (Lit.int .i64 a0_1).wf = true → l0_2.length ≤ maxLen → (∀ x ∈ l0_2, (Lit.float .f64 x).wf = true) → l0_3.length ≤ maxLen → (∀ x ∈ l0_3, (Lit.int .i64 x).wf = true) → (Lit.int .i64 a1_0).wf = true → (Lit.float .f64 a1_1).wf = true → (Lit.int .i64 a1_2).wf = true → penumbralaw40_ProbeLooks.f a0_0 a0_1 l0_2 l0_3 a1_0 a1_1 a1_2 = some true
end Go.Proofs.Ytaikeldhdbejaaa.X
