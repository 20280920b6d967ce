-- written by xprint.py (a program of this session, over the kit's print)
import Derived.Test.YtkmdbidjdppdnaaRows
import Derived.Test.YtkmdbidjdppdnaaXxL42StrataCounts
import Derived.WalkKit
import Derived.ProofKit
import Derived.OpenShut
import Derived.ShutString
import Derived.ChangeOld
import Derived.Below
import Derived.SizedLaws
namespace Go.Proofs.Ytkmdbidjdppdnaa.X
open Go.RowKit Go.Proofs.YtkmdbidjdppdnaaW.PrintWords Go.Proofs.YtkmdbidjdppdnaaW.PrintLast Go.Proofs.YtkmdbidjdppdnaaW.PrintMore
set_option linter.unusedVariables false
/-- THE ONE PURE STATEMENT. -/
def penumbralaw42_StrataCounts.Pure : Prop := ∀ (a0 : Int) (l1 : List (Nat × Nat)), (Lit.int .i64 a0).wf = true → l1.length ≤ maxLen → penumbralaw42_StrataCounts.f a0 l1 = some true
end Go.Proofs.Ytkmdbidjdppdnaa.X
