/- The law's awake, plain. -/
import Derived.Test.YtgkgnihjjabapaaPq
import Derived.Test.YtgkgnihjjabapaaXxL35awake
namespace Go.Proofs.Ytgkgnihjjabapaa.Pq
open Go.RowKit Go.Proofs.Ytgkgnihjjabapaa.X Go.Proofs.YtgkgnihjjabapaaW.PrintWords
theorem awake35 : Ev (fun _ => penumbralaw35_awake.f) true := Ev.now _
end Go.Proofs.Ytgkgnihjjabapaa.Pq
