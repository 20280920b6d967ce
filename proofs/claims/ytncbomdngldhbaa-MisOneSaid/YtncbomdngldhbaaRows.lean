/-
  No cell of these rows narrows 'for every input' (looked for: loops, veiled, ifaces, maps, wideKeys, modest, calm, conditions, laid).
  DERIVED. THE GIVEN ROWS OF THIS SEAT. 3 by the template 'for every input the law returns true; each argument reads behind the call as it read before'; 0 by the template 'total and deterministic' (their statements: YtncbomdngldhbaaTotals.lean).
  GIVEN WITH THE SEED: the statements are not yours to turn. If you find one false, say at which input.
  Laid BY PROGRAM, IN A SANDBOX (cutbox-rows.mjs): the forced cells as the released guide's own fill.sh prints them over the translation 176d721af21cc75b… (all of the seat's roots in one cut). By AI agents, Wed Nov 11 2026. No macro, syntax, notation, axiom, sorry.
-/
import Derived.Test.YtncbomdngldhbaaChecked
import GoSem.Claim
import GoSem.ClaimJoined
import GoSem.ClaimMapViews
import Derived.JoinedTies
import Derived.KernelRfl
namespace Go.Proofs.Ytncbomdngldhbaa
/- THE CELL 'sum', in the pinned program and in every row, IS THE sha256 OF THE DUMP (.gsa) THAT YtncbomdngldhbaaProg.lean LOADS. Nothing in Lean hashes anything: it is a label: what it is worth is what the hold of that sum in a sandbox is worth. -/
noncomputable def Try.pinned : Pinned := { name := "ytncbomdngldhbaa", sum := "176d721af21cc75b7267c7db3581c64726f66290e10ff17dbd7f0be20e329497", checked := Try.checked }
namespace Rows
def none {H : Type} : Left H := { results := [], args := [] }

/-- 'penumbralaw25.MisMore': WHATEVER THE INPUT: true; the input reads as it did. -/
def misMoreSpec : ChangeSpec := { name := "misMore", fn := fun _ => fun
  | [d] => { results := [.lit (.bool true)], args := [d] }
  | _ => none }
def misMoreRow : OpenClaim := { program := "ytncbomdngldhbaa", sum := "176d721af21cc75b7267c7db3581c64726f66290e10ff17dbd7f0be20e329497", func := "penumbra/penumbralaw25.MisMore", spec := "misMore", unfollowed := true, recurses := true, apart := false }
def MisMoreSaid : Prop := misMoreRow.holds Try.pinned (OpenSpec.ofChange misMoreSpec)

/-- ITS FALSE NEIGHBOUR: 'it returns false'. Refute it at one input. -/
def misMoreWrong : ChangeSpec := { name := "misMore", fn := fun _ => fun
  | [d] => { results := [.lit (.bool false)], args := [d] }
  | _ => none }
def MisMoreWrongFalsely : Prop := misMoreRow.holds Try.pinned (OpenSpec.ofChange misMoreWrong)

/-- 'penumbralaw25.MisWeighs': WHATEVER THE INPUT: true; the input reads as it did. -/
def misWeighsSpec : ChangeSpec := { name := "misWeighs", fn := fun _ => fun
  | [d1, d2, d3] => { results := [.lit (.bool true)], args := [d1, d2, d3] }
  | _ => none }
def misWeighsRow : OpenClaim := { program := "ytncbomdngldhbaa", sum := "176d721af21cc75b7267c7db3581c64726f66290e10ff17dbd7f0be20e329497", func := "penumbra/penumbralaw25.MisWeighs", spec := "misWeighs", unfollowed := true, recurses := true, apart := false }
def MisWeighsSaid : Prop := misWeighsRow.holds Try.pinned (OpenSpec.ofChange misWeighsSpec)

/-- ITS FALSE NEIGHBOUR: 'it returns false'. Refute it at one input. -/
def misWeighsWrong : ChangeSpec := { name := "misWeighs", fn := fun _ => fun
  | [d1, d2, d3] => { results := [.lit (.bool false)], args := [d1, d2, d3] }
  | _ => none }
def MisWeighsWrongFalsely : Prop := misWeighsRow.holds Try.pinned (OpenSpec.ofChange misWeighsWrong)

/-- 'penumbralaw25.MisOne': WHATEVER THE INPUT: true; the input reads as it did. -/
def misOneSpec : ChangeSpec := { name := "misOne", fn := fun _ => fun
  | [d1, d2, d3] => { results := [.lit (.bool true)], args := [d1, d2, d3] }
  | _ => none }
def misOneRow : OpenClaim := { program := "ytncbomdngldhbaa", sum := "176d721af21cc75b7267c7db3581c64726f66290e10ff17dbd7f0be20e329497", func := "penumbra/penumbralaw25.MisOne", spec := "misOne", unfollowed := true, recurses := true, apart := false }
def MisOneSaid : Prop := misOneRow.holds Try.pinned (OpenSpec.ofChange misOneSpec)

/-- ITS FALSE NEIGHBOUR: 'it returns false'. Refute it at one input. -/
def misOneWrong : ChangeSpec := { name := "misOne", fn := fun _ => fun
  | [d1, d2, d3] => { results := [.lit (.bool false)], args := [d1, d2, d3] }
  | _ => none }
def MisOneWrongFalsely : Prop := misOneRow.holds Try.pinned (OpenSpec.ofChange misOneWrong)

/- THE SECOND FORM. 'bulk': how many values and letters a reading holds, each counted each time it is reached (what is shared counts as often as it is met; a slice's spare places count too). A statement '..UptoSaid' is the law's where the arguments, and the package variables that the reading takes, are together of bulk at most 1048576: NARROWER than '..Said'. Prove '..Said' where nothing that the law and all that it calls make is longer than what came in: it says more and counts as full. Else prove '..UptoSaid'. A law counts once. -/
mutual
def uptoBulk {H : Type} : DataW H → Nat
  | .lit (.string bytes) => bytes.length + 1
  | .lit _ => 1
  | .nil => 1
  | .ptr d => uptoBulk d + 1
  | .slice elems spare => uptoBulkAll elems + uptoBulkAll spare + 1
  | .agg parts => uptoBulkAll parts + 1
  | .iface _ d => uptoBulk d + 1
  | .map entries => uptoBulkEntries entries + 1
  | .held _ => 1
def uptoBulkAll {H : Type} : List (DataW H) → Nat
  | [] => 0
  | d :: r => uptoBulk d + uptoBulkAll r
def uptoBulkEntries {H : Type} : List (Lit × DataW H) → Nat
  | [] => 0
  | x :: r => uptoBulkEntry x + uptoBulkEntries r
def uptoBulkEntry {H : Type} : Lit × DataW H → Nat
  | (.string bytes, d) => bytes.length + uptoBulk d + 1
  | (_, d) => uptoBulk d + 1
 end
def uptoSmall : (H : Type) → List (DataW H) → Bool := fun _ ds => decide (uptoBulkAll ds ≤ 1048576)
def OpenSpec.upto (s : _root_.Go.ChangeSpec) : _root_.Go.OpenSpec := { _root_.Go.OpenSpec.ofChange s with cond := some uptoSmall }

/-- 'penumbralaw25.MisMore', WHERE WHAT IT READS IS OF BULK AT MOST 1048576: true; the input reads as it did. -/
def misMoreUptoRow : OpenClaim := { program := "ytncbomdngldhbaa", sum := "176d721af21cc75b7267c7db3581c64726f66290e10ff17dbd7f0be20e329497", func := "penumbra/penumbralaw25.MisMore", spec := "misMore", unfollowed := true, recurses := true, apart := false, narrowed := true }
def MisMoreUptoSaid : Prop := misMoreUptoRow.holds Try.pinned (OpenSpec.upto misMoreSpec)

/-- 'penumbralaw25.MisWeighs', WHERE WHAT IT READS IS OF BULK AT MOST 1048576: true; the input reads as it did. -/
def misWeighsUptoRow : OpenClaim := { program := "ytncbomdngldhbaa", sum := "176d721af21cc75b7267c7db3581c64726f66290e10ff17dbd7f0be20e329497", func := "penumbra/penumbralaw25.MisWeighs", spec := "misWeighs", unfollowed := true, recurses := true, apart := false, narrowed := true }
def MisWeighsUptoSaid : Prop := misWeighsUptoRow.holds Try.pinned (OpenSpec.upto misWeighsSpec)

/-- 'penumbralaw25.MisOne', WHERE WHAT IT READS IS OF BULK AT MOST 1048576: true; the input reads as it did. -/
def misOneUptoRow : OpenClaim := { program := "ytncbomdngldhbaa", sum := "176d721af21cc75b7267c7db3581c64726f66290e10ff17dbd7f0be20e329497", func := "penumbra/penumbralaw25.MisOne", spec := "misOne", unfollowed := true, recurses := true, apart := false, narrowed := true }
def MisOneUptoSaid : Prop := misOneUptoRow.holds Try.pinned (OpenSpec.upto misOneSpec)

end Rows
end Go.Proofs.Ytncbomdngldhbaa
