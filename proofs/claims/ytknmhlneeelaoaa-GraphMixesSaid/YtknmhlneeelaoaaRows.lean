/-
  No cell of these rows narrows 'for every input' (looked for: loops, veiled, ifaces, maps, wideKeys, modest, calm, conditions, laid).
  DERIVED. THE GIVEN ROWS OF THIS SEAT. 3 by the template 'for every input the law returns true; each argument reads behind the call as it read before'; 0 by the template 'total and deterministic' (their statements: YtknmhlneeelaoaaTotals.lean).
  GIVEN WITH THE SEED: the statements are not yours to turn. If you find one false, say at which input.
  Laid BY PROGRAM, IN A SANDBOX (cutbox-rows.mjs): the forced cells as the released guide's own fill.sh prints them over the translation d6fa188b56c30741… (all of the seat's roots in one cut). By AI agents, Wed Nov 11 2026. No macro, syntax, notation, axiom, sorry.
-/
import Derived.Test.YtknmhlneeelaoaaChecked
import GoSem.Claim
import GoSem.ClaimJoined
import GoSem.ClaimMapViews
import Derived.JoinedTies
import Derived.KernelRfl
namespace Go.Proofs.Ytknmhlneeelaoaa
/- THE CELL 'sum', in the pinned program and in every row, IS THE sha256 OF THE DUMP (.gsa) THAT YtknmhlneeelaoaaProg.lean LOADS. Nothing in Lean hashes anything: it is a label: what it is worth is what the hold of that sum in a sandbox is worth. -/
noncomputable def Try.pinned : Pinned := { name := "ytknmhlneeelaoaa", sum := "d6fa188b56c30741a30ee6f716f1de6a5f5e4bda61af898cf9f055964adc3887", checked := Try.checked }
namespace Rows
def none {H : Type} : Left H := { results := [], args := [] }

/-- 'penumbralaw32.GraphThrows': WHATEVER THE INPUT: true; the input reads as it did. -/
def graphThrowsSpec : ChangeSpec := { name := "graphThrows", fn := fun _ => fun
  | [d1, d2] => { results := [.lit (.bool true)], args := [d1, d2] }
  | _ => none }
def graphThrowsRow : OpenClaim := { program := "ytknmhlneeelaoaa", sum := "d6fa188b56c30741a30ee6f716f1de6a5f5e4bda61af898cf9f055964adc3887", func := "penumbra/penumbralaw32.GraphThrows", spec := "graphThrows", unfollowed := true, recurses := true, apart := false }
def GraphThrowsSaid : Prop := graphThrowsRow.holds Try.pinned (OpenSpec.ofChange graphThrowsSpec)

/-- ITS FALSE NEIGHBOUR: 'it returns false'. Refute it at one input. -/
def graphThrowsWrong : ChangeSpec := { name := "graphThrows", fn := fun _ => fun
  | [d1, d2] => { results := [.lit (.bool false)], args := [d1, d2] }
  | _ => none }
def GraphThrowsWrongFalsely : Prop := graphThrowsRow.holds Try.pinned (OpenSpec.ofChange graphThrowsWrong)

/-- 'penumbralaw32.GraphTerms': WHATEVER THE INPUT: true; the input reads as it did. -/
def graphTermsSpec : ChangeSpec := { name := "graphTerms", fn := fun _ => fun
  | [d1, d2, d3] => { results := [.lit (.bool true)], args := [d1, d2, d3] }
  | _ => none }
def graphTermsRow : OpenClaim := { program := "ytknmhlneeelaoaa", sum := "d6fa188b56c30741a30ee6f716f1de6a5f5e4bda61af898cf9f055964adc3887", func := "penumbra/penumbralaw32.GraphTerms", spec := "graphTerms", unfollowed := true, recurses := true, apart := false }
def GraphTermsSaid : Prop := graphTermsRow.holds Try.pinned (OpenSpec.ofChange graphTermsSpec)

/-- ITS FALSE NEIGHBOUR: 'it returns false'. Refute it at one input. -/
def graphTermsWrong : ChangeSpec := { name := "graphTerms", fn := fun _ => fun
  | [d1, d2, d3] => { results := [.lit (.bool false)], args := [d1, d2, d3] }
  | _ => none }
def GraphTermsWrongFalsely : Prop := graphTermsRow.holds Try.pinned (OpenSpec.ofChange graphTermsWrong)

/-- 'penumbralaw32.GraphMixes': WHATEVER THE INPUT: true; the input reads as it did. -/
def graphMixesSpec : ChangeSpec := { name := "graphMixes", fn := fun _ => fun
  | [d] => { results := [.lit (.bool true)], args := [d] }
  | _ => none }
def graphMixesRow : OpenClaim := { program := "ytknmhlneeelaoaa", sum := "d6fa188b56c30741a30ee6f716f1de6a5f5e4bda61af898cf9f055964adc3887", func := "penumbra/penumbralaw32.GraphMixes", spec := "graphMixes", unfollowed := true, recurses := true, apart := false }
def GraphMixesSaid : Prop := graphMixesRow.holds Try.pinned (OpenSpec.ofChange graphMixesSpec)

/-- ITS FALSE NEIGHBOUR: 'it returns false'. Refute it at one input. -/
def graphMixesWrong : ChangeSpec := { name := "graphMixes", fn := fun _ => fun
  | [d] => { results := [.lit (.bool false)], args := [d] }
  | _ => none }
def GraphMixesWrongFalsely : Prop := graphMixesRow.holds Try.pinned (OpenSpec.ofChange graphMixesWrong)

/- THE SECOND FORM. 'bulk': how many values and letters a reading holds, each counted each time it is reached (what is shared counts as often as it is met; a slice's spare places count too). A statement '..UptoSaid' is the law's where the arguments, and the package variables that the reading takes, are together of bulk at most 1048576: NARROWER than '..Said'. Prove '..Said' where nothing that the law and all that it calls make is longer than what came in: it says more and counts as full. Else prove '..UptoSaid'. A law counts once. -/
mutual
def uptoBulk {H : Type} : DataW H → Nat
  | .lit (.string bytes) => bytes.length + 1
  | .lit _ => 1
  | .nil => 1
  | .ptr d => uptoBulk d + 1
  | .slice elems spare => uptoBulkAll elems + uptoBulkAll spare + 1
  | .agg parts => uptoBulkAll parts + 1
  | .iface _ d => uptoBulk d + 1
  | .map entries => uptoBulkEntries entries + 1
  | .held _ => 1
def uptoBulkAll {H : Type} : List (DataW H) → Nat
  | [] => 0
  | d :: r => uptoBulk d + uptoBulkAll r
def uptoBulkEntries {H : Type} : List (Lit × DataW H) → Nat
  | [] => 0
  | x :: r => uptoBulkEntry x + uptoBulkEntries r
def uptoBulkEntry {H : Type} : Lit × DataW H → Nat
  | (.string bytes, d) => bytes.length + uptoBulk d + 1
  | (_, d) => uptoBulk d + 1
 end
def uptoSmall : (H : Type) → List (DataW H) → Bool := fun _ ds => decide (uptoBulkAll ds ≤ 1048576)
def OpenSpec.upto (s : _root_.Go.ChangeSpec) : _root_.Go.OpenSpec := { _root_.Go.OpenSpec.ofChange s with cond := some uptoSmall }

/-- 'penumbralaw32.GraphThrows', WHERE WHAT IT READS IS OF BULK AT MOST 1048576: true; the input reads as it did. -/
def graphThrowsUptoRow : OpenClaim := { program := "ytknmhlneeelaoaa", sum := "d6fa188b56c30741a30ee6f716f1de6a5f5e4bda61af898cf9f055964adc3887", func := "penumbra/penumbralaw32.GraphThrows", spec := "graphThrows", unfollowed := true, recurses := true, apart := false, narrowed := true }
def GraphThrowsUptoSaid : Prop := graphThrowsUptoRow.holds Try.pinned (OpenSpec.upto graphThrowsSpec)

/-- 'penumbralaw32.GraphTerms', WHERE WHAT IT READS IS OF BULK AT MOST 1048576: true; the input reads as it did. -/
def graphTermsUptoRow : OpenClaim := { program := "ytknmhlneeelaoaa", sum := "d6fa188b56c30741a30ee6f716f1de6a5f5e4bda61af898cf9f055964adc3887", func := "penumbra/penumbralaw32.GraphTerms", spec := "graphTerms", unfollowed := true, recurses := true, apart := false, narrowed := true }
def GraphTermsUptoSaid : Prop := graphTermsUptoRow.holds Try.pinned (OpenSpec.upto graphTermsSpec)

/-- 'penumbralaw32.GraphMixes', WHERE WHAT IT READS IS OF BULK AT MOST 1048576: true; the input reads as it did. -/
def graphMixesUptoRow : OpenClaim := { program := "ytknmhlneeelaoaa", sum := "d6fa188b56c30741a30ee6f716f1de6a5f5e4bda61af898cf9f055964adc3887", func := "penumbra/penumbralaw32.GraphMixes", spec := "graphMixes", unfollowed := true, recurses := true, apart := false, narrowed := true }
def GraphMixesUptoSaid : Prop := graphMixesUptoRow.holds Try.pinned (OpenSpec.upto graphMixesSpec)

end Rows
end Go.Proofs.Ytknmhlneeelaoaa
