/-
  No cell of these rows narrows 'for every input' (looked for: loops, veiled, ifaces, maps, wideKeys, modest, calm, conditions, laid).
  DERIVED. THE GIVEN ROWS OF THIS SEAT. 4 by the template 'for every input the law returns true; each argument reads behind the call as it read before'; 0 by the template 'total and deterministic' (their statements: YtmnolhkgnedcnaaTotals.lean).
  GIVEN WITH THE SEED: the statements are not yours to turn. If you find one false, say at which input.
  Laid BY PROGRAM, IN A SANDBOX (cutbox-rows.mjs): the forced cells as the released guide's own fill.sh prints them over the translation c73266905f799873… (all of the seat's roots in one cut). By AI agents, Wed Nov 11 2026. No macro, syntax, notation, axiom, sorry.
-/
import Derived.Test.YtmnolhkgnedcnaaChecked
import GoSem.Claim
import GoSem.ClaimJoined
import GoSem.ClaimMapViews
import Derived.JoinedTies
import Derived.KernelRfl
namespace Go.Proofs.Ytmnolhkgnedcnaa
/- THE CELL 'sum', in the pinned program and in every row, IS THE sha256 OF THE DUMP (.gsa) THAT YtmnolhkgnedcnaaProg.lean LOADS. Nothing in Lean hashes anything: it is a label: what it is worth is what the hold of that sum in a sandbox is worth. -/
noncomputable def Try.pinned : Pinned := { name := "ytmnolhkgnedcnaa", sum := "c73266905f7998732a6c6df869e6b254e1a0d9f3ba4213e062e0e19678344991", checked := Try.checked }
namespace Rows
def none {H : Type} : Left H := { results := [], args := [] }

/-- 'penumbralaw31.MatrixApplies': WHATEVER THE INPUT: true; the input reads as it did. -/
def matrixAppliesSpec : ChangeSpec := { name := "matrixApplies", fn := fun _ => fun
  | [d1, d2, d3] => { results := [.lit (.bool true)], args := [d1, d2, d3] }
  | _ => none }
def matrixAppliesRow : OpenClaim := { program := "ytmnolhkgnedcnaa", sum := "c73266905f7998732a6c6df869e6b254e1a0d9f3ba4213e062e0e19678344991", func := "penumbra/penumbralaw31.MatrixApplies", spec := "matrixApplies", unfollowed := true, recurses := true, apart := false }
def MatrixAppliesSaid : Prop := matrixAppliesRow.holds Try.pinned (OpenSpec.ofChange matrixAppliesSpec)

/-- ITS FALSE NEIGHBOUR: 'it returns false'. Refute it at one input. -/
def matrixAppliesWrong : ChangeSpec := { name := "matrixApplies", fn := fun _ => fun
  | [d1, d2, d3] => { results := [.lit (.bool false)], args := [d1, d2, d3] }
  | _ => none }
def MatrixAppliesWrongFalsely : Prop := matrixAppliesRow.holds Try.pinned (OpenSpec.ofChange matrixAppliesWrong)

/-- 'penumbralaw31.MatrixLaws': WHATEVER THE INPUT: true; the input reads as it did. -/
def matrixLawsSpec : ChangeSpec := { name := "matrixLaws", fn := fun _ => fun
  | [d1, d2, d3] => { results := [.lit (.bool true)], args := [d1, d2, d3] }
  | _ => none }
def matrixLawsRow : OpenClaim := { program := "ytmnolhkgnedcnaa", sum := "c73266905f7998732a6c6df869e6b254e1a0d9f3ba4213e062e0e19678344991", func := "penumbra/penumbralaw31.MatrixLaws", spec := "matrixLaws", unfollowed := true, recurses := true, apart := false }
def MatrixLawsSaid : Prop := matrixLawsRow.holds Try.pinned (OpenSpec.ofChange matrixLawsSpec)

/-- ITS FALSE NEIGHBOUR: 'it returns false'. Refute it at one input. -/
def matrixLawsWrong : ChangeSpec := { name := "matrixLaws", fn := fun _ => fun
  | [d1, d2, d3] => { results := [.lit (.bool false)], args := [d1, d2, d3] }
  | _ => none }
def MatrixLawsWrongFalsely : Prop := matrixLawsRow.holds Try.pinned (OpenSpec.ofChange matrixLawsWrong)

/-- 'penumbralaw31.MatrixReckons': WHATEVER THE INPUT: true; the input reads as it did. -/
def matrixReckonsSpec : ChangeSpec := { name := "matrixReckons", fn := fun _ => fun
  | [d1, d2] => { results := [.lit (.bool true)], args := [d1, d2] }
  | _ => none }
def matrixReckonsRow : OpenClaim := { program := "ytmnolhkgnedcnaa", sum := "c73266905f7998732a6c6df869e6b254e1a0d9f3ba4213e062e0e19678344991", func := "penumbra/penumbralaw31.MatrixReckons", spec := "matrixReckons", unfollowed := true, recurses := true, apart := false }
def MatrixReckonsSaid : Prop := matrixReckonsRow.holds Try.pinned (OpenSpec.ofChange matrixReckonsSpec)

/-- ITS FALSE NEIGHBOUR: 'it returns false'. Refute it at one input. -/
def matrixReckonsWrong : ChangeSpec := { name := "matrixReckons", fn := fun _ => fun
  | [d1, d2] => { results := [.lit (.bool false)], args := [d1, d2] }
  | _ => none }
def MatrixReckonsWrongFalsely : Prop := matrixReckonsRow.holds Try.pinned (OpenSpec.ofChange matrixReckonsWrong)

/-- 'penumbralaw31.MatrixLooks': WHATEVER THE INPUT: true; the input reads as it did. -/
def matrixLooksSpec : ChangeSpec := { name := "matrixLooks", fn := fun _ => fun
  | [d1, d2, d3] => { results := [.lit (.bool true)], args := [d1, d2, d3] }
  | _ => none }
def matrixLooksRow : OpenClaim := { program := "ytmnolhkgnedcnaa", sum := "c73266905f7998732a6c6df869e6b254e1a0d9f3ba4213e062e0e19678344991", func := "penumbra/penumbralaw31.MatrixLooks", spec := "matrixLooks", unfollowed := true, recurses := true, apart := false }
def MatrixLooksSaid : Prop := matrixLooksRow.holds Try.pinned (OpenSpec.ofChange matrixLooksSpec)

/-- ITS FALSE NEIGHBOUR: 'it returns false'. Refute it at one input. -/
def matrixLooksWrong : ChangeSpec := { name := "matrixLooks", fn := fun _ => fun
  | [d1, d2, d3] => { results := [.lit (.bool false)], args := [d1, d2, d3] }
  | _ => none }
def MatrixLooksWrongFalsely : Prop := matrixLooksRow.holds Try.pinned (OpenSpec.ofChange matrixLooksWrong)

/- THE SECOND FORM. 'bulk': how many values and letters a reading holds, each counted each time it is reached (what is shared counts as often as it is met; a slice's spare places count too). A statement '..UptoSaid' is the law's where the arguments, and the package variables that the reading takes, are together of bulk at most 1048576: NARROWER than '..Said'. Prove '..Said' where nothing that the law and all that it calls make is longer than what came in: it says more and counts as full. Else prove '..UptoSaid'. A law counts once. -/
mutual
def uptoBulk {H : Type} : DataW H → Nat
  | .lit (.string bytes) => bytes.length + 1
  | .lit _ => 1
  | .nil => 1
  | .ptr d => uptoBulk d + 1
  | .slice elems spare => uptoBulkAll elems + uptoBulkAll spare + 1
  | .agg parts => uptoBulkAll parts + 1
  | .iface _ d => uptoBulk d + 1
  | .map entries => uptoBulkEntries entries + 1
  | .held _ => 1
def uptoBulkAll {H : Type} : List (DataW H) → Nat
  | [] => 0
  | d :: r => uptoBulk d + uptoBulkAll r
def uptoBulkEntries {H : Type} : List (Lit × DataW H) → Nat
  | [] => 0
  | x :: r => uptoBulkEntry x + uptoBulkEntries r
def uptoBulkEntry {H : Type} : Lit × DataW H → Nat
  | (.string bytes, d) => bytes.length + uptoBulk d + 1
  | (_, d) => uptoBulk d + 1
 end
def uptoSmall : (H : Type) → List (DataW H) → Bool := fun _ ds => decide (uptoBulkAll ds ≤ 1048576)
def OpenSpec.upto (s : _root_.Go.ChangeSpec) : _root_.Go.OpenSpec := { _root_.Go.OpenSpec.ofChange s with cond := some uptoSmall }

/-- 'penumbralaw31.MatrixApplies', WHERE WHAT IT READS IS OF BULK AT MOST 1048576: true; the input reads as it did. -/
def matrixAppliesUptoRow : OpenClaim := { program := "ytmnolhkgnedcnaa", sum := "c73266905f7998732a6c6df869e6b254e1a0d9f3ba4213e062e0e19678344991", func := "penumbra/penumbralaw31.MatrixApplies", spec := "matrixApplies", unfollowed := true, recurses := true, apart := false, narrowed := true }
def MatrixAppliesUptoSaid : Prop := matrixAppliesUptoRow.holds Try.pinned (OpenSpec.upto matrixAppliesSpec)

/-- 'penumbralaw31.MatrixLaws', WHERE WHAT IT READS IS OF BULK AT MOST 1048576: true; the input reads as it did. -/
def matrixLawsUptoRow : OpenClaim := { program := "ytmnolhkgnedcnaa", sum := "c73266905f7998732a6c6df869e6b254e1a0d9f3ba4213e062e0e19678344991", func := "penumbra/penumbralaw31.MatrixLaws", spec := "matrixLaws", unfollowed := true, recurses := true, apart := false, narrowed := true }
def MatrixLawsUptoSaid : Prop := matrixLawsUptoRow.holds Try.pinned (OpenSpec.upto matrixLawsSpec)

/-- 'penumbralaw31.MatrixReckons', WHERE WHAT IT READS IS OF BULK AT MOST 1048576: true; the input reads as it did. -/
def matrixReckonsUptoRow : OpenClaim := { program := "ytmnolhkgnedcnaa", sum := "c73266905f7998732a6c6df869e6b254e1a0d9f3ba4213e062e0e19678344991", func := "penumbra/penumbralaw31.MatrixReckons", spec := "matrixReckons", unfollowed := true, recurses := true, apart := false, narrowed := true }
def MatrixReckonsUptoSaid : Prop := matrixReckonsUptoRow.holds Try.pinned (OpenSpec.upto matrixReckonsSpec)

/-- 'penumbralaw31.MatrixLooks', WHERE WHAT IT READS IS OF BULK AT MOST 1048576: true; the input reads as it did. -/
def matrixLooksUptoRow : OpenClaim := { program := "ytmnolhkgnedcnaa", sum := "c73266905f7998732a6c6df869e6b254e1a0d9f3ba4213e062e0e19678344991", func := "penumbra/penumbralaw31.MatrixLooks", spec := "matrixLooks", unfollowed := true, recurses := true, apart := false, narrowed := true }
def MatrixLooksUptoSaid : Prop := matrixLooksUptoRow.holds Try.pinned (OpenSpec.upto matrixLooksSpec)

end Rows
end Go.Proofs.Ytmnolhkgnedcnaa
