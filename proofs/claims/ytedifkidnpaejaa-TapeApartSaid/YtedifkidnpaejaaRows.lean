/-
  No cell of these rows narrows 'for every input' (looked for: loops, veiled, ifaces, maps, wideKeys, modest, calm, conditions, laid).
  DERIVED. THE GIVEN ROWS OF THIS SEAT. 4 by the template 'for every input the law returns true; each argument reads behind the call as it read before'; 0 by the template 'total and deterministic' (their statements: YtedifkidnpaejaaTotals.lean).
  GIVEN WITH THE SEED: the statements are not yours to turn. If you find one false, say at which input.
  Laid BY PROGRAM, IN A SANDBOX (cutbox-rows.mjs): the forced cells as the released guide's own fill.sh prints them over the translation c7eb9d66843f046c… (all of the seat's roots in one cut). By AI agents, Wed Nov 11 2026. No macro, syntax, notation, axiom, sorry.
-/
import Derived.Test.YtedifkidnpaejaaChecked
import GoSem.Claim
import GoSem.ClaimJoined
import GoSem.ClaimMapViews
import Derived.JoinedTies
import Derived.KernelRfl
namespace Go.Proofs.Ytedifkidnpaejaa
/- THE CELL 'sum', in the pinned program and in every row, IS THE sha256 OF THE DUMP (.gsa) THAT YtedifkidnpaejaaProg.lean LOADS. Nothing in Lean hashes anything: it is a label: what it is worth is what the hold of that sum in a sandbox is worth. -/
noncomputable def Try.pinned : Pinned := { name := "ytedifkidnpaejaa", sum := "c7eb9d66843f046ce0bc0148062970b4c36d62380eebe89d80030338576a580a", checked := Try.checked }
namespace Rows
def none {H : Type} : Left H := { results := [], args := [] }

/-- 'penumbralaw06.TapeTells': WHATEVER THE INPUT: true; the input reads as it did. -/
def tapeTellsSpec : ChangeSpec := { name := "tapeTells", fn := fun _ => fun
  | [d1, d2] => { results := [.lit (.bool true)], args := [d1, d2] }
  | _ => none }
def tapeTellsRow : OpenClaim := { program := "ytedifkidnpaejaa", sum := "c7eb9d66843f046ce0bc0148062970b4c36d62380eebe89d80030338576a580a", func := "penumbra/penumbralaw06.TapeTells", spec := "tapeTells", unfollowed := true, recurses := true, apart := false }
def TapeTellsSaid : Prop := tapeTellsRow.holds Try.pinned (OpenSpec.ofChange tapeTellsSpec)

/-- ITS FALSE NEIGHBOUR: 'it returns false'. Refute it at one input. -/
def tapeTellsWrong : ChangeSpec := { name := "tapeTells", fn := fun _ => fun
  | [d1, d2] => { results := [.lit (.bool false)], args := [d1, d2] }
  | _ => none }
def TapeTellsWrongFalsely : Prop := tapeTellsRow.holds Try.pinned (OpenSpec.ofChange tapeTellsWrong)

/-- 'penumbralaw06.TapeCleans': WHATEVER THE INPUT: true; the input reads as it did. -/
def tapeCleansSpec : ChangeSpec := { name := "tapeCleans", fn := fun _ => fun
  | [d] => { results := [.lit (.bool true)], args := [d] }
  | _ => none }
def tapeCleansRow : OpenClaim := { program := "ytedifkidnpaejaa", sum := "c7eb9d66843f046ce0bc0148062970b4c36d62380eebe89d80030338576a580a", func := "penumbra/penumbralaw06.TapeCleans", spec := "tapeCleans", unfollowed := true, recurses := true, apart := false }
def TapeCleansSaid : Prop := tapeCleansRow.holds Try.pinned (OpenSpec.ofChange tapeCleansSpec)

/-- ITS FALSE NEIGHBOUR: 'it returns false'. Refute it at one input. -/
def tapeCleansWrong : ChangeSpec := { name := "tapeCleans", fn := fun _ => fun
  | [d] => { results := [.lit (.bool false)], args := [d] }
  | _ => none }
def TapeCleansWrongFalsely : Prop := tapeCleansRow.holds Try.pinned (OpenSpec.ofChange tapeCleansWrong)

/-- 'penumbralaw06.TapeNeeds': WHATEVER THE INPUT: true; the input reads as it did. -/
def tapeNeedsSpec : ChangeSpec := { name := "tapeNeeds", fn := fun _ => fun
  | [d] => { results := [.lit (.bool true)], args := [d] }
  | _ => none }
def tapeNeedsRow : OpenClaim := { program := "ytedifkidnpaejaa", sum := "c7eb9d66843f046ce0bc0148062970b4c36d62380eebe89d80030338576a580a", func := "penumbra/penumbralaw06.TapeNeeds", spec := "tapeNeeds", unfollowed := true, recurses := true, apart := false }
def TapeNeedsSaid : Prop := tapeNeedsRow.holds Try.pinned (OpenSpec.ofChange tapeNeedsSpec)

/-- ITS FALSE NEIGHBOUR: 'it returns false'. Refute it at one input. -/
def tapeNeedsWrong : ChangeSpec := { name := "tapeNeeds", fn := fun _ => fun
  | [d] => { results := [.lit (.bool false)], args := [d] }
  | _ => none }
def TapeNeedsWrongFalsely : Prop := tapeNeedsRow.holds Try.pinned (OpenSpec.ofChange tapeNeedsWrong)

/-- 'penumbralaw06.TapeApart': WHATEVER THE INPUT: true; the input reads as it did. -/
def tapeApartSpec : ChangeSpec := { name := "tapeApart", fn := fun _ => fun
  | [d] => { results := [.lit (.bool true)], args := [d] }
  | _ => none }
def tapeApartRow : OpenClaim := { program := "ytedifkidnpaejaa", sum := "c7eb9d66843f046ce0bc0148062970b4c36d62380eebe89d80030338576a580a", func := "penumbra/penumbralaw06.TapeApart", spec := "tapeApart", unfollowed := true, recurses := true, apart := false }
def TapeApartSaid : Prop := tapeApartRow.holds Try.pinned (OpenSpec.ofChange tapeApartSpec)

/-- ITS FALSE NEIGHBOUR: 'it returns false'. Refute it at one input. -/
def tapeApartWrong : ChangeSpec := { name := "tapeApart", fn := fun _ => fun
  | [d] => { results := [.lit (.bool false)], args := [d] }
  | _ => none }
def TapeApartWrongFalsely : Prop := tapeApartRow.holds Try.pinned (OpenSpec.ofChange tapeApartWrong)

/- THE SECOND FORM. 'bulk': how many values and letters a reading holds, each counted each time it is reached (what is shared counts as often as it is met; a slice's spare places count too). A statement '..UptoSaid' is the law's where the arguments, and the package variables that the reading takes, are together of bulk at most 1048576: NARROWER than '..Said'. Prove '..Said' where nothing that the law and all that it calls make is longer than what came in: it says more and counts as full. Else prove '..UptoSaid'. A law counts once. -/
mutual
def uptoBulk {H : Type} : DataW H → Nat
  | .lit (.string bytes) => bytes.length + 1
  | .lit _ => 1
  | .nil => 1
  | .ptr d => uptoBulk d + 1
  | .slice elems spare => uptoBulkAll elems + uptoBulkAll spare + 1
  | .agg parts => uptoBulkAll parts + 1
  | .iface _ d => uptoBulk d + 1
  | .map entries => uptoBulkEntries entries + 1
  | .held _ => 1
def uptoBulkAll {H : Type} : List (DataW H) → Nat
  | [] => 0
  | d :: r => uptoBulk d + uptoBulkAll r
def uptoBulkEntries {H : Type} : List (Lit × DataW H) → Nat
  | [] => 0
  | x :: r => uptoBulkEntry x + uptoBulkEntries r
def uptoBulkEntry {H : Type} : Lit × DataW H → Nat
  | (.string bytes, d) => bytes.length + uptoBulk d + 1
  | (_, d) => uptoBulk d + 1
 end
def uptoSmall : (H : Type) → List (DataW H) → Bool := fun _ ds => decide (uptoBulkAll ds ≤ 1048576)
def OpenSpec.upto (s : _root_.Go.ChangeSpec) : _root_.Go.OpenSpec := { _root_.Go.OpenSpec.ofChange s with cond := some uptoSmall }

/-- 'penumbralaw06.TapeTells', WHERE WHAT IT READS IS OF BULK AT MOST 1048576: true; the input reads as it did. -/
def tapeTellsUptoRow : OpenClaim := { program := "ytedifkidnpaejaa", sum := "c7eb9d66843f046ce0bc0148062970b4c36d62380eebe89d80030338576a580a", func := "penumbra/penumbralaw06.TapeTells", spec := "tapeTells", unfollowed := true, recurses := true, apart := false, narrowed := true }
def TapeTellsUptoSaid : Prop := tapeTellsUptoRow.holds Try.pinned (OpenSpec.upto tapeTellsSpec)

/-- 'penumbralaw06.TapeCleans', WHERE WHAT IT READS IS OF BULK AT MOST 1048576: true; the input reads as it did. -/
def tapeCleansUptoRow : OpenClaim := { program := "ytedifkidnpaejaa", sum := "c7eb9d66843f046ce0bc0148062970b4c36d62380eebe89d80030338576a580a", func := "penumbra/penumbralaw06.TapeCleans", spec := "tapeCleans", unfollowed := true, recurses := true, apart := false, narrowed := true }
def TapeCleansUptoSaid : Prop := tapeCleansUptoRow.holds Try.pinned (OpenSpec.upto tapeCleansSpec)

/-- 'penumbralaw06.TapeNeeds', WHERE WHAT IT READS IS OF BULK AT MOST 1048576: true; the input reads as it did. -/
def tapeNeedsUptoRow : OpenClaim := { program := "ytedifkidnpaejaa", sum := "c7eb9d66843f046ce0bc0148062970b4c36d62380eebe89d80030338576a580a", func := "penumbra/penumbralaw06.TapeNeeds", spec := "tapeNeeds", unfollowed := true, recurses := true, apart := false, narrowed := true }
def TapeNeedsUptoSaid : Prop := tapeNeedsUptoRow.holds Try.pinned (OpenSpec.upto tapeNeedsSpec)

/-- 'penumbralaw06.TapeApart', WHERE WHAT IT READS IS OF BULK AT MOST 1048576: true; the input reads as it did. -/
def tapeApartUptoRow : OpenClaim := { program := "ytedifkidnpaejaa", sum := "c7eb9d66843f046ce0bc0148062970b4c36d62380eebe89d80030338576a580a", func := "penumbra/penumbralaw06.TapeApart", spec := "tapeApart", unfollowed := true, recurses := true, apart := false, narrowed := true }
def TapeApartUptoSaid : Prop := tapeApartUptoRow.holds Try.pinned (OpenSpec.upto tapeApartSpec)

end Rows
end Go.Proofs.Ytedifkidnpaejaa
