/-
  No cell of these rows narrows 'for every input' (looked for: loops, veiled, ifaces, maps, wideKeys, modest, calm, conditions, laid).
  DERIVED. THE GIVEN ROWS OF THIS SEAT. 3 by the template 'for every input the law returns true; each argument reads behind the call as it read before'; 0 by the template 'total and deterministic' (their statements: YtpjfelbamcgnhaaTotals.lean).
  GIVEN WITH THE SEED: the statements are not yours to turn. If you find one false, say at which input.
  Laid BY PROGRAM, IN A SANDBOX (cutbox-rows.mjs): the forced cells as the released guide's own fill.sh prints them over the translation b3e8d4ffc0d199d1… (all of the seat's roots in one cut). By AI agents, Wed Nov 11 2026. No macro, syntax, notation, axiom, sorry.
-/
import Derived.Test.YtpjfelbamcgnhaaChecked
import GoSem.Claim
import GoSem.ClaimJoined
import GoSem.ClaimMapViews
import Derived.JoinedTies
import Derived.KernelRfl
namespace Go.Proofs.Ytpjfelbamcgnhaa
/- THE CELL 'sum', in the pinned program and in every row, IS THE sha256 OF THE DUMP (.gsa) THAT YtpjfelbamcgnhaaProg.lean LOADS. Nothing in Lean hashes anything: it is a label: what it is worth is what the hold of that sum in a sandbox is worth. -/
noncomputable def Try.pinned : Pinned := { name := "ytpjfelbamcgnhaa", sum := "b3e8d4ffc0d199d1748c9f3d9485bdd75f82c471aa8d66e03ed3d31bf197a36c", checked := Try.checked }
namespace Rows
def none {H : Type} : Left H := { results := [], args := [] }

/-- 'penumbralaw34.SolveLines': WHATEVER THE INPUT: true; the input reads as it did. -/
def solveLinesSpec : ChangeSpec := { name := "solveLines", fn := fun _ => fun
  | [d1, d2] => { results := [.lit (.bool true)], args := [d1, d2] }
  | _ => none }
def solveLinesRow : OpenClaim := { program := "ytpjfelbamcgnhaa", sum := "b3e8d4ffc0d199d1748c9f3d9485bdd75f82c471aa8d66e03ed3d31bf197a36c", func := "penumbra/penumbralaw34.SolveLines", spec := "solveLines", unfollowed := true, recurses := true, apart := false }
def SolveLinesSaid : Prop := solveLinesRow.holds Try.pinned (OpenSpec.ofChange solveLinesSpec)

/-- ITS FALSE NEIGHBOUR: 'it returns false'. Refute it at one input. -/
def solveLinesWrong : ChangeSpec := { name := "solveLines", fn := fun _ => fun
  | [d1, d2] => { results := [.lit (.bool false)], args := [d1, d2] }
  | _ => none }
def SolveLinesWrongFalsely : Prop := solveLinesRow.holds Try.pinned (OpenSpec.ofChange solveLinesWrong)

/-- 'penumbralaw34.SolveFixed': WHATEVER THE INPUT: true; the input reads as it did. -/
def solveFixedSpec : ChangeSpec := { name := "solveFixed", fn := fun _ => fun
  | [d1, d2] => { results := [.lit (.bool true)], args := [d1, d2] }
  | _ => none }
def solveFixedRow : OpenClaim := { program := "ytpjfelbamcgnhaa", sum := "b3e8d4ffc0d199d1748c9f3d9485bdd75f82c471aa8d66e03ed3d31bf197a36c", func := "penumbra/penumbralaw34.SolveFixed", spec := "solveFixed", unfollowed := true, recurses := true, apart := false }
def SolveFixedSaid : Prop := solveFixedRow.holds Try.pinned (OpenSpec.ofChange solveFixedSpec)

/-- ITS FALSE NEIGHBOUR: 'it returns false'. Refute it at one input. -/
def solveFixedWrong : ChangeSpec := { name := "solveFixed", fn := fun _ => fun
  | [d1, d2] => { results := [.lit (.bool false)], args := [d1, d2] }
  | _ => none }
def SolveFixedWrongFalsely : Prop := solveFixedRow.holds Try.pinned (OpenSpec.ofChange solveFixedWrong)

/-- 'penumbralaw34.SolveRests': WHATEVER THE INPUT: true; the input reads as it did. -/
def solveRestsSpec : ChangeSpec := { name := "solveRests", fn := fun _ => fun
  | [d1, d2] => { results := [.lit (.bool true)], args := [d1, d2] }
  | _ => none }
def solveRestsRow : OpenClaim := { program := "ytpjfelbamcgnhaa", sum := "b3e8d4ffc0d199d1748c9f3d9485bdd75f82c471aa8d66e03ed3d31bf197a36c", func := "penumbra/penumbralaw34.SolveRests", spec := "solveRests", unfollowed := true, recurses := true, apart := false }
def SolveRestsSaid : Prop := solveRestsRow.holds Try.pinned (OpenSpec.ofChange solveRestsSpec)

/-- ITS FALSE NEIGHBOUR: 'it returns false'. Refute it at one input. -/
def solveRestsWrong : ChangeSpec := { name := "solveRests", fn := fun _ => fun
  | [d1, d2] => { results := [.lit (.bool false)], args := [d1, d2] }
  | _ => none }
def SolveRestsWrongFalsely : Prop := solveRestsRow.holds Try.pinned (OpenSpec.ofChange solveRestsWrong)

/- THE SECOND FORM. 'bulk': how many values and letters a reading holds, each counted each time it is reached (what is shared counts as often as it is met; a slice's spare places count too). A statement '..UptoSaid' is the law's where the arguments, and the package variables that the reading takes, are together of bulk at most 1048576: NARROWER than '..Said'. Prove '..Said' where nothing that the law and all that it calls make is longer than what came in: it says more and counts as full. Else prove '..UptoSaid'. A law counts once. -/
mutual
def uptoBulk {H : Type} : DataW H → Nat
  | .lit (.string bytes) => bytes.length + 1
  | .lit _ => 1
  | .nil => 1
  | .ptr d => uptoBulk d + 1
  | .slice elems spare => uptoBulkAll elems + uptoBulkAll spare + 1
  | .agg parts => uptoBulkAll parts + 1
  | .iface _ d => uptoBulk d + 1
  | .map entries => uptoBulkEntries entries + 1
  | .held _ => 1
def uptoBulkAll {H : Type} : List (DataW H) → Nat
  | [] => 0
  | d :: r => uptoBulk d + uptoBulkAll r
def uptoBulkEntries {H : Type} : List (Lit × DataW H) → Nat
  | [] => 0
  | x :: r => uptoBulkEntry x + uptoBulkEntries r
def uptoBulkEntry {H : Type} : Lit × DataW H → Nat
  | (.string bytes, d) => bytes.length + uptoBulk d + 1
  | (_, d) => uptoBulk d + 1
 end
def uptoSmall : (H : Type) → List (DataW H) → Bool := fun _ ds => decide (uptoBulkAll ds ≤ 1048576)
def OpenSpec.upto (s : _root_.Go.ChangeSpec) : _root_.Go.OpenSpec := { _root_.Go.OpenSpec.ofChange s with cond := some uptoSmall }

/-- 'penumbralaw34.SolveLines', WHERE WHAT IT READS IS OF BULK AT MOST 1048576: true; the input reads as it did. -/
def solveLinesUptoRow : OpenClaim := { program := "ytpjfelbamcgnhaa", sum := "b3e8d4ffc0d199d1748c9f3d9485bdd75f82c471aa8d66e03ed3d31bf197a36c", func := "penumbra/penumbralaw34.SolveLines", spec := "solveLines", unfollowed := true, recurses := true, apart := false, narrowed := true }
def SolveLinesUptoSaid : Prop := solveLinesUptoRow.holds Try.pinned (OpenSpec.upto solveLinesSpec)

/-- 'penumbralaw34.SolveFixed', WHERE WHAT IT READS IS OF BULK AT MOST 1048576: true; the input reads as it did. -/
def solveFixedUptoRow : OpenClaim := { program := "ytpjfelbamcgnhaa", sum := "b3e8d4ffc0d199d1748c9f3d9485bdd75f82c471aa8d66e03ed3d31bf197a36c", func := "penumbra/penumbralaw34.SolveFixed", spec := "solveFixed", unfollowed := true, recurses := true, apart := false, narrowed := true }
def SolveFixedUptoSaid : Prop := solveFixedUptoRow.holds Try.pinned (OpenSpec.upto solveFixedSpec)

/-- 'penumbralaw34.SolveRests', WHERE WHAT IT READS IS OF BULK AT MOST 1048576: true; the input reads as it did. -/
def solveRestsUptoRow : OpenClaim := { program := "ytpjfelbamcgnhaa", sum := "b3e8d4ffc0d199d1748c9f3d9485bdd75f82c471aa8d66e03ed3d31bf197a36c", func := "penumbra/penumbralaw34.SolveRests", spec := "solveRests", unfollowed := true, recurses := true, apart := false, narrowed := true }
def SolveRestsUptoSaid : Prop := solveRestsUptoRow.holds Try.pinned (OpenSpec.upto solveRestsSpec)

end Rows
end Go.Proofs.Ytpjfelbamcgnhaa
