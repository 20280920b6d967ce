/-
  No cell of these rows narrows 'for every input' (looked for: loops, veiled, ifaces, maps, wideKeys, modest, calm, conditions, laid).
  DERIVED. THE GIVEN ROWS OF THIS SEAT. 3 by the template 'for every input the law returns true; each argument reads behind the call as it read before'; 0 by the template 'total and deterministic' (their statements: YtbjjjbjhpcdgmaaTotals.lean).
  GIVEN WITH THE SEED: the statements are not yours to turn. If you find one false, say at which input.
  Laid BY PROGRAM, IN A SANDBOX (cutbox-rows.mjs): the forced cells as the released guide's own fill.sh prints them over the translation 09783baffc7a0a25… (all of the seat's roots in one cut). By AI agents, Wed Nov 11 2026. No macro, syntax, notation, axiom, sorry.
-/
import Derived.Test.YtbjjjbjhpcdgmaaChecked
import GoSem.Claim
import GoSem.ClaimJoined
import GoSem.ClaimMapViews
import Derived.JoinedTies
import Derived.KernelRfl
namespace Go.Proofs.Ytbjjjbjhpcdgmaa
/- THE CELL 'sum', in the pinned program and in every row, IS THE sha256 OF THE DUMP (.gsa) THAT YtbjjjbjhpcdgmaaProg.lean LOADS. Nothing in Lean hashes anything: it is a label: what it is worth is what the hold of that sum in a sandbox is worth. -/
noncomputable def Try.pinned : Pinned := { name := "ytbjjjbjhpcdgmaa", sum := "09783baffc7a0a251c27c0bc3d5f07a4344997c10895297a41af3820cee8dac9", checked := Try.checked }
namespace Rows
def none {H : Type} : Left H := { results := [], args := [] }

/-- 'penumbralaw33.SeriesTails': WHATEVER THE INPUT: true; the input reads as it did. -/
def seriesTailsSpec : ChangeSpec := { name := "seriesTails", fn := fun _ => fun
  | [d1, d2, d3] => { results := [.lit (.bool true)], args := [d1, d2, d3] }
  | _ => none }
def seriesTailsRow : OpenClaim := { program := "ytbjjjbjhpcdgmaa", sum := "09783baffc7a0a251c27c0bc3d5f07a4344997c10895297a41af3820cee8dac9", func := "penumbra/penumbralaw33.SeriesTails", spec := "seriesTails", unfollowed := true, recurses := true, apart := false }
def SeriesTailsSaid : Prop := seriesTailsRow.holds Try.pinned (OpenSpec.ofChange seriesTailsSpec)

/-- ITS FALSE NEIGHBOUR: 'it returns false'. Refute it at one input. -/
def seriesTailsWrong : ChangeSpec := { name := "seriesTails", fn := fun _ => fun
  | [d1, d2, d3] => { results := [.lit (.bool false)], args := [d1, d2, d3] }
  | _ => none }
def SeriesTailsWrongFalsely : Prop := seriesTailsRow.holds Try.pinned (OpenSpec.ofChange seriesTailsWrong)

/-- 'penumbralaw33.SeriesSums': WHATEVER THE INPUT: true; the input reads as it did. -/
def seriesSumsSpec : ChangeSpec := { name := "seriesSums", fn := fun _ => fun
  | [d1, d2, d3] => { results := [.lit (.bool true)], args := [d1, d2, d3] }
  | _ => none }
def seriesSumsRow : OpenClaim := { program := "ytbjjjbjhpcdgmaa", sum := "09783baffc7a0a251c27c0bc3d5f07a4344997c10895297a41af3820cee8dac9", func := "penumbra/penumbralaw33.SeriesSums", spec := "seriesSums", unfollowed := true, recurses := true, apart := false }
def SeriesSumsSaid : Prop := seriesSumsRow.holds Try.pinned (OpenSpec.ofChange seriesSumsSpec)

/-- ITS FALSE NEIGHBOUR: 'it returns false'. Refute it at one input. -/
def seriesSumsWrong : ChangeSpec := { name := "seriesSums", fn := fun _ => fun
  | [d1, d2, d3] => { results := [.lit (.bool false)], args := [d1, d2, d3] }
  | _ => none }
def SeriesSumsWrongFalsely : Prop := seriesSumsRow.holds Try.pinned (OpenSpec.ofChange seriesSumsWrong)

/-- 'penumbralaw33.SeriesSteps': WHATEVER THE INPUT: true; the input reads as it did. -/
def seriesStepsSpec : ChangeSpec := { name := "seriesSteps", fn := fun _ => fun
  | [d1, d2] => { results := [.lit (.bool true)], args := [d1, d2] }
  | _ => none }
def seriesStepsRow : OpenClaim := { program := "ytbjjjbjhpcdgmaa", sum := "09783baffc7a0a251c27c0bc3d5f07a4344997c10895297a41af3820cee8dac9", func := "penumbra/penumbralaw33.SeriesSteps", spec := "seriesSteps", unfollowed := true, recurses := true, apart := false }
def SeriesStepsSaid : Prop := seriesStepsRow.holds Try.pinned (OpenSpec.ofChange seriesStepsSpec)

/-- ITS FALSE NEIGHBOUR: 'it returns false'. Refute it at one input. -/
def seriesStepsWrong : ChangeSpec := { name := "seriesSteps", fn := fun _ => fun
  | [d1, d2] => { results := [.lit (.bool false)], args := [d1, d2] }
  | _ => none }
def SeriesStepsWrongFalsely : Prop := seriesStepsRow.holds Try.pinned (OpenSpec.ofChange seriesStepsWrong)

/- THE SECOND FORM. 'bulk': how many values and letters a reading holds, each counted each time it is reached (what is shared counts as often as it is met; a slice's spare places count too). A statement '..UptoSaid' is the law's where the arguments, and the package variables that the reading takes, are together of bulk at most 1048576: NARROWER than '..Said'. Prove '..Said' where nothing that the law and all that it calls make is longer than what came in: it says more and counts as full. Else prove '..UptoSaid'. A law counts once. -/
mutual
def uptoBulk {H : Type} : DataW H → Nat
  | .lit (.string bytes) => bytes.length + 1
  | .lit _ => 1
  | .nil => 1
  | .ptr d => uptoBulk d + 1
  | .slice elems spare => uptoBulkAll elems + uptoBulkAll spare + 1
  | .agg parts => uptoBulkAll parts + 1
  | .iface _ d => uptoBulk d + 1
  | .map entries => uptoBulkEntries entries + 1
  | .held _ => 1
def uptoBulkAll {H : Type} : List (DataW H) → Nat
  | [] => 0
  | d :: r => uptoBulk d + uptoBulkAll r
def uptoBulkEntries {H : Type} : List (Lit × DataW H) → Nat
  | [] => 0
  | x :: r => uptoBulkEntry x + uptoBulkEntries r
def uptoBulkEntry {H : Type} : Lit × DataW H → Nat
  | (.string bytes, d) => bytes.length + uptoBulk d + 1
  | (_, d) => uptoBulk d + 1
 end
def uptoSmall : (H : Type) → List (DataW H) → Bool := fun _ ds => decide (uptoBulkAll ds ≤ 1048576)
def OpenSpec.upto (s : _root_.Go.ChangeSpec) : _root_.Go.OpenSpec := { _root_.Go.OpenSpec.ofChange s with cond := some uptoSmall }

/-- 'penumbralaw33.SeriesTails', WHERE WHAT IT READS IS OF BULK AT MOST 1048576: true; the input reads as it did. -/
def seriesTailsUptoRow : OpenClaim := { program := "ytbjjjbjhpcdgmaa", sum := "09783baffc7a0a251c27c0bc3d5f07a4344997c10895297a41af3820cee8dac9", func := "penumbra/penumbralaw33.SeriesTails", spec := "seriesTails", unfollowed := true, recurses := true, apart := false, narrowed := true }
def SeriesTailsUptoSaid : Prop := seriesTailsUptoRow.holds Try.pinned (OpenSpec.upto seriesTailsSpec)

/-- 'penumbralaw33.SeriesSums', WHERE WHAT IT READS IS OF BULK AT MOST 1048576: true; the input reads as it did. -/
def seriesSumsUptoRow : OpenClaim := { program := "ytbjjjbjhpcdgmaa", sum := "09783baffc7a0a251c27c0bc3d5f07a4344997c10895297a41af3820cee8dac9", func := "penumbra/penumbralaw33.SeriesSums", spec := "seriesSums", unfollowed := true, recurses := true, apart := false, narrowed := true }
def SeriesSumsUptoSaid : Prop := seriesSumsUptoRow.holds Try.pinned (OpenSpec.upto seriesSumsSpec)

/-- 'penumbralaw33.SeriesSteps', WHERE WHAT IT READS IS OF BULK AT MOST 1048576: true; the input reads as it did. -/
def seriesStepsUptoRow : OpenClaim := { program := "ytbjjjbjhpcdgmaa", sum := "09783baffc7a0a251c27c0bc3d5f07a4344997c10895297a41af3820cee8dac9", func := "penumbra/penumbralaw33.SeriesSteps", spec := "seriesSteps", unfollowed := true, recurses := true, apart := false, narrowed := true }
def SeriesStepsUptoSaid : Prop := seriesStepsUptoRow.holds Try.pinned (OpenSpec.upto seriesStepsSpec)

end Rows
end Go.Proofs.Ytbjjjbjhpcdgmaa
