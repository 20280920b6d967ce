/-
  No cell of these rows narrows 'for every input' (looked for: loops, veiled, ifaces, maps, wideKeys, modest, calm, conditions, laid).
  DERIVED. THE GIVEN ROWS OF THIS SEAT. 4 by the template 'for every input the law returns true; each argument reads behind the call as it read before'; 0 by the template 'total and deterministic' (their statements: YtgkgnihjjabapaaTotals.lean).
  GIVEN WITH THE SEED: the statements are not yours to turn. If you find one false, say at which input.
  Laid BY PROGRAM, IN A SANDBOX (cutbox-rows.mjs): the forced cells as the released guide's own fill.sh prints them over the translation 8ffb400d82b73bc4… (all of the seat's roots in one cut). By AI agents, Wed Nov 11 2026. No macro, syntax, notation, axiom, sorry.
-/
import Derived.Test.YtgkgnihjjabapaaChecked
import GoSem.Claim
import GoSem.ClaimJoined
import GoSem.ClaimMapViews
import Derived.JoinedTies
import Derived.KernelRfl
namespace Go.Proofs.Ytgkgnihjjabapaa
/- THE CELL 'sum', in the pinned program and in every row, IS THE sha256 OF THE DUMP (.gsa) THAT YtgkgnihjjabapaaProg.lean LOADS. Nothing in Lean hashes anything: it is a label: what it is worth is what the hold of that sum in a sandbox is worth. -/
noncomputable def Try.pinned : Pinned := { name := "ytgkgnihjjabapaa", sum := "8ffb400d82b73bc46bc1ada29036a469c012d2be0fc31e27c01e4b4d698db709", checked := Try.checked }
namespace Rows
def none {H : Type} : Left H := { results := [], args := [] }

/-- 'penumbralaw35.WalkFollows': WHATEVER THE INPUT: true; the input reads as it did. -/
def walkFollowsSpec : ChangeSpec := { name := "walkFollows", fn := fun _ => fun
  | [d] => { results := [.lit (.bool true)], args := [d] }
  | _ => none }
def walkFollowsRow : OpenClaim := { program := "ytgkgnihjjabapaa", sum := "8ffb400d82b73bc46bc1ada29036a469c012d2be0fc31e27c01e4b4d698db709", func := "penumbra/penumbralaw35.WalkFollows", spec := "walkFollows", unfollowed := true, recurses := true, apart := false }
def WalkFollowsSaid : Prop := walkFollowsRow.holds Try.pinned (OpenSpec.ofChange walkFollowsSpec)

/-- ITS FALSE NEIGHBOUR: 'it returns false'. Refute it at one input. -/
def walkFollowsWrong : ChangeSpec := { name := "walkFollows", fn := fun _ => fun
  | [d] => { results := [.lit (.bool false)], args := [d] }
  | _ => none }
def WalkFollowsWrongFalsely : Prop := walkFollowsRow.holds Try.pinned (OpenSpec.ofChange walkFollowsWrong)

/-- 'penumbralaw35.WalkMeans': WHATEVER THE INPUT: true; the input reads as it did. -/
def walkMeansSpec : ChangeSpec := { name := "walkMeans", fn := fun _ => fun
  | [d1, d2, d3] => { results := [.lit (.bool true)], args := [d1, d2, d3] }
  | _ => none }
def walkMeansRow : OpenClaim := { program := "ytgkgnihjjabapaa", sum := "8ffb400d82b73bc46bc1ada29036a469c012d2be0fc31e27c01e4b4d698db709", func := "penumbra/penumbralaw35.WalkMeans", spec := "walkMeans", unfollowed := true, recurses := true, apart := false }
def WalkMeansSaid : Prop := walkMeansRow.holds Try.pinned (OpenSpec.ofChange walkMeansSpec)

/-- ITS FALSE NEIGHBOUR: 'it returns false'. Refute it at one input. -/
def walkMeansWrong : ChangeSpec := { name := "walkMeans", fn := fun _ => fun
  | [d1, d2, d3] => { results := [.lit (.bool false)], args := [d1, d2, d3] }
  | _ => none }
def WalkMeansWrongFalsely : Prop := walkMeansRow.holds Try.pinned (OpenSpec.ofChange walkMeansWrong)

/-- 'penumbralaw35.WalkAll': WHATEVER THE INPUT: true; the input reads as it did. -/
def walkAllSpec : ChangeSpec := { name := "walkAll", fn := fun _ => fun
  | [d] => { results := [.lit (.bool true)], args := [d] }
  | _ => none }
def walkAllRow : OpenClaim := { program := "ytgkgnihjjabapaa", sum := "8ffb400d82b73bc46bc1ada29036a469c012d2be0fc31e27c01e4b4d698db709", func := "penumbra/penumbralaw35.WalkAll", spec := "walkAll", unfollowed := true, recurses := true, apart := false }
def WalkAllSaid : Prop := walkAllRow.holds Try.pinned (OpenSpec.ofChange walkAllSpec)

/-- ITS FALSE NEIGHBOUR: 'it returns false'. Refute it at one input. -/
def walkAllWrong : ChangeSpec := { name := "walkAll", fn := fun _ => fun
  | [d] => { results := [.lit (.bool false)], args := [d] }
  | _ => none }
def WalkAllWrongFalsely : Prop := walkAllRow.holds Try.pinned (OpenSpec.ofChange walkAllWrong)

/-- 'penumbralaw35.WalkFits': WHATEVER THE INPUT: true; the input reads as it did. -/
def walkFitsSpec : ChangeSpec := { name := "walkFits", fn := fun _ => fun
  | [d] => { results := [.lit (.bool true)], args := [d] }
  | _ => none }
def walkFitsRow : OpenClaim := { program := "ytgkgnihjjabapaa", sum := "8ffb400d82b73bc46bc1ada29036a469c012d2be0fc31e27c01e4b4d698db709", func := "penumbra/penumbralaw35.WalkFits", spec := "walkFits", unfollowed := true, recurses := true, apart := false }
def WalkFitsSaid : Prop := walkFitsRow.holds Try.pinned (OpenSpec.ofChange walkFitsSpec)

/-- ITS FALSE NEIGHBOUR: 'it returns false'. Refute it at one input. -/
def walkFitsWrong : ChangeSpec := { name := "walkFits", fn := fun _ => fun
  | [d] => { results := [.lit (.bool false)], args := [d] }
  | _ => none }
def WalkFitsWrongFalsely : Prop := walkFitsRow.holds Try.pinned (OpenSpec.ofChange walkFitsWrong)

/- THE SECOND FORM. 'bulk': how many values and letters a reading holds, each counted each time it is reached (what is shared counts as often as it is met; a slice's spare places count too). A statement '..UptoSaid' is the law's where the arguments, and the package variables that the reading takes, are together of bulk at most 1048576: NARROWER than '..Said'. Prove '..Said' where nothing that the law and all that it calls make is longer than what came in: it says more and counts as full. Else prove '..UptoSaid'. A law counts once. -/
mutual
def uptoBulk {H : Type} : DataW H → Nat
  | .lit (.string bytes) => bytes.length + 1
  | .lit _ => 1
  | .nil => 1
  | .ptr d => uptoBulk d + 1
  | .slice elems spare => uptoBulkAll elems + uptoBulkAll spare + 1
  | .agg parts => uptoBulkAll parts + 1
  | .iface _ d => uptoBulk d + 1
  | .map entries => uptoBulkEntries entries + 1
  | .held _ => 1
def uptoBulkAll {H : Type} : List (DataW H) → Nat
  | [] => 0
  | d :: r => uptoBulk d + uptoBulkAll r
def uptoBulkEntries {H : Type} : List (Lit × DataW H) → Nat
  | [] => 0
  | x :: r => uptoBulkEntry x + uptoBulkEntries r
def uptoBulkEntry {H : Type} : Lit × DataW H → Nat
  | (.string bytes, d) => bytes.length + uptoBulk d + 1
  | (_, d) => uptoBulk d + 1
 end
def uptoSmall : (H : Type) → List (DataW H) → Bool := fun _ ds => decide (uptoBulkAll ds ≤ 1048576)
def OpenSpec.upto (s : _root_.Go.ChangeSpec) : _root_.Go.OpenSpec := { _root_.Go.OpenSpec.ofChange s with cond := some uptoSmall }

/-- 'penumbralaw35.WalkFollows', WHERE WHAT IT READS IS OF BULK AT MOST 1048576: true; the input reads as it did. -/
def walkFollowsUptoRow : OpenClaim := { program := "ytgkgnihjjabapaa", sum := "8ffb400d82b73bc46bc1ada29036a469c012d2be0fc31e27c01e4b4d698db709", func := "penumbra/penumbralaw35.WalkFollows", spec := "walkFollows", unfollowed := true, recurses := true, apart := false, narrowed := true }
def WalkFollowsUptoSaid : Prop := walkFollowsUptoRow.holds Try.pinned (OpenSpec.upto walkFollowsSpec)

/-- 'penumbralaw35.WalkMeans', WHERE WHAT IT READS IS OF BULK AT MOST 1048576: true; the input reads as it did. -/
def walkMeansUptoRow : OpenClaim := { program := "ytgkgnihjjabapaa", sum := "8ffb400d82b73bc46bc1ada29036a469c012d2be0fc31e27c01e4b4d698db709", func := "penumbra/penumbralaw35.WalkMeans", spec := "walkMeans", unfollowed := true, recurses := true, apart := false, narrowed := true }
def WalkMeansUptoSaid : Prop := walkMeansUptoRow.holds Try.pinned (OpenSpec.upto walkMeansSpec)

/-- 'penumbralaw35.WalkAll', WHERE WHAT IT READS IS OF BULK AT MOST 1048576: true; the input reads as it did. -/
def walkAllUptoRow : OpenClaim := { program := "ytgkgnihjjabapaa", sum := "8ffb400d82b73bc46bc1ada29036a469c012d2be0fc31e27c01e4b4d698db709", func := "penumbra/penumbralaw35.WalkAll", spec := "walkAll", unfollowed := true, recurses := true, apart := false, narrowed := true }
def WalkAllUptoSaid : Prop := walkAllUptoRow.holds Try.pinned (OpenSpec.upto walkAllSpec)

/-- 'penumbralaw35.WalkFits', WHERE WHAT IT READS IS OF BULK AT MOST 1048576: true; the input reads as it did. -/
def walkFitsUptoRow : OpenClaim := { program := "ytgkgnihjjabapaa", sum := "8ffb400d82b73bc46bc1ada29036a469c012d2be0fc31e27c01e4b4d698db709", func := "penumbra/penumbralaw35.WalkFits", spec := "walkFits", unfollowed := true, recurses := true, apart := false, narrowed := true }
def WalkFitsUptoSaid : Prop := walkFitsUptoRow.holds Try.pinned (OpenSpec.upto walkFitsSpec)

end Rows
end Go.Proofs.Ytgkgnihjjabapaa
