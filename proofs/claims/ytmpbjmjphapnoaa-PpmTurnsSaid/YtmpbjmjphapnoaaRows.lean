/-
  No cell of these rows narrows 'for every input' (looked for: loops, veiled, ifaces, maps, wideKeys, modest, calm, conditions, laid).
  DERIVED. THE GIVEN ROWS OF THIS SEAT. 4 by the template 'for every input the law returns true; each argument reads behind the call as it read before'; 0 by the template 'total and deterministic' (their statements: YtmpbjmjphapnoaaTotals.lean).
  GIVEN WITH THE SEED: the statements are not yours to turn. If you find one false, say at which input.
  Laid BY PROGRAM, IN A SANDBOX (cutbox-rows.mjs): the forced cells as the released guide's own fill.sh prints them over the translation 2d478abdd91ad56b… (all of the seat's roots in one cut). By AI agents, Wed Nov 11 2026. No macro, syntax, notation, axiom, sorry.
-/
import Derived.Test.YtmpbjmjphapnoaaChecked
import GoSem.Claim
import GoSem.ClaimJoined
import GoSem.ClaimMapViews
import Derived.JoinedTies
import Derived.KernelRfl
namespace Go.Proofs.Ytmpbjmjphapnoaa
/- THE CELL 'sum', in the pinned program and in every row, IS THE sha256 OF THE DUMP (.gsa) THAT YtmpbjmjphapnoaaProg.lean LOADS. Nothing in Lean hashes anything: it is a label: what it is worth is what the hold of that sum in a sandbox is worth. -/
noncomputable def Try.pinned : Pinned := { name := "ytmpbjmjphapnoaa", sum := "2d478abdd91ad56bc71a1362e02f185e6b2faa677fe5aff60a39fe1a2dfa56f6", checked := Try.checked }
namespace Rows
def none {H : Type} : Left H := { results := [], args := [] }

/-- 'penumbralaw44.PpmEncodes': WHATEVER THE INPUT: true; the input reads as it did. -/
def ppmEncodesSpec : ChangeSpec := { name := "ppmEncodes", fn := fun _ => fun
  | [d1, d2, d3] => { results := [.lit (.bool true)], args := [d1, d2, d3] }
  | _ => none }
def ppmEncodesRow : OpenClaim := { program := "ytmpbjmjphapnoaa", sum := "2d478abdd91ad56bc71a1362e02f185e6b2faa677fe5aff60a39fe1a2dfa56f6", func := "penumbra/penumbralaw44.PpmEncodes", spec := "ppmEncodes", inPlace := ["internal/bytealg.IndexByteString", "internal/bytealg.IndexString"], unfollowed := true, recurses := true, named := ["internal/bytealg.MaxLen"], apart := false }
def PpmEncodesSaid : Prop := ppmEncodesRow.holds Try.pinned (OpenSpec.ofChange ppmEncodesSpec)

/-- ITS FALSE NEIGHBOUR: 'it returns false'. Refute it at one input. -/
def ppmEncodesWrong : ChangeSpec := { name := "ppmEncodes", fn := fun _ => fun
  | [d1, d2, d3] => { results := [.lit (.bool false)], args := [d1, d2, d3] }
  | _ => none }
def PpmEncodesWrongFalsely : Prop := ppmEncodesRow.holds Try.pinned (OpenSpec.ofChange ppmEncodesWrong)

/-- 'penumbralaw44.PpmDecodes': WHATEVER THE INPUT: true; the input reads as it did. -/
def ppmDecodesSpec : ChangeSpec := { name := "ppmDecodes", fn := fun _ => fun
  | [d] => { results := [.lit (.bool true)], args := [d] }
  | _ => none }
def ppmDecodesRow : OpenClaim := { program := "ytmpbjmjphapnoaa", sum := "2d478abdd91ad56bc71a1362e02f185e6b2faa677fe5aff60a39fe1a2dfa56f6", func := "penumbra/penumbralaw44.PpmDecodes", spec := "ppmDecodes", inPlace := ["internal/bytealg.IndexByteString", "internal/bytealg.IndexString"], unfollowed := true, recurses := true, named := ["internal/bytealg.MaxLen"], apart := false }
def PpmDecodesSaid : Prop := ppmDecodesRow.holds Try.pinned (OpenSpec.ofChange ppmDecodesSpec)

/-- ITS FALSE NEIGHBOUR: 'it returns false'. Refute it at one input. -/
def ppmDecodesWrong : ChangeSpec := { name := "ppmDecodes", fn := fun _ => fun
  | [d] => { results := [.lit (.bool false)], args := [d] }
  | _ => none }
def PpmDecodesWrongFalsely : Prop := ppmDecodesRow.holds Try.pinned (OpenSpec.ofChange ppmDecodesWrong)

/-- 'penumbralaw44.PpmAgain': WHATEVER THE INPUT: true; the input reads as it did. -/
def ppmAgainSpec : ChangeSpec := { name := "ppmAgain", fn := fun _ => fun
  | [d1, d2, d3] => { results := [.lit (.bool true)], args := [d1, d2, d3] }
  | _ => none }
def ppmAgainRow : OpenClaim := { program := "ytmpbjmjphapnoaa", sum := "2d478abdd91ad56bc71a1362e02f185e6b2faa677fe5aff60a39fe1a2dfa56f6", func := "penumbra/penumbralaw44.PpmAgain", spec := "ppmAgain", inPlace := ["internal/bytealg.IndexByteString", "internal/bytealg.IndexString"], unfollowed := true, recurses := true, named := ["internal/bytealg.MaxLen"], apart := false }
def PpmAgainSaid : Prop := ppmAgainRow.holds Try.pinned (OpenSpec.ofChange ppmAgainSpec)

/-- ITS FALSE NEIGHBOUR: 'it returns false'. Refute it at one input. -/
def ppmAgainWrong : ChangeSpec := { name := "ppmAgain", fn := fun _ => fun
  | [d1, d2, d3] => { results := [.lit (.bool false)], args := [d1, d2, d3] }
  | _ => none }
def PpmAgainWrongFalsely : Prop := ppmAgainRow.holds Try.pinned (OpenSpec.ofChange ppmAgainWrong)

/-- 'penumbralaw44.PpmTurns': WHATEVER THE INPUT: true; the input reads as it did. -/
def ppmTurnsSpec : ChangeSpec := { name := "ppmTurns", fn := fun _ => fun
  | [d1, d2, d3] => { results := [.lit (.bool true)], args := [d1, d2, d3] }
  | _ => none }
def ppmTurnsRow : OpenClaim := { program := "ytmpbjmjphapnoaa", sum := "2d478abdd91ad56bc71a1362e02f185e6b2faa677fe5aff60a39fe1a2dfa56f6", func := "penumbra/penumbralaw44.PpmTurns", spec := "ppmTurns", inPlace := ["internal/bytealg.IndexByteString", "internal/bytealg.IndexString"], unfollowed := true, recurses := true, named := ["internal/bytealg.MaxLen"], apart := false }
def PpmTurnsSaid : Prop := ppmTurnsRow.holds Try.pinned (OpenSpec.ofChange ppmTurnsSpec)

/-- ITS FALSE NEIGHBOUR: 'it returns false'. Refute it at one input. -/
def ppmTurnsWrong : ChangeSpec := { name := "ppmTurns", fn := fun _ => fun
  | [d1, d2, d3] => { results := [.lit (.bool false)], args := [d1, d2, d3] }
  | _ => none }
def PpmTurnsWrongFalsely : Prop := ppmTurnsRow.holds Try.pinned (OpenSpec.ofChange ppmTurnsWrong)

/- THE SECOND FORM. 'bulk': how many values and letters a reading holds, each counted each time it is reached (what is shared counts as often as it is met; a slice's spare places count too). A statement '..UptoSaid' is the law's where the arguments, and the package variables that the reading takes, are together of bulk at most 1048576: NARROWER than '..Said'. Prove '..Said' where nothing that the law and all that it calls make is longer than what came in: it says more and counts as full. Else prove '..UptoSaid'. A law counts once. -/
mutual
def uptoBulk {H : Type} : DataW H → Nat
  | .lit (.string bytes) => bytes.length + 1
  | .lit _ => 1
  | .nil => 1
  | .ptr d => uptoBulk d + 1
  | .slice elems spare => uptoBulkAll elems + uptoBulkAll spare + 1
  | .agg parts => uptoBulkAll parts + 1
  | .iface _ d => uptoBulk d + 1
  | .map entries => uptoBulkEntries entries + 1
  | .held _ => 1
def uptoBulkAll {H : Type} : List (DataW H) → Nat
  | [] => 0
  | d :: r => uptoBulk d + uptoBulkAll r
def uptoBulkEntries {H : Type} : List (Lit × DataW H) → Nat
  | [] => 0
  | x :: r => uptoBulkEntry x + uptoBulkEntries r
def uptoBulkEntry {H : Type} : Lit × DataW H → Nat
  | (.string bytes, d) => bytes.length + uptoBulk d + 1
  | (_, d) => uptoBulk d + 1
 end
def uptoSmall : (H : Type) → List (DataW H) → Bool := fun _ ds => decide (uptoBulkAll ds ≤ 1048576)
def OpenSpec.upto (s : _root_.Go.ChangeSpec) : _root_.Go.OpenSpec := { _root_.Go.OpenSpec.ofChange s with cond := some uptoSmall }

/-- 'penumbralaw44.PpmEncodes', WHERE WHAT IT READS IS OF BULK AT MOST 1048576: true; the input reads as it did. -/
def ppmEncodesUptoRow : OpenClaim := { program := "ytmpbjmjphapnoaa", sum := "2d478abdd91ad56bc71a1362e02f185e6b2faa677fe5aff60a39fe1a2dfa56f6", func := "penumbra/penumbralaw44.PpmEncodes", spec := "ppmEncodes", inPlace := ["internal/bytealg.IndexByteString", "internal/bytealg.IndexString"], unfollowed := true, recurses := true, named := ["internal/bytealg.MaxLen"], apart := false, narrowed := true }
def PpmEncodesUptoSaid : Prop := ppmEncodesUptoRow.holds Try.pinned (OpenSpec.upto ppmEncodesSpec)

/-- 'penumbralaw44.PpmDecodes', WHERE WHAT IT READS IS OF BULK AT MOST 1048576: true; the input reads as it did. -/
def ppmDecodesUptoRow : OpenClaim := { program := "ytmpbjmjphapnoaa", sum := "2d478abdd91ad56bc71a1362e02f185e6b2faa677fe5aff60a39fe1a2dfa56f6", func := "penumbra/penumbralaw44.PpmDecodes", spec := "ppmDecodes", inPlace := ["internal/bytealg.IndexByteString", "internal/bytealg.IndexString"], unfollowed := true, recurses := true, named := ["internal/bytealg.MaxLen"], apart := false, narrowed := true }
def PpmDecodesUptoSaid : Prop := ppmDecodesUptoRow.holds Try.pinned (OpenSpec.upto ppmDecodesSpec)

/-- 'penumbralaw44.PpmAgain', WHERE WHAT IT READS IS OF BULK AT MOST 1048576: true; the input reads as it did. -/
def ppmAgainUptoRow : OpenClaim := { program := "ytmpbjmjphapnoaa", sum := "2d478abdd91ad56bc71a1362e02f185e6b2faa677fe5aff60a39fe1a2dfa56f6", func := "penumbra/penumbralaw44.PpmAgain", spec := "ppmAgain", inPlace := ["internal/bytealg.IndexByteString", "internal/bytealg.IndexString"], unfollowed := true, recurses := true, named := ["internal/bytealg.MaxLen"], apart := false, narrowed := true }
def PpmAgainUptoSaid : Prop := ppmAgainUptoRow.holds Try.pinned (OpenSpec.upto ppmAgainSpec)

/-- 'penumbralaw44.PpmTurns', WHERE WHAT IT READS IS OF BULK AT MOST 1048576: true; the input reads as it did. -/
def ppmTurnsUptoRow : OpenClaim := { program := "ytmpbjmjphapnoaa", sum := "2d478abdd91ad56bc71a1362e02f185e6b2faa677fe5aff60a39fe1a2dfa56f6", func := "penumbra/penumbralaw44.PpmTurns", spec := "ppmTurns", inPlace := ["internal/bytealg.IndexByteString", "internal/bytealg.IndexString"], unfollowed := true, recurses := true, named := ["internal/bytealg.MaxLen"], apart := false, narrowed := true }
def PpmTurnsUptoSaid : Prop := ppmTurnsUptoRow.holds Try.pinned (OpenSpec.upto ppmTurnsSpec)

end Rows
end Go.Proofs.Ytmpbjmjphapnoaa
