/-
  No cell of these rows narrows 'for every input' (looked for: loops, veiled, ifaces, maps, wideKeys, modest, calm, conditions, laid).
  DERIVED. THE GIVEN ROWS OF THIS SEAT. 3 by the template 'for every input the law returns true; each argument reads behind the call as it read before'; 0 by the template 'total and deterministic' (their statements: YtgkncmnkbhgjmaaTotals.lean).
  GIVEN WITH THE SEED: the statements are not yours to turn. If you find one false, say at which input.
  Laid BY PROGRAM, IN A SANDBOX (cutbox-rows.mjs): the forced cells as the released guide's own fill.sh prints them over the translation 1eb5b756e378ce12… (all of the seat's roots in one cut). By AI agents, Wed Nov 11 2026. No macro, syntax, notation, axiom, sorry.
-/
import Derived.Test.YtgkncmnkbhgjmaaChecked
import GoSem.Claim
import GoSem.ClaimJoined
import GoSem.ClaimMapViews
import Derived.JoinedTies
import Derived.KernelRfl
namespace Go.Proofs.Ytgkncmnkbhgjmaa
/- THE CELL 'sum', in the pinned program and in every row, IS THE sha256 OF THE DUMP (.gsa) THAT YtgkncmnkbhgjmaaProg.lean LOADS. Nothing in Lean hashes anything: it is a label: what it is worth is what the hold of that sum in a sandbox is worth. -/
noncomputable def Try.pinned : Pinned := { name := "ytgkncmnkbhgjmaa", sum := "1eb5b756e378ce12075a1a89fff2cc4c08b4e632ce2a5d1b86f854cd826a31c3", checked := Try.checked }
namespace Rows
def none {H : Type} : Left H := { results := [], args := [] }

/-- 'penumbralaw36.CutTerms': WHATEVER THE INPUT: true; the input reads as it did. -/
def cutTermsSpec : ChangeSpec := { name := "cutTerms", fn := fun _ => fun
  | [d] => { results := [.lit (.bool true)], args := [d] }
  | _ => none }
def cutTermsRow : OpenClaim := { program := "ytgkncmnkbhgjmaa", sum := "1eb5b756e378ce12075a1a89fff2cc4c08b4e632ce2a5d1b86f854cd826a31c3", func := "penumbra/penumbralaw36.CutTerms", spec := "cutTerms", unfollowed := true, recurses := true, apart := false }
def CutTermsSaid : Prop := cutTermsRow.holds Try.pinned (OpenSpec.ofChange cutTermsSpec)

/-- ITS FALSE NEIGHBOUR: 'it returns false'. Refute it at one input. -/
def cutTermsWrong : ChangeSpec := { name := "cutTerms", fn := fun _ => fun
  | [d] => { results := [.lit (.bool false)], args := [d] }
  | _ => none }
def CutTermsWrongFalsely : Prop := cutTermsRow.holds Try.pinned (OpenSpec.ofChange cutTermsWrong)

/-- 'penumbralaw36.CutBounds': WHATEVER THE INPUT: true; the input reads as it did. -/
def cutBoundsSpec : ChangeSpec := { name := "cutBounds", fn := fun _ => fun
  | [d] => { results := [.lit (.bool true)], args := [d] }
  | _ => none }
def cutBoundsRow : OpenClaim := { program := "ytgkncmnkbhgjmaa", sum := "1eb5b756e378ce12075a1a89fff2cc4c08b4e632ce2a5d1b86f854cd826a31c3", func := "penumbra/penumbralaw36.CutBounds", spec := "cutBounds", unfollowed := true, recurses := true, apart := false }
def CutBoundsSaid : Prop := cutBoundsRow.holds Try.pinned (OpenSpec.ofChange cutBoundsSpec)

/-- ITS FALSE NEIGHBOUR: 'it returns false'. Refute it at one input. -/
def cutBoundsWrong : ChangeSpec := { name := "cutBounds", fn := fun _ => fun
  | [d] => { results := [.lit (.bool false)], args := [d] }
  | _ => none }
def CutBoundsWrongFalsely : Prop := cutBoundsRow.holds Try.pinned (OpenSpec.ofChange cutBoundsWrong)

/-- 'penumbralaw36.CutLost': WHATEVER THE INPUT: true; the input reads as it did. -/
def cutLostSpec : ChangeSpec := { name := "cutLost", fn := fun _ => fun
  | [d] => { results := [.lit (.bool true)], args := [d] }
  | _ => none }
def cutLostRow : OpenClaim := { program := "ytgkncmnkbhgjmaa", sum := "1eb5b756e378ce12075a1a89fff2cc4c08b4e632ce2a5d1b86f854cd826a31c3", func := "penumbra/penumbralaw36.CutLost", spec := "cutLost", unfollowed := true, recurses := true, apart := false }
def CutLostSaid : Prop := cutLostRow.holds Try.pinned (OpenSpec.ofChange cutLostSpec)

/-- ITS FALSE NEIGHBOUR: 'it returns false'. Refute it at one input. -/
def cutLostWrong : ChangeSpec := { name := "cutLost", fn := fun _ => fun
  | [d] => { results := [.lit (.bool false)], args := [d] }
  | _ => none }
def CutLostWrongFalsely : Prop := cutLostRow.holds Try.pinned (OpenSpec.ofChange cutLostWrong)

/- THE SECOND FORM. 'bulk': how many values and letters a reading holds, each counted each time it is reached (what is shared counts as often as it is met; a slice's spare places count too). A statement '..UptoSaid' is the law's where the arguments, and the package variables that the reading takes, are together of bulk at most 1048576: NARROWER than '..Said'. Prove '..Said' where nothing that the law and all that it calls make is longer than what came in: it says more and counts as full. Else prove '..UptoSaid'. A law counts once. -/
mutual
def uptoBulk {H : Type} : DataW H → Nat
  | .lit (.string bytes) => bytes.length + 1
  | .lit _ => 1
  | .nil => 1
  | .ptr d => uptoBulk d + 1
  | .slice elems spare => uptoBulkAll elems + uptoBulkAll spare + 1
  | .agg parts => uptoBulkAll parts + 1
  | .iface _ d => uptoBulk d + 1
  | .map entries => uptoBulkEntries entries + 1
  | .held _ => 1
def uptoBulkAll {H : Type} : List (DataW H) → Nat
  | [] => 0
  | d :: r => uptoBulk d + uptoBulkAll r
def uptoBulkEntries {H : Type} : List (Lit × DataW H) → Nat
  | [] => 0
  | x :: r => uptoBulkEntry x + uptoBulkEntries r
def uptoBulkEntry {H : Type} : Lit × DataW H → Nat
  | (.string bytes, d) => bytes.length + uptoBulk d + 1
  | (_, d) => uptoBulk d + 1
 end
def uptoSmall : (H : Type) → List (DataW H) → Bool := fun _ ds => decide (uptoBulkAll ds ≤ 1048576)
def OpenSpec.upto (s : _root_.Go.ChangeSpec) : _root_.Go.OpenSpec := { _root_.Go.OpenSpec.ofChange s with cond := some uptoSmall }

/-- 'penumbralaw36.CutTerms', WHERE WHAT IT READS IS OF BULK AT MOST 1048576: true; the input reads as it did. -/
def cutTermsUptoRow : OpenClaim := { program := "ytgkncmnkbhgjmaa", sum := "1eb5b756e378ce12075a1a89fff2cc4c08b4e632ce2a5d1b86f854cd826a31c3", func := "penumbra/penumbralaw36.CutTerms", spec := "cutTerms", unfollowed := true, recurses := true, apart := false, narrowed := true }
def CutTermsUptoSaid : Prop := cutTermsUptoRow.holds Try.pinned (OpenSpec.upto cutTermsSpec)

/-- 'penumbralaw36.CutBounds', WHERE WHAT IT READS IS OF BULK AT MOST 1048576: true; the input reads as it did. -/
def cutBoundsUptoRow : OpenClaim := { program := "ytgkncmnkbhgjmaa", sum := "1eb5b756e378ce12075a1a89fff2cc4c08b4e632ce2a5d1b86f854cd826a31c3", func := "penumbra/penumbralaw36.CutBounds", spec := "cutBounds", unfollowed := true, recurses := true, apart := false, narrowed := true }
def CutBoundsUptoSaid : Prop := cutBoundsUptoRow.holds Try.pinned (OpenSpec.upto cutBoundsSpec)

/-- 'penumbralaw36.CutLost', WHERE WHAT IT READS IS OF BULK AT MOST 1048576: true; the input reads as it did. -/
def cutLostUptoRow : OpenClaim := { program := "ytgkncmnkbhgjmaa", sum := "1eb5b756e378ce12075a1a89fff2cc4c08b4e632ce2a5d1b86f854cd826a31c3", func := "penumbra/penumbralaw36.CutLost", spec := "cutLost", unfollowed := true, recurses := true, apart := false, narrowed := true }
def CutLostUptoSaid : Prop := cutLostUptoRow.holds Try.pinned (OpenSpec.upto cutLostSpec)

end Rows
end Go.Proofs.Ytgkncmnkbhgjmaa
