/-
  No cell of these rows narrows 'for every input' (looked for: loops, veiled, ifaces, maps, wideKeys, modest, calm, conditions, laid).
  DERIVED. THE GIVEN ROWS OF THIS SEAT. 3 by the template 'for every input the law returns true; each argument reads behind the call as it read before'; 0 by the template 'total and deterministic' (their statements: YtkmdbidjdppdnaaTotals.lean).
  GIVEN WITH THE SEED: the statements are not yours to turn. If you find one false, say at which input.
  Laid BY PROGRAM, IN A SANDBOX (cutbox-rows.mjs): the forced cells as the released guide's own fill.sh prints them over the translation e81e89903b21b2d6… (all of the seat's roots in one cut). By AI agents, Wed Nov 11 2026. No macro, syntax, notation, axiom, sorry.
-/
import Derived.Test.YtkmdbidjdppdnaaChecked
import GoSem.Claim
import GoSem.ClaimJoined
import GoSem.ClaimMapViews
import Derived.JoinedTies
import Derived.KernelRfl
namespace Go.Proofs.Ytkmdbidjdppdnaa
/- THE CELL 'sum', in the pinned program and in every row, IS THE sha256 OF THE DUMP (.gsa) THAT YtkmdbidjdppdnaaProg.lean LOADS. Nothing in Lean hashes anything: it is a label: what it is worth is what the hold of that sum in a sandbox is worth. -/
noncomputable def Try.pinned : Pinned := { name := "ytkmdbidjdppdnaa", sum := "e81e89903b21b2d6bd50f50d5af3ffbb6e368be3f7ff2aa9936d99976a78905d", checked := Try.checked }
namespace Rows
def none {H : Type} : Left H := { results := [], args := [] }

/-- 'penumbralaw42.StrataGrid': WHATEVER THE INPUT: true; the input reads as it did. -/
def strataGridSpec : ChangeSpec := { name := "strataGrid", fn := fun _ => fun
  | [d1, d2] => { results := [.lit (.bool true)], args := [d1, d2] }
  | _ => none }
def strataGridRow : OpenClaim := { program := "ytkmdbidjdppdnaa", sum := "e81e89903b21b2d6bd50f50d5af3ffbb6e368be3f7ff2aa9936d99976a78905d", func := "penumbra/penumbralaw42.StrataGrid", spec := "strataGrid", unfollowed := true, recurses := true, apart := false }
def StrataGridSaid : Prop := strataGridRow.holds Try.pinned (OpenSpec.ofChange strataGridSpec)

/-- ITS FALSE NEIGHBOUR: 'it returns false'. Refute it at one input. -/
def strataGridWrong : ChangeSpec := { name := "strataGrid", fn := fun _ => fun
  | [d1, d2] => { results := [.lit (.bool false)], args := [d1, d2] }
  | _ => none }
def StrataGridWrongFalsely : Prop := strataGridRow.holds Try.pinned (OpenSpec.ofChange strataGridWrong)

/-- 'penumbralaw42.StrataLatin': WHATEVER THE INPUT: true; the input reads as it did. -/
def strataLatinSpec : ChangeSpec := { name := "strataLatin", fn := fun _ => fun
  | [d] => { results := [.lit (.bool true)], args := [d] }
  | _ => none }
def strataLatinRow : OpenClaim := { program := "ytkmdbidjdppdnaa", sum := "e81e89903b21b2d6bd50f50d5af3ffbb6e368be3f7ff2aa9936d99976a78905d", func := "penumbra/penumbralaw42.StrataLatin", spec := "strataLatin", unfollowed := true, recurses := true, apart := false }
def StrataLatinSaid : Prop := strataLatinRow.holds Try.pinned (OpenSpec.ofChange strataLatinSpec)

/-- ITS FALSE NEIGHBOUR: 'it returns false'. Refute it at one input. -/
def strataLatinWrong : ChangeSpec := { name := "strataLatin", fn := fun _ => fun
  | [d] => { results := [.lit (.bool false)], args := [d] }
  | _ => none }
def StrataLatinWrongFalsely : Prop := strataLatinRow.holds Try.pinned (OpenSpec.ofChange strataLatinWrong)

/-- 'penumbralaw42.StrataCounts': WHATEVER THE INPUT: true; the input reads as it did. -/
def strataCountsSpec : ChangeSpec := { name := "strataCounts", fn := fun _ => fun
  | [d1, d2] => { results := [.lit (.bool true)], args := [d1, d2] }
  | _ => none }
def strataCountsRow : OpenClaim := { program := "ytkmdbidjdppdnaa", sum := "e81e89903b21b2d6bd50f50d5af3ffbb6e368be3f7ff2aa9936d99976a78905d", func := "penumbra/penumbralaw42.StrataCounts", spec := "strataCounts", unfollowed := true, recurses := true, apart := false }
def StrataCountsSaid : Prop := strataCountsRow.holds Try.pinned (OpenSpec.ofChange strataCountsSpec)

/-- ITS FALSE NEIGHBOUR: 'it returns false'. Refute it at one input. -/
def strataCountsWrong : ChangeSpec := { name := "strataCounts", fn := fun _ => fun
  | [d1, d2] => { results := [.lit (.bool false)], args := [d1, d2] }
  | _ => none }
def StrataCountsWrongFalsely : Prop := strataCountsRow.holds Try.pinned (OpenSpec.ofChange strataCountsWrong)

/- THE SECOND FORM. 'bulk': how many values and letters a reading holds, each counted each time it is reached (what is shared counts as often as it is met; a slice's spare places count too). A statement '..UptoSaid' is the law's where the arguments, and the package variables that the reading takes, are together of bulk at most 1048576: NARROWER than '..Said'. Prove '..Said' where nothing that the law and all that it calls make is longer than what came in: it says more and counts as full. Else prove '..UptoSaid'. A law counts once. -/
mutual
def uptoBulk {H : Type} : DataW H → Nat
  | .lit (.string bytes) => bytes.length + 1
  | .lit _ => 1
  | .nil => 1
  | .ptr d => uptoBulk d + 1
  | .slice elems spare => uptoBulkAll elems + uptoBulkAll spare + 1
  | .agg parts => uptoBulkAll parts + 1
  | .iface _ d => uptoBulk d + 1
  | .map entries => uptoBulkEntries entries + 1
  | .held _ => 1
def uptoBulkAll {H : Type} : List (DataW H) → Nat
  | [] => 0
  | d :: r => uptoBulk d + uptoBulkAll r
def uptoBulkEntries {H : Type} : List (Lit × DataW H) → Nat
  | [] => 0
  | x :: r => uptoBulkEntry x + uptoBulkEntries r
def uptoBulkEntry {H : Type} : Lit × DataW H → Nat
  | (.string bytes, d) => bytes.length + uptoBulk d + 1
  | (_, d) => uptoBulk d + 1
 end
def uptoSmall : (H : Type) → List (DataW H) → Bool := fun _ ds => decide (uptoBulkAll ds ≤ 1048576)
def OpenSpec.upto (s : _root_.Go.ChangeSpec) : _root_.Go.OpenSpec := { _root_.Go.OpenSpec.ofChange s with cond := some uptoSmall }

/-- 'penumbralaw42.StrataGrid', WHERE WHAT IT READS IS OF BULK AT MOST 1048576: true; the input reads as it did. -/
def strataGridUptoRow : OpenClaim := { program := "ytkmdbidjdppdnaa", sum := "e81e89903b21b2d6bd50f50d5af3ffbb6e368be3f7ff2aa9936d99976a78905d", func := "penumbra/penumbralaw42.StrataGrid", spec := "strataGrid", unfollowed := true, recurses := true, apart := false, narrowed := true }
def StrataGridUptoSaid : Prop := strataGridUptoRow.holds Try.pinned (OpenSpec.upto strataGridSpec)

/-- 'penumbralaw42.StrataLatin', WHERE WHAT IT READS IS OF BULK AT MOST 1048576: true; the input reads as it did. -/
def strataLatinUptoRow : OpenClaim := { program := "ytkmdbidjdppdnaa", sum := "e81e89903b21b2d6bd50f50d5af3ffbb6e368be3f7ff2aa9936d99976a78905d", func := "penumbra/penumbralaw42.StrataLatin", spec := "strataLatin", unfollowed := true, recurses := true, apart := false, narrowed := true }
def StrataLatinUptoSaid : Prop := strataLatinUptoRow.holds Try.pinned (OpenSpec.upto strataLatinSpec)

/-- 'penumbralaw42.StrataCounts', WHERE WHAT IT READS IS OF BULK AT MOST 1048576: true; the input reads as it did. -/
def strataCountsUptoRow : OpenClaim := { program := "ytkmdbidjdppdnaa", sum := "e81e89903b21b2d6bd50f50d5af3ffbb6e368be3f7ff2aa9936d99976a78905d", func := "penumbra/penumbralaw42.StrataCounts", spec := "strataCounts", unfollowed := true, recurses := true, apart := false, narrowed := true }
def StrataCountsUptoSaid : Prop := strataCountsUptoRow.holds Try.pinned (OpenSpec.upto strataCountsSpec)

end Rows
end Go.Proofs.Ytkmdbidjdppdnaa
