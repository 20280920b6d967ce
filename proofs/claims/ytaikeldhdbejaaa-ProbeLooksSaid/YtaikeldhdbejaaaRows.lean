/-
  No cell of these rows narrows 'for every input' (looked for: loops, veiled, ifaces, maps, wideKeys, modest, calm, conditions, laid).
  DERIVED. THE GIVEN ROWS OF THIS SEAT. 3 by the template 'for every input the law returns true; each argument reads behind the call as it read before'; 0 by the template 'total and deterministic' (their statements: YtaikeldhdbejaaaTotals.lean).
  GIVEN WITH THE SEED: the statements are not yours to turn. If you find one false, say at which input.
  Laid BY PROGRAM, IN A SANDBOX (cutbox-rows.mjs): the forced cells as the released guide's own fill.sh prints them over the translation d825b3a9466dd248… (all of the seat's roots in one cut). By AI agents, Wed Nov 11 2026. No macro, syntax, notation, axiom, sorry.
-/
import Derived.Test.YtaikeldhdbejaaaChecked
import GoSem.Claim
import GoSem.ClaimJoined
import GoSem.ClaimMapViews
import Derived.JoinedTies
import Derived.KernelRfl
namespace Go.Proofs.Ytaikeldhdbejaaa
/- THE CELL 'sum', in the pinned program and in every row, IS THE sha256 OF THE DUMP (.gsa) THAT YtaikeldhdbejaaaProg.lean LOADS. Nothing in Lean hashes anything: it is a label: what it is worth is what the hold of that sum in a sandbox is worth. -/
noncomputable def Try.pinned : Pinned := { name := "ytaikeldhdbejaaa", sum := "d825b3a9466dd24897386052cac07ee19ba4e348ed85e38e182423a4118e45f9", checked := Try.checked }
namespace Rows
def none {H : Type} : Left H := { results := [], args := [] }

/-- 'penumbralaw40.ProbeLooks': WHATEVER THE INPUT: true; the input reads as it did. -/
def probeLooksSpec : ChangeSpec := { name := "probeLooks", fn := fun _ => fun
  | [d1, d2] => { results := [.lit (.bool true)], args := [d1, d2] }
  | _ => none }
def probeLooksRow : OpenClaim := { program := "ytaikeldhdbejaaa", sum := "d825b3a9466dd24897386052cac07ee19ba4e348ed85e38e182423a4118e45f9", func := "penumbra/penumbralaw40.ProbeLooks", spec := "probeLooks", unfollowed := true, recurses := true, apart := false }
def ProbeLooksSaid : Prop := probeLooksRow.holds Try.pinned (OpenSpec.ofChange probeLooksSpec)

/-- ITS FALSE NEIGHBOUR: 'it returns false'. Refute it at one input. -/
def probeLooksWrong : ChangeSpec := { name := "probeLooks", fn := fun _ => fun
  | [d1, d2] => { results := [.lit (.bool false)], args := [d1, d2] }
  | _ => none }
def ProbeLooksWrongFalsely : Prop := probeLooksRow.holds Try.pinned (OpenSpec.ofChange probeLooksWrong)

/-- 'penumbralaw40.ProbeApart': WHATEVER THE INPUT: true; the input reads as it did. -/
def probeApartSpec : ChangeSpec := { name := "probeApart", fn := fun _ => fun
  | [d1, d2] => { results := [.lit (.bool true)], args := [d1, d2] }
  | _ => none }
def probeApartRow : OpenClaim := { program := "ytaikeldhdbejaaa", sum := "d825b3a9466dd24897386052cac07ee19ba4e348ed85e38e182423a4118e45f9", func := "penumbra/penumbralaw40.ProbeApart", spec := "probeApart", unfollowed := true, recurses := true, apart := false }
def ProbeApartSaid : Prop := probeApartRow.holds Try.pinned (OpenSpec.ofChange probeApartSpec)

/-- ITS FALSE NEIGHBOUR: 'it returns false'. Refute it at one input. -/
def probeApartWrong : ChangeSpec := { name := "probeApart", fn := fun _ => fun
  | [d1, d2] => { results := [.lit (.bool false)], args := [d1, d2] }
  | _ => none }
def ProbeApartWrongFalsely : Prop := probeApartRow.holds Try.pinned (OpenSpec.ofChange probeApartWrong)

/-- 'penumbralaw40.ProbeRows': WHATEVER THE INPUT: true; the input reads as it did. -/
def probeRowsSpec : ChangeSpec := { name := "probeRows", fn := fun _ => fun
  | [d1, d2] => { results := [.lit (.bool true)], args := [d1, d2] }
  | _ => none }
def probeRowsRow : OpenClaim := { program := "ytaikeldhdbejaaa", sum := "d825b3a9466dd24897386052cac07ee19ba4e348ed85e38e182423a4118e45f9", func := "penumbra/penumbralaw40.ProbeRows", spec := "probeRows", unfollowed := true, recurses := true, apart := false }
def ProbeRowsSaid : Prop := probeRowsRow.holds Try.pinned (OpenSpec.ofChange probeRowsSpec)

/-- ITS FALSE NEIGHBOUR: 'it returns false'. Refute it at one input. -/
def probeRowsWrong : ChangeSpec := { name := "probeRows", fn := fun _ => fun
  | [d1, d2] => { results := [.lit (.bool false)], args := [d1, d2] }
  | _ => none }
def ProbeRowsWrongFalsely : Prop := probeRowsRow.holds Try.pinned (OpenSpec.ofChange probeRowsWrong)

/- THE SECOND FORM. 'bulk': how many values and letters a reading holds, each counted each time it is reached (what is shared counts as often as it is met; a slice's spare places count too). A statement '..UptoSaid' is the law's where the arguments, and the package variables that the reading takes, are together of bulk at most 1048576: NARROWER than '..Said'. Prove '..Said' where nothing that the law and all that it calls make is longer than what came in: it says more and counts as full. Else prove '..UptoSaid'. A law counts once. -/
mutual
def uptoBulk {H : Type} : DataW H → Nat
  | .lit (.string bytes) => bytes.length + 1
  | .lit _ => 1
  | .nil => 1
  | .ptr d => uptoBulk d + 1
  | .slice elems spare => uptoBulkAll elems + uptoBulkAll spare + 1
  | .agg parts => uptoBulkAll parts + 1
  | .iface _ d => uptoBulk d + 1
  | .map entries => uptoBulkEntries entries + 1
  | .held _ => 1
def uptoBulkAll {H : Type} : List (DataW H) → Nat
  | [] => 0
  | d :: r => uptoBulk d + uptoBulkAll r
def uptoBulkEntries {H : Type} : List (Lit × DataW H) → Nat
  | [] => 0
  | x :: r => uptoBulkEntry x + uptoBulkEntries r
def uptoBulkEntry {H : Type} : Lit × DataW H → Nat
  | (.string bytes, d) => bytes.length + uptoBulk d + 1
  | (_, d) => uptoBulk d + 1
 end
def uptoSmall : (H : Type) → List (DataW H) → Bool := fun _ ds => decide (uptoBulkAll ds ≤ 1048576)
def OpenSpec.upto (s : _root_.Go.ChangeSpec) : _root_.Go.OpenSpec := { _root_.Go.OpenSpec.ofChange s with cond := some uptoSmall }

/-- 'penumbralaw40.ProbeLooks', WHERE WHAT IT READS IS OF BULK AT MOST 1048576: true; the input reads as it did. -/
def probeLooksUptoRow : OpenClaim := { program := "ytaikeldhdbejaaa", sum := "d825b3a9466dd24897386052cac07ee19ba4e348ed85e38e182423a4118e45f9", func := "penumbra/penumbralaw40.ProbeLooks", spec := "probeLooks", unfollowed := true, recurses := true, apart := false, narrowed := true }
def ProbeLooksUptoSaid : Prop := probeLooksUptoRow.holds Try.pinned (OpenSpec.upto probeLooksSpec)

/-- 'penumbralaw40.ProbeApart', WHERE WHAT IT READS IS OF BULK AT MOST 1048576: true; the input reads as it did. -/
def probeApartUptoRow : OpenClaim := { program := "ytaikeldhdbejaaa", sum := "d825b3a9466dd24897386052cac07ee19ba4e348ed85e38e182423a4118e45f9", func := "penumbra/penumbralaw40.ProbeApart", spec := "probeApart", unfollowed := true, recurses := true, apart := false, narrowed := true }
def ProbeApartUptoSaid : Prop := probeApartUptoRow.holds Try.pinned (OpenSpec.upto probeApartSpec)

/-- 'penumbralaw40.ProbeRows', WHERE WHAT IT READS IS OF BULK AT MOST 1048576: true; the input reads as it did. -/
def probeRowsUptoRow : OpenClaim := { program := "ytaikeldhdbejaaa", sum := "d825b3a9466dd24897386052cac07ee19ba4e348ed85e38e182423a4118e45f9", func := "penumbra/penumbralaw40.ProbeRows", spec := "probeRows", unfollowed := true, recurses := true, apart := false, narrowed := true }
def ProbeRowsUptoSaid : Prop := probeRowsUptoRow.holds Try.pinned (OpenSpec.upto probeRowsSpec)

end Rows
end Go.Proofs.Ytaikeldhdbejaaa
