/-
  No cell of these rows narrows 'for every input' (looked for: loops, veiled, ifaces, maps, wideKeys, modest, calm, conditions, laid).
  DERIVED. THE GIVEN ROWS OF THIS SEAT. 3 by the template 'for every input the law returns true; each argument reads behind the call as it read before'; 0 by the template 'total and deterministic' (their statements: YtjfegfhhgekcfaaTotals.lean).
  GIVEN WITH THE SEED: the statements are not yours to turn. If you find one false, say at which input.
  Laid BY PROGRAM, IN A SANDBOX (cutbox-rows.mjs): the forced cells as the released guide's own fill.sh prints them over the translation c5636be1d94ff11d… (all of the seat's roots in one cut). By AI agents, Wed Nov 11 2026. No macro, syntax, notation, axiom, sorry.
-/
import Derived.Test.YtjfegfhhgekcfaaChecked
import GoSem.Claim
import GoSem.ClaimJoined
import GoSem.ClaimMapViews
import Derived.JoinedTies
import Derived.KernelRfl
namespace Go.Proofs.Ytjfegfhhgekcfaa
/- THE CELL 'sum', in the pinned program and in every row, IS THE sha256 OF THE DUMP (.gsa) THAT YtjfegfhhgekcfaaProg.lean LOADS. Nothing in Lean hashes anything: it is a label: what it is worth is what the hold of that sum in a sandbox is worth. -/
noncomputable def Try.pinned : Pinned := { name := "ytjfegfhhgekcfaa", sum := "c5636be1d94ff11d4b904605ab232b7c5751cbc0df26a3d0ffb373bcb4972d4e", checked := Try.checked }
namespace Rows
def none {H : Type} : Left H := { results := [], args := [] }

/-- 'penumbralaw41.OrderCodes': WHATEVER THE INPUT: true; the input reads as it did. -/
def orderCodesSpec : ChangeSpec := { name := "orderCodes", fn := fun _ => fun
  | [d1, d2, d3] => { results := [.lit (.bool true)], args := [d1, d2, d3] }
  | _ => none }
def orderCodesRow : OpenClaim := { program := "ytjfegfhhgekcfaa", sum := "c5636be1d94ff11d4b904605ab232b7c5751cbc0df26a3d0ffb373bcb4972d4e", func := "penumbra/penumbralaw41.OrderCodes", spec := "orderCodes", unfollowed := true, recurses := true, apart := false }
def OrderCodesSaid : Prop := orderCodesRow.holds Try.pinned (OpenSpec.ofChange orderCodesSpec)

/-- ITS FALSE NEIGHBOUR: 'it returns false'. Refute it at one input. -/
def orderCodesWrong : ChangeSpec := { name := "orderCodes", fn := fun _ => fun
  | [d1, d2, d3] => { results := [.lit (.bool false)], args := [d1, d2, d3] }
  | _ => none }
def OrderCodesWrongFalsely : Prop := orderCodesRow.holds Try.pinned (OpenSpec.ofChange orderCodesWrong)

/-- 'penumbralaw41.OrderVisits': WHATEVER THE INPUT: true; the input reads as it did. -/
def orderVisitsSpec : ChangeSpec := { name := "orderVisits", fn := fun _ => fun
  | [d1, d2] => { results := [.lit (.bool true)], args := [d1, d2] }
  | _ => none }
def orderVisitsRow : OpenClaim := { program := "ytjfegfhhgekcfaa", sum := "c5636be1d94ff11d4b904605ab232b7c5751cbc0df26a3d0ffb373bcb4972d4e", func := "penumbra/penumbralaw41.OrderVisits", spec := "orderVisits", unfollowed := true, recurses := true, apart := false }
def OrderVisitsSaid : Prop := orderVisitsRow.holds Try.pinned (OpenSpec.ofChange orderVisitsSpec)

/-- ITS FALSE NEIGHBOUR: 'it returns false'. Refute it at one input. -/
def orderVisitsWrong : ChangeSpec := { name := "orderVisits", fn := fun _ => fun
  | [d1, d2] => { results := [.lit (.bool false)], args := [d1, d2] }
  | _ => none }
def OrderVisitsWrongFalsely : Prop := orderVisitsRow.holds Try.pinned (OpenSpec.ofChange orderVisitsWrong)

/-- 'penumbralaw41.OrderBacks': WHATEVER THE INPUT: true; the input reads as it did. -/
def orderBacksSpec : ChangeSpec := { name := "orderBacks", fn := fun _ => fun
  | [d1, d2] => { results := [.lit (.bool true)], args := [d1, d2] }
  | _ => none }
def orderBacksRow : OpenClaim := { program := "ytjfegfhhgekcfaa", sum := "c5636be1d94ff11d4b904605ab232b7c5751cbc0df26a3d0ffb373bcb4972d4e", func := "penumbra/penumbralaw41.OrderBacks", spec := "orderBacks", unfollowed := true, recurses := true, apart := false }
def OrderBacksSaid : Prop := orderBacksRow.holds Try.pinned (OpenSpec.ofChange orderBacksSpec)

/-- ITS FALSE NEIGHBOUR: 'it returns false'. Refute it at one input. -/
def orderBacksWrong : ChangeSpec := { name := "orderBacks", fn := fun _ => fun
  | [d1, d2] => { results := [.lit (.bool false)], args := [d1, d2] }
  | _ => none }
def OrderBacksWrongFalsely : Prop := orderBacksRow.holds Try.pinned (OpenSpec.ofChange orderBacksWrong)

/- THE SECOND FORM. 'bulk': how many values and letters a reading holds, each counted each time it is reached (what is shared counts as often as it is met; a slice's spare places count too). A statement '..UptoSaid' is the law's where the arguments, and the package variables that the reading takes, are together of bulk at most 1048576: NARROWER than '..Said'. Prove '..Said' where nothing that the law and all that it calls make is longer than what came in: it says more and counts as full. Else prove '..UptoSaid'. A law counts once. -/
mutual
def uptoBulk {H : Type} : DataW H → Nat
  | .lit (.string bytes) => bytes.length + 1
  | .lit _ => 1
  | .nil => 1
  | .ptr d => uptoBulk d + 1
  | .slice elems spare => uptoBulkAll elems + uptoBulkAll spare + 1
  | .agg parts => uptoBulkAll parts + 1
  | .iface _ d => uptoBulk d + 1
  | .map entries => uptoBulkEntries entries + 1
  | .held _ => 1
def uptoBulkAll {H : Type} : List (DataW H) → Nat
  | [] => 0
  | d :: r => uptoBulk d + uptoBulkAll r
def uptoBulkEntries {H : Type} : List (Lit × DataW H) → Nat
  | [] => 0
  | x :: r => uptoBulkEntry x + uptoBulkEntries r
def uptoBulkEntry {H : Type} : Lit × DataW H → Nat
  | (.string bytes, d) => bytes.length + uptoBulk d + 1
  | (_, d) => uptoBulk d + 1
 end
def uptoSmall : (H : Type) → List (DataW H) → Bool := fun _ ds => decide (uptoBulkAll ds ≤ 1048576)
def OpenSpec.upto (s : _root_.Go.ChangeSpec) : _root_.Go.OpenSpec := { _root_.Go.OpenSpec.ofChange s with cond := some uptoSmall }

/-- 'penumbralaw41.OrderCodes', WHERE WHAT IT READS IS OF BULK AT MOST 1048576: true; the input reads as it did. -/
def orderCodesUptoRow : OpenClaim := { program := "ytjfegfhhgekcfaa", sum := "c5636be1d94ff11d4b904605ab232b7c5751cbc0df26a3d0ffb373bcb4972d4e", func := "penumbra/penumbralaw41.OrderCodes", spec := "orderCodes", unfollowed := true, recurses := true, apart := false, narrowed := true }
def OrderCodesUptoSaid : Prop := orderCodesUptoRow.holds Try.pinned (OpenSpec.upto orderCodesSpec)

/-- 'penumbralaw41.OrderVisits', WHERE WHAT IT READS IS OF BULK AT MOST 1048576: true; the input reads as it did. -/
def orderVisitsUptoRow : OpenClaim := { program := "ytjfegfhhgekcfaa", sum := "c5636be1d94ff11d4b904605ab232b7c5751cbc0df26a3d0ffb373bcb4972d4e", func := "penumbra/penumbralaw41.OrderVisits", spec := "orderVisits", unfollowed := true, recurses := true, apart := false, narrowed := true }
def OrderVisitsUptoSaid : Prop := orderVisitsUptoRow.holds Try.pinned (OpenSpec.upto orderVisitsSpec)

/-- 'penumbralaw41.OrderBacks', WHERE WHAT IT READS IS OF BULK AT MOST 1048576: true; the input reads as it did. -/
def orderBacksUptoRow : OpenClaim := { program := "ytjfegfhhgekcfaa", sum := "c5636be1d94ff11d4b904605ab232b7c5751cbc0df26a3d0ffb373bcb4972d4e", func := "penumbra/penumbralaw41.OrderBacks", spec := "orderBacks", unfollowed := true, recurses := true, apart := false, narrowed := true }
def OrderBacksUptoSaid : Prop := orderBacksUptoRow.holds Try.pinned (OpenSpec.upto orderBacksSpec)

end Rows
end Go.Proofs.Ytjfegfhhgekcfaa
