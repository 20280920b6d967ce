-- written by xprint.py (a program of this session, over the kit's print)
import Derived.Test.YtncbomdngldhbaaFl
import Derived.WalkLawsBesides
import Derived.Test.YtncbomdngldhbaaXxSMisMore
import Derived.Test.YtncbomdngldhbaaPureMisMore
namespace Go.Proofs.Ytncbomdngldhbaa.misMore
open Go.ChangeShapes Go.WideShapes Go.ChangeAt Go.RowKit
open Go.ChangeMaps (open_string shut_string)
set_option linter.unusedVariables false
theorem own : ownKnob Try.prog.godebug = none := by kernel_rfl
theorem laidOut : laidOutB Try.prog = true := by kernel_rfl
def IsRow (k : IntKind) (w : World) (a : Option Addr) (len cap : Nat) (zs : List Int) : Prop :=
  (a = none ∧ len = 0 ∧ cap = 0 ∧ zs = []) ∨
  ∃ x, a = some x ∧ len ≤ cap ∧ cap ≤ maxLen ∧ zs.length = cap ∧ (∀ i, i < zs.length → w.cell? (x.add i) = some (.int k (zs.getD i 0))) ∧ ∀ n ∈ zs, (Lit.int k n).wf = true
theorem list4 {α : Type} {l : List α} (h : l.length = 4) : ∃ c0 c1 c2 c3, l = [c0, c1, c2, c3] := by match l, h with | [c0, c1, c2, c3], _ => exact ⟨_, _, _, _, rfl⟩
theorem cellsOf4 : Try.prog.cellsOf 4 = 1 := by kernel_rfl
theorem cellsOf22 : Try.prog.cellsOf 22 = 1 := by kernel_rfl
theorem cellsOf24 : Try.prog.cellsOf 24 = 4 := by kernel_rfl
set_option maxRecDepth 100000 in
set_option maxHeartbeats 2000000 in
theorem lifted (os : Os) (started : os.Started) (H : Type) (enc : TypeId × Value → H) :
    ReturnsInHanded {} Try.checked os 3 .any (Rows.misMoreSpec.pre6 enc Try.prog Try.f3 Rows.misMoreRow.domain false) (Rows.misMoreSpec.post enc Try.prog Try.f3 false true false false) := by
  refine returnsInHanded_of_change_sized (C := Try.checked) own started (by kernel_rfl) Try.func3
    (ChangeSpec.witness6 (enc := enc) (C := Try.checked) false ⟨#[], #[.agg #[.bool false, .float .f64 0, .float .f64 0, .float .f64 0]], []⟩ 8 (by kernel_rfl) (by kernel_rfl) (by kernel_rfl) (by kernel_rfl)) ?_
  intro W base args ds gs before hval0 hW hcnd hsz0 _
  have hval : ∀ (j : Nat) t v, Try.f3.params[j]? = some t → args[j]? = some v → Value.okWide Try.prog W .any base t v := hval0
  have hW' := hW
  obtain ⟨p, q, hA0, hV, rfl, hfz, hnd⟩ := hW
  have hA : DataW.TrodAll enc Try.prog W 0 (fun _ => true) true Try.f3.params.toList args.toList ds p := hA0
  rw [Try.params3] at hA hval
  obtain ⟨v0, vs0, d0, ds0, p0, q0, hargs, rfl, rfl, h0, r0⟩ := trodAll_cons hA
  obtain ⟨rfl, rfl, rfl⟩ := trodAll_nil r0
  obtain rfl : args = #[v0] := by cases args; simp_all
  obtain ⟨rfl, rfl⟩ := trodVars_none hV
  have k0 := h0
  have lt0 : ∀ x ∈ p0, x.block < W.heap.size := by obtain ⟨m, hm⟩ := k0; exact DataW.trod_lt m _ _ _ hm
  obtain ⟨cs0, rfl, hs0⟩ := okWide_struct Try.underlying24 (hval 0 24 v0 rfl rfl)
  obtain ⟨ls0⟩ := cs0
  obtain ⟨c0_0, c0_1, c0_2, c0_3, rfl⟩ := list4 (l := ls0) (hs0.trans cellsOf24)
  obtain ⟨fu0, hf0⟩ := h0
  replace hf0 : DataW.trod enc Try.prog W _ _ _ fu0 24 [c0_0, c0_1, c0_2, c0_3] = some _ := hf0
  obtain ⟨xss0, ns0_, _, _, _, hlens0, hgs0⟩ := DataW.trod_struct Try.underlying24 hf0
  have gs0_0 : DataW.trod enc Try.prog W _ _ _ ns0_ 4 (List.take (Try.prog.cellsOf 4) (List.drop 0 [_, _, _, _])) = xss0[0]? := hgs0 0 _ rfl
  obtain ⟨ys0_0, eys0_0⟩ : ∃ y, xss0[0]? = some y := ⟨_, List.getElem?_eq_getElem (by rw [hlens0]; decide)⟩
  rw [eys0_0] at gs0_0
  rw [cellsOf4] at gs0_0
  replace gs0_0 : DataW.trod enc Try.prog W _ _ _ ns0_ 4 [c0_0] = some ys0_0 := gs0_0
  obtain ⟨a0_0, e0_0, _⟩ := DataW.trod_bool Try.underlying4 gs0_0
  obtain rfl : c0_0 = .bool a0_0 := by simpa using e0_0
  have gs0_1 : DataW.trod enc Try.prog W _ _ _ ns0_ 22 (List.take (Try.prog.cellsOf 22) (List.drop 1 [_, _, _, _])) = xss0[1]? := hgs0 1 _ rfl
  obtain ⟨ys0_1, eys0_1⟩ : ∃ y, xss0[1]? = some y := ⟨_, List.getElem?_eq_getElem (by rw [hlens0]; decide)⟩
  rw [eys0_1] at gs0_1
  rw [cellsOf22] at gs0_1
  replace gs0_1 : DataW.trod enc Try.prog W _ _ _ ns0_ 22 [c0_1] = some ys0_1 := gs0_1
  obtain ⟨a0_1, e0_1, w0_1⟩ := Fl.trod_float Try.underlying22 gs0_1
  obtain rfl : c0_1 = .float .f64 a0_1 := by simpa using e0_1
  have gs0_2 : DataW.trod enc Try.prog W _ _ _ ns0_ 22 (List.take (Try.prog.cellsOf 22) (List.drop 2 [_, _, _, _])) = xss0[2]? := hgs0 2 _ rfl
  obtain ⟨ys0_2, eys0_2⟩ : ∃ y, xss0[2]? = some y := ⟨_, List.getElem?_eq_getElem (by rw [hlens0]; decide)⟩
  rw [eys0_2] at gs0_2
  rw [cellsOf22] at gs0_2
  replace gs0_2 : DataW.trod enc Try.prog W _ _ _ ns0_ 22 [c0_2] = some ys0_2 := gs0_2
  obtain ⟨a0_2, e0_2, w0_2⟩ := Fl.trod_float Try.underlying22 gs0_2
  obtain rfl : c0_2 = .float .f64 a0_2 := by simpa using e0_2
  have gs0_3 : DataW.trod enc Try.prog W _ _ _ ns0_ 22 (List.take (Try.prog.cellsOf 22) (List.drop 3 [_, _, _, _])) = xss0[3]? := hgs0 3 _ rfl
  obtain ⟨ys0_3, eys0_3⟩ : ∃ y, xss0[3]? = some y := ⟨_, List.getElem?_eq_getElem (by rw [hlens0]; decide)⟩
  rw [eys0_3] at gs0_3
  rw [cellsOf22] at gs0_3
  replace gs0_3 : DataW.trod enc Try.prog W _ _ _ ns0_ 22 [c0_3] = some ys0_3 := gs0_3
  obtain ⟨a0_3, e0_3, w0_3⟩ := Fl.trod_float Try.underlying22 gs0_3
  obtain rfl : c0_3 = .float .f64 a0_3 := by simpa using e0_3
  clear hA0 hval0 hsz0
  have hk := Pure.MisMore a0_0 a0_1 a0_2 a0_3 w0_1 w0_2 w0_3
  refine (X.penumbralaw25_MisMore.calls a0_0 a0_1 a0_2 a0_3 true W hk rfl).mono fun e W' ⟨he, bel0⟩ => ?_
  have bel : Below W.heap.size W W' := bel0
  subst he
  exact ⟨_, rfl, _, _, _, [], _, [], hW', trodAll_mk1 (shut_bool Try.underlying4 _), (trodAll_cons_mk (Below.trod laidOut (by kernel_rfl) (of_decide_eq_true (by kernel_rfl)) k0 bel lt0) trodAll_mk0), rfl, bel.frame _, fun h => by cases h⟩
theorem over : Rows.misMoreRow.holds Try.pinned (OpenSpec.ofChange Rows.misMoreSpec) :=
  OpenClaim.holds_of_wide 3 Try.f3 rfl rfl rfl rfl rfl rfl rfl ⟨rfl, rfl, rfl, rfl, rfl⟩ rfl rfl rfl rfl rfl (by kernel_rfl) Try.func3 (by kernel_rfl)
    (of_decide_eq_true (by kernel_rfl)) (by unfold Func.isWrapper; first | (rw [if_pos (by decide +kernel)]; kernel_rfl) | (rw [if_neg (by decide +kernel)]; exact ⟨rfl, rfl⟩))
    (fun os started H enc _ => lifted os started H enc)
theorem proved : Rows.MisMoreSaid := over
#print axioms proved
end Go.Proofs.Ytncbomdngldhbaa.misMore
namespace Go.Proofs.Ytncbomdngldhbaa
/-- The row, under a short name, for the claim. -/
theorem misMore_holds : Rows.MisMoreSaid := misMore.proved
end Go.Proofs.Ytncbomdngldhbaa
