-- written by xprint.py (a program of this session, over the kit's print)
import Derived.Test.YtedifkidnpaejaaXxSTapeApart
import Derived.Test.YtedifkidnpaejaaPureTapeApart
namespace Go.Proofs.Ytedifkidnpaejaa.tapeApart
open Go.ChangeShapes Go.WideShapes Go.ChangeAt Go.RowKit
open Go.ChangeMaps (open_string shut_string)
set_option linter.unusedVariables false
theorem own : ownKnob Try.prog.godebug = none := by kernel_rfl
theorem laidOut : laidOutB Try.prog = true := by kernel_rfl
def IsRow (k : IntKind) (w : World) (a : Option Addr) (len cap : Nat) (zs : List Int) : Prop :=
  (a = none ∧ len = 0 ∧ cap = 0 ∧ zs = []) ∨
  ∃ x, a = some x ∧ len ≤ cap ∧ cap ≤ maxLen ∧ zs.length = cap ∧ (∀ i, i < zs.length → w.cell? (x.add i) = some (.int k (zs.getD i 0))) ∧ ∀ n ∈ zs, (Lit.int k n).wf = true
theorem list12 {α : Type} {l : List α} (h : l.length = 12) : ∃ c0 c1 c2 c3 c4 c5 c6 c7 c8 c9 c10 c11, l = [c0, c1, c2, c3, c4, c5, c6, c7, c8, c9, c10, c11] := by match l, h with | [c0, c1, c2, c3, c4, c5, c6, c7, c8, c9, c10, c11], _ => exact ⟨_, _, _, _, _, _, _, _, _, _, _, _, rfl⟩
theorem cellsOf3 : Try.prog.cellsOf 3 = 1 := by kernel_rfl
theorem cellsOf43 : Try.prog.cellsOf 43 = 12 := by kernel_rfl
set_option maxRecDepth 100000 in
set_option maxHeartbeats 2000000 in
theorem lifted (os : Os) (started : os.Started) (H : Type) (enc : TypeId × Value → H) :
    ReturnsInHanded {} Try.checked os 6 .any (Rows.tapeApartSpec.pre6 enc Try.prog Try.f6 Rows.tapeApartRow.domain false) (Rows.tapeApartSpec.post enc Try.prog Try.f6 false true false false) := by
  refine returnsInHanded_of_change_sized (C := Try.checked) own started (by kernel_rfl) Try.func6
    (ChangeSpec.witness6 (enc := enc) (C := Try.checked) false ⟨#[], #[.agg #[.int .i64 0, .int .i64 0, .int .i64 0, .int .i64 0, .int .i64 0, .int .i64 0, .int .i64 0, .int .i64 0, .int .i64 0, .int .i64 0, .int .i64 0, .int .i64 0]], []⟩ 8 (by kernel_rfl) (by kernel_rfl) (by kernel_rfl) (by kernel_rfl)) ?_
  intro W base args ds gs before hval0 hW hcnd hsz0 _
  have hval : ∀ (j : Nat) t v, Try.f6.params[j]? = some t → args[j]? = some v → Value.okWide Try.prog W .any base t v := hval0
  have hW' := hW
  obtain ⟨p, q, hA0, hV, rfl, hfz, hnd⟩ := hW
  have hA : DataW.TrodAll enc Try.prog W 0 (fun _ => true) true Try.f6.params.toList args.toList ds p := hA0
  rw [Try.params6] at hA hval
  obtain ⟨v0, vs0, d0, ds0, p0, q0, hargs, rfl, rfl, h0, r0⟩ := trodAll_cons hA
  obtain ⟨rfl, rfl, rfl⟩ := trodAll_nil r0
  obtain rfl : args = #[v0] := by cases args; simp_all
  obtain ⟨rfl, rfl⟩ := trodVars_none hV
  have k0 := h0
  have lt0 : ∀ x ∈ p0, x.block < W.heap.size := by obtain ⟨m, hm⟩ := k0; exact DataW.trod_lt m _ _ _ hm
  obtain ⟨cs0, rfl, hs0⟩ := okWide_struct Try.underlying43 (hval 0 43 v0 rfl rfl)
  obtain ⟨ls0⟩ := cs0
  obtain ⟨c0_0, c0_1, c0_2, c0_3, c0_4, c0_5, c0_6, c0_7, c0_8, c0_9, c0_10, c0_11, rfl⟩ := list12 (l := ls0) (hs0.trans cellsOf43)
  obtain ⟨fu0, hf0⟩ := h0
  replace hf0 : DataW.trod enc Try.prog W _ _ _ fu0 43 [c0_0, c0_1, c0_2, c0_3, c0_4, c0_5, c0_6, c0_7, c0_8, c0_9, c0_10, c0_11] = some _ := hf0
  obtain ⟨xss0, ns0_, _, _, _, hlens0, hgs0⟩ := DataW.trod_struct Try.underlying43 hf0
  have gs0_0 : DataW.trod enc Try.prog W _ _ _ ns0_ 3 (List.take (Try.prog.cellsOf 3) (List.drop 0 [_, _, _, _, _, _, _, _, _, _, _, _])) = xss0[0]? := hgs0 0 _ rfl
  obtain ⟨ys0_0, eys0_0⟩ : ∃ y, xss0[0]? = some y := ⟨_, List.getElem?_eq_getElem (by rw [hlens0]; decide)⟩
  rw [eys0_0] at gs0_0
  rw [cellsOf3] at gs0_0
  replace gs0_0 : DataW.trod enc Try.prog W _ _ _ ns0_ 3 [c0_0] = some ys0_0 := gs0_0
  obtain ⟨a0_0, e0_0, _, w0_0⟩ := DataW.trod_int Try.underlying3 gs0_0
  obtain rfl : c0_0 = .int .i64 a0_0 := by simpa using e0_0
  have gs0_1 : DataW.trod enc Try.prog W _ _ _ ns0_ 3 (List.take (Try.prog.cellsOf 3) (List.drop 1 [_, _, _, _, _, _, _, _, _, _, _, _])) = xss0[1]? := hgs0 1 _ rfl
  obtain ⟨ys0_1, eys0_1⟩ : ∃ y, xss0[1]? = some y := ⟨_, List.getElem?_eq_getElem (by rw [hlens0]; decide)⟩
  rw [eys0_1] at gs0_1
  rw [cellsOf3] at gs0_1
  replace gs0_1 : DataW.trod enc Try.prog W _ _ _ ns0_ 3 [c0_1] = some ys0_1 := gs0_1
  obtain ⟨a0_1, e0_1, _, w0_1⟩ := DataW.trod_int Try.underlying3 gs0_1
  obtain rfl : c0_1 = .int .i64 a0_1 := by simpa using e0_1
  have gs0_2 : DataW.trod enc Try.prog W _ _ _ ns0_ 3 (List.take (Try.prog.cellsOf 3) (List.drop 2 [_, _, _, _, _, _, _, _, _, _, _, _])) = xss0[2]? := hgs0 2 _ rfl
  obtain ⟨ys0_2, eys0_2⟩ : ∃ y, xss0[2]? = some y := ⟨_, List.getElem?_eq_getElem (by rw [hlens0]; decide)⟩
  rw [eys0_2] at gs0_2
  rw [cellsOf3] at gs0_2
  replace gs0_2 : DataW.trod enc Try.prog W _ _ _ ns0_ 3 [c0_2] = some ys0_2 := gs0_2
  obtain ⟨a0_2, e0_2, _, w0_2⟩ := DataW.trod_int Try.underlying3 gs0_2
  obtain rfl : c0_2 = .int .i64 a0_2 := by simpa using e0_2
  have gs0_3 : DataW.trod enc Try.prog W _ _ _ ns0_ 3 (List.take (Try.prog.cellsOf 3) (List.drop 3 [_, _, _, _, _, _, _, _, _, _, _, _])) = xss0[3]? := hgs0 3 _ rfl
  obtain ⟨ys0_3, eys0_3⟩ : ∃ y, xss0[3]? = some y := ⟨_, List.getElem?_eq_getElem (by rw [hlens0]; decide)⟩
  rw [eys0_3] at gs0_3
  rw [cellsOf3] at gs0_3
  replace gs0_3 : DataW.trod enc Try.prog W _ _ _ ns0_ 3 [c0_3] = some ys0_3 := gs0_3
  obtain ⟨a0_3, e0_3, _, w0_3⟩ := DataW.trod_int Try.underlying3 gs0_3
  obtain rfl : c0_3 = .int .i64 a0_3 := by simpa using e0_3
  have gs0_4 : DataW.trod enc Try.prog W _ _ _ ns0_ 3 (List.take (Try.prog.cellsOf 3) (List.drop 4 [_, _, _, _, _, _, _, _, _, _, _, _])) = xss0[4]? := hgs0 4 _ rfl
  obtain ⟨ys0_4, eys0_4⟩ : ∃ y, xss0[4]? = some y := ⟨_, List.getElem?_eq_getElem (by rw [hlens0]; decide)⟩
  rw [eys0_4] at gs0_4
  rw [cellsOf3] at gs0_4
  replace gs0_4 : DataW.trod enc Try.prog W _ _ _ ns0_ 3 [c0_4] = some ys0_4 := gs0_4
  obtain ⟨a0_4, e0_4, _, w0_4⟩ := DataW.trod_int Try.underlying3 gs0_4
  obtain rfl : c0_4 = .int .i64 a0_4 := by simpa using e0_4
  have gs0_5 : DataW.trod enc Try.prog W _ _ _ ns0_ 3 (List.take (Try.prog.cellsOf 3) (List.drop 5 [_, _, _, _, _, _, _, _, _, _, _, _])) = xss0[5]? := hgs0 5 _ rfl
  obtain ⟨ys0_5, eys0_5⟩ : ∃ y, xss0[5]? = some y := ⟨_, List.getElem?_eq_getElem (by rw [hlens0]; decide)⟩
  rw [eys0_5] at gs0_5
  rw [cellsOf3] at gs0_5
  replace gs0_5 : DataW.trod enc Try.prog W _ _ _ ns0_ 3 [c0_5] = some ys0_5 := gs0_5
  obtain ⟨a0_5, e0_5, _, w0_5⟩ := DataW.trod_int Try.underlying3 gs0_5
  obtain rfl : c0_5 = .int .i64 a0_5 := by simpa using e0_5
  have gs0_6 : DataW.trod enc Try.prog W _ _ _ ns0_ 3 (List.take (Try.prog.cellsOf 3) (List.drop 6 [_, _, _, _, _, _, _, _, _, _, _, _])) = xss0[6]? := hgs0 6 _ rfl
  obtain ⟨ys0_6, eys0_6⟩ : ∃ y, xss0[6]? = some y := ⟨_, List.getElem?_eq_getElem (by rw [hlens0]; decide)⟩
  rw [eys0_6] at gs0_6
  rw [cellsOf3] at gs0_6
  replace gs0_6 : DataW.trod enc Try.prog W _ _ _ ns0_ 3 [c0_6] = some ys0_6 := gs0_6
  obtain ⟨a0_6, e0_6, _, w0_6⟩ := DataW.trod_int Try.underlying3 gs0_6
  obtain rfl : c0_6 = .int .i64 a0_6 := by simpa using e0_6
  have gs0_7 : DataW.trod enc Try.prog W _ _ _ ns0_ 3 (List.take (Try.prog.cellsOf 3) (List.drop 7 [_, _, _, _, _, _, _, _, _, _, _, _])) = xss0[7]? := hgs0 7 _ rfl
  obtain ⟨ys0_7, eys0_7⟩ : ∃ y, xss0[7]? = some y := ⟨_, List.getElem?_eq_getElem (by rw [hlens0]; decide)⟩
  rw [eys0_7] at gs0_7
  rw [cellsOf3] at gs0_7
  replace gs0_7 : DataW.trod enc Try.prog W _ _ _ ns0_ 3 [c0_7] = some ys0_7 := gs0_7
  obtain ⟨a0_7, e0_7, _, w0_7⟩ := DataW.trod_int Try.underlying3 gs0_7
  obtain rfl : c0_7 = .int .i64 a0_7 := by simpa using e0_7
  have gs0_8 : DataW.trod enc Try.prog W _ _ _ ns0_ 3 (List.take (Try.prog.cellsOf 3) (List.drop 8 [_, _, _, _, _, _, _, _, _, _, _, _])) = xss0[8]? := hgs0 8 _ rfl
  obtain ⟨ys0_8, eys0_8⟩ : ∃ y, xss0[8]? = some y := ⟨_, List.getElem?_eq_getElem (by rw [hlens0]; decide)⟩
  rw [eys0_8] at gs0_8
  rw [cellsOf3] at gs0_8
  replace gs0_8 : DataW.trod enc Try.prog W _ _ _ ns0_ 3 [c0_8] = some ys0_8 := gs0_8
  obtain ⟨a0_8, e0_8, _, w0_8⟩ := DataW.trod_int Try.underlying3 gs0_8
  obtain rfl : c0_8 = .int .i64 a0_8 := by simpa using e0_8
  have gs0_9 : DataW.trod enc Try.prog W _ _ _ ns0_ 3 (List.take (Try.prog.cellsOf 3) (List.drop 9 [_, _, _, _, _, _, _, _, _, _, _, _])) = xss0[9]? := hgs0 9 _ rfl
  obtain ⟨ys0_9, eys0_9⟩ : ∃ y, xss0[9]? = some y := ⟨_, List.getElem?_eq_getElem (by rw [hlens0]; decide)⟩
  rw [eys0_9] at gs0_9
  rw [cellsOf3] at gs0_9
  replace gs0_9 : DataW.trod enc Try.prog W _ _ _ ns0_ 3 [c0_9] = some ys0_9 := gs0_9
  obtain ⟨a0_9, e0_9, _, w0_9⟩ := DataW.trod_int Try.underlying3 gs0_9
  obtain rfl : c0_9 = .int .i64 a0_9 := by simpa using e0_9
  have gs0_10 : DataW.trod enc Try.prog W _ _ _ ns0_ 3 (List.take (Try.prog.cellsOf 3) (List.drop 10 [_, _, _, _, _, _, _, _, _, _, _, _])) = xss0[10]? := hgs0 10 _ rfl
  obtain ⟨ys0_10, eys0_10⟩ : ∃ y, xss0[10]? = some y := ⟨_, List.getElem?_eq_getElem (by rw [hlens0]; decide)⟩
  rw [eys0_10] at gs0_10
  rw [cellsOf3] at gs0_10
  replace gs0_10 : DataW.trod enc Try.prog W _ _ _ ns0_ 3 [c0_10] = some ys0_10 := gs0_10
  obtain ⟨a0_10, e0_10, _, w0_10⟩ := DataW.trod_int Try.underlying3 gs0_10
  obtain rfl : c0_10 = .int .i64 a0_10 := by simpa using e0_10
  have gs0_11 : DataW.trod enc Try.prog W _ _ _ ns0_ 3 (List.take (Try.prog.cellsOf 3) (List.drop 11 [_, _, _, _, _, _, _, _, _, _, _, _])) = xss0[11]? := hgs0 11 _ rfl
  obtain ⟨ys0_11, eys0_11⟩ : ∃ y, xss0[11]? = some y := ⟨_, List.getElem?_eq_getElem (by rw [hlens0]; decide)⟩
  rw [eys0_11] at gs0_11
  rw [cellsOf3] at gs0_11
  replace gs0_11 : DataW.trod enc Try.prog W _ _ _ ns0_ 3 [c0_11] = some ys0_11 := gs0_11
  obtain ⟨a0_11, e0_11, _, w0_11⟩ := DataW.trod_int Try.underlying3 gs0_11
  obtain rfl : c0_11 = .int .i64 a0_11 := by simpa using e0_11
  clear hA0 hval0 hsz0
  have hk := Pure.TapeApart a0_0 a0_1 a0_2 a0_3 a0_4 a0_5 a0_6 a0_7 a0_8 a0_9 a0_10 a0_11 w0_0 w0_1 w0_2 w0_3 w0_4 w0_5 w0_6 w0_7 w0_8 w0_9 w0_10 w0_11
  refine (X.penumbralaw06_TapeApart.calls a0_0 a0_1 a0_2 a0_3 a0_4 a0_5 a0_6 a0_7 a0_8 a0_9 a0_10 a0_11 true W hk rfl).mono fun e W' ⟨he, bel0⟩ => ?_
  have bel : Below W.heap.size W W' := bel0
  subst he
  exact ⟨_, rfl, _, _, _, [], _, [], hW', trodAll_mk1 (shut_bool Try.underlying4 _), (trodAll_cons_mk (Below.trod laidOut (by kernel_rfl) (of_decide_eq_true (by kernel_rfl)) k0 bel lt0) trodAll_mk0), rfl, bel.frame _, fun h => by cases h⟩
theorem over : Rows.tapeApartRow.holds Try.pinned (OpenSpec.ofChange Rows.tapeApartSpec) :=
  OpenClaim.holds_of_wide 6 Try.f6 rfl rfl rfl rfl rfl rfl rfl ⟨rfl, rfl, rfl, rfl, rfl⟩ rfl rfl rfl rfl rfl (by kernel_rfl) Try.func6 (by kernel_rfl)
    (of_decide_eq_true (by kernel_rfl)) (by unfold Func.isWrapper; first | (rw [if_pos (by decide +kernel)]; kernel_rfl) | (rw [if_neg (by decide +kernel)]; exact ⟨rfl, rfl⟩))
    (fun os started H enc _ => lifted os started H enc)
theorem proved : Rows.TapeApartSaid := over
#print axioms proved
end Go.Proofs.Ytedifkidnpaejaa.tapeApart
namespace Go.Proofs.Ytedifkidnpaejaa
/-- The row, under a short name, for the claim. -/
theorem tapeApart_holds : Rows.TapeApartSaid := tapeApart.proved
end Go.Proofs.Ytedifkidnpaejaa
