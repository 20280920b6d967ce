-- written by xprint.py (a program of this session, over the kit's print)
import Derived.Test.YtaikeldhdbejaaaFl
import Derived.WalkLawsBesides
import Derived.Test.YtaikeldhdbejaaaXxSProbeLooks
import Derived.Test.YtaikeldhdbejaaaPureProbeLooks
namespace Go.Proofs.Ytaikeldhdbejaaa.probeLooks
open Go.ChangeShapes Go.WideShapes Go.ChangeAt Go.RowKit
open Go.ChangeMaps (open_string shut_string)
set_option linter.unusedVariables false
theorem own : ownKnob Try.prog.godebug = none := by kernel_rfl
theorem laidOut : laidOutB Try.prog = true := by kernel_rfl
def IsRow (k : IntKind) (w : World) (a : Option Addr) (len cap : Nat) (zs : List Int) : Prop :=
  (a = none ∧ len = 0 ∧ cap = 0 ∧ zs = []) ∨
  ∃ x, a = some x ∧ len ≤ cap ∧ cap ≤ maxLen ∧ zs.length = cap ∧ (∀ i, i < zs.length → w.cell? (x.add i) = some (.int k (zs.getD i 0))) ∧ ∀ n ∈ zs, (Lit.int k n).wf = true
theorem list3 {α : Type} {l : List α} (h : l.length = 3) : ∃ c0 c1 c2, l = [c0, c1, c2] := by match l, h with | [c0, c1, c2], _ => exact ⟨_, _, _, rfl⟩
theorem list4 {α : Type} {l : List α} (h : l.length = 4) : ∃ c0 c1 c2 c3, l = [c0, c1, c2, c3] := by match l, h with | [c0, c1, c2, c3], _ => exact ⟨_, _, _, _, rfl⟩
theorem cellsOf3 : Try.prog.cellsOf 3 = 1 := by kernel_rfl
theorem cellsOf22 : Try.prog.cellsOf 22 = 1 := by kernel_rfl
theorem cellsOf23 : Try.prog.cellsOf 23 = 1 := by kernel_rfl
theorem cellsOf25 : Try.prog.cellsOf 25 = 4 := by kernel_rfl
theorem cellsOf26 : Try.prog.cellsOf 26 = 1 := by kernel_rfl
theorem cellsOf28 : Try.prog.cellsOf 28 = 3 := by kernel_rfl
set_option maxRecDepth 100000 in
set_option maxHeartbeats 2000000 in
theorem lifted (os : Os) (started : os.Started) (H : Type) (enc : TypeId × Value → H) :
    ReturnsInHanded {} Try.checked os 3 .any (Rows.probeLooksSpec.pre6 enc Try.prog Try.f3 Rows.probeLooksRow.domain false) (Rows.probeLooksSpec.post enc Try.prog Try.f3 false true false false) := by
  refine returnsInHanded_of_change_sized (C := Try.checked) own started (by kernel_rfl) Try.func3
    (ChangeSpec.witness6 (enc := enc) (C := Try.checked) false ⟨#[], #[.agg #[.int .i64 0, .int .i64 0, .slice none 0 0, .slice none 0 0], .agg #[.int .i64 0, .float .f64 0, .int .i64 0]], []⟩ 8 (by kernel_rfl) (by kernel_rfl) (by kernel_rfl) (by kernel_rfl)) ?_
  intro W base args ds gs before hval0 hW hcnd hsz0 _
  have hval : ∀ (j : Nat) t v, Try.f3.params[j]? = some t → args[j]? = some v → Value.okWide Try.prog W .any base t v := hval0
  have hW' := hW
  obtain ⟨p, q, hA0, hV, rfl, hfz, hnd⟩ := hW
  have hA : DataW.TrodAll enc Try.prog W 0 (fun _ => true) true Try.f3.params.toList args.toList ds p := hA0
  rw [Try.params3] at hA hval
  obtain ⟨v0, vs0, d0, ds0, p0, q0, hargs, rfl, rfl, h0, r0⟩ := trodAll_cons hA
  obtain ⟨v1, vs1, d1, ds1, p1, q1, rfl, rfl, rfl, h1, r1⟩ := trodAll_cons r0
  obtain ⟨rfl, rfl, rfl⟩ := trodAll_nil r1
  obtain rfl : args = #[v0, v1] := by cases args; simp_all
  obtain ⟨rfl, rfl⟩ := trodVars_none hV
  have k0 := h0
  have lt0 : ∀ x ∈ p0, x.block < W.heap.size := by obtain ⟨m, hm⟩ := k0; exact DataW.trod_lt m _ _ _ hm
  obtain ⟨cs0, rfl, hs0⟩ := okWide_struct Try.underlying25 (hval 0 25 v0 rfl rfl)
  obtain ⟨ls0⟩ := cs0
  obtain ⟨c0_0, c0_1, c0_2, c0_3, rfl⟩ := list4 (l := ls0) (hs0.trans cellsOf25)
  obtain ⟨fu0, hf0⟩ := h0
  replace hf0 : DataW.trod enc Try.prog W _ _ _ fu0 25 [c0_0, c0_1, c0_2, c0_3] = some _ := hf0
  obtain ⟨xss0, ns0_, _, _, _, hlens0, hgs0⟩ := DataW.trod_struct Try.underlying25 hf0
  have gs0_0 : DataW.trod enc Try.prog W _ _ _ ns0_ 3 (List.take (Try.prog.cellsOf 3) (List.drop 0 [_, _, _, _])) = xss0[0]? := hgs0 0 _ rfl
  obtain ⟨ys0_0, eys0_0⟩ : ∃ y, xss0[0]? = some y := ⟨_, List.getElem?_eq_getElem (by rw [hlens0]; decide)⟩
  rw [eys0_0] at gs0_0
  rw [cellsOf3] at gs0_0
  replace gs0_0 : DataW.trod enc Try.prog W _ _ _ ns0_ 3 [c0_0] = some ys0_0 := gs0_0
  obtain ⟨a0_0, e0_0, _, w0_0⟩ := DataW.trod_int Try.underlying3 gs0_0
  obtain rfl : c0_0 = .int .i64 a0_0 := by simpa using e0_0
  have gs0_1 : DataW.trod enc Try.prog W _ _ _ ns0_ 3 (List.take (Try.prog.cellsOf 3) (List.drop 1 [_, _, _, _])) = xss0[1]? := hgs0 1 _ rfl
  obtain ⟨ys0_1, eys0_1⟩ : ∃ y, xss0[1]? = some y := ⟨_, List.getElem?_eq_getElem (by rw [hlens0]; decide)⟩
  rw [eys0_1] at gs0_1
  rw [cellsOf3] at gs0_1
  replace gs0_1 : DataW.trod enc Try.prog W _ _ _ ns0_ 3 [c0_1] = some ys0_1 := gs0_1
  obtain ⟨a0_1, e0_1, _, w0_1⟩ := DataW.trod_int Try.underlying3 gs0_1
  obtain rfl : c0_1 = .int .i64 a0_1 := by simpa using e0_1
  have gs0_2 : DataW.trod enc Try.prog W _ _ _ ns0_ 22 (List.take (Try.prog.cellsOf 22) (List.drop 2 [_, _, _, _])) = xss0[2]? := hgs0 2 _ rfl
  obtain ⟨ys0_2, eys0_2⟩ : ∃ y, xss0[2]? = some y := ⟨_, List.getElem?_eq_getElem (by rw [hlens0]; decide)⟩
  rw [eys0_2] at gs0_2
  rw [cellsOf22] at gs0_2
  replace gs0_2 : DataW.trod enc Try.prog W _ _ _ ns0_ 22 [c0_2] = some ys0_2 := gs0_2
  obtain ⟨aq0_2, lq0_2, cq0_2, E0_2⟩ := Fl.cell_slice Try.underlying22 gs0_2
  subst E0_2
  obtain ⟨l0_2, hn0_2, hc0_2, hm0_2, hr0_2, hw0_2⟩ := Fl.read_floats Try.underlying22 Try.underlying26 (by kernel_rfl) gs0_2
  subst hn0_2
  have hr0_2 : Go.Proofs.YtaikeldhdbejaaaW.PrintWords.ReadsOf (Value.float .f64) (0 : Nat) W aq0_2 l0_2.length l0_2 := ⟨rfl, by unfold maxLen at hm0_2; omega, hr0_2⟩
  have gs0_3 : DataW.trod enc Try.prog W _ _ _ ns0_ 23 (List.take (Try.prog.cellsOf 23) (List.drop 3 [_, _, _, _])) = xss0[3]? := hgs0 3 _ rfl
  obtain ⟨ys0_3, eys0_3⟩ : ∃ y, xss0[3]? = some y := ⟨_, List.getElem?_eq_getElem (by rw [hlens0]; decide)⟩
  rw [eys0_3] at gs0_3
  rw [cellsOf23] at gs0_3
  replace gs0_3 : DataW.trod enc Try.prog W _ _ _ ns0_ 23 [c0_3] = some ys0_3 := gs0_3
  obtain ⟨A0_3, n0_3, c0_3, z0_3, E0_3, w0_3⟩ : ∃ A n c zs, c0_3 = .slice A n c ∧ IsRow .i64 W A n c zs := by
    rcases open_ints Try.underlying23 Try.underlying3 (by kernel_rfl) gs0_3 with ⟨hcs, _⟩ | ⟨x, l, c, zs, hcs, _, hl, hm, hz, _, hcell, hwz⟩
    · exact ⟨none, 0, 0, [], by simpa using hcs, .inl ⟨rfl, rfl, rfl, rfl⟩⟩
    · exact ⟨some x, l, c, zs, by simpa using hcs, .inr ⟨_, rfl, hl, hm, by simpa using hz, hcell, hwz⟩⟩
  subst E0_3
  obtain ⟨l0_3, rfl, hr0_3, hm0_3, hw0_3, hc0_3⟩ := Go.Proofs.YtaikeldhdbejaaaW.PrintWords.ReadsInt.ofRowC w0_3
  have k1 := h1
  have lt1 : ∀ x ∈ p1, x.block < W.heap.size := by obtain ⟨m, hm⟩ := k1; exact DataW.trod_lt m _ _ _ hm
  obtain ⟨cs1, rfl, hs1⟩ := okWide_struct Try.underlying28 (hval 1 28 v1 rfl rfl)
  obtain ⟨ls1⟩ := cs1
  obtain ⟨c1_0, c1_1, c1_2, rfl⟩ := list3 (l := ls1) (hs1.trans cellsOf28)
  obtain ⟨fu1, hf1⟩ := h1
  replace hf1 : DataW.trod enc Try.prog W _ _ _ fu1 28 [c1_0, c1_1, c1_2] = some _ := hf1
  obtain ⟨xss1, ns1_, _, _, _, hlens1, hgs1⟩ := DataW.trod_struct Try.underlying28 hf1
  have gs1_0 : DataW.trod enc Try.prog W _ _ _ ns1_ 3 (List.take (Try.prog.cellsOf 3) (List.drop 0 [_, _, _])) = xss1[0]? := hgs1 0 _ rfl
  obtain ⟨ys1_0, eys1_0⟩ : ∃ y, xss1[0]? = some y := ⟨_, List.getElem?_eq_getElem (by rw [hlens1]; decide)⟩
  rw [eys1_0] at gs1_0
  rw [cellsOf3] at gs1_0
  replace gs1_0 : DataW.trod enc Try.prog W _ _ _ ns1_ 3 [c1_0] = some ys1_0 := gs1_0
  obtain ⟨a1_0, e1_0, _, w1_0⟩ := DataW.trod_int Try.underlying3 gs1_0
  obtain rfl : c1_0 = .int .i64 a1_0 := by simpa using e1_0
  have gs1_1 : DataW.trod enc Try.prog W _ _ _ ns1_ 26 (List.take (Try.prog.cellsOf 26) (List.drop 1 [_, _, _])) = xss1[1]? := hgs1 1 _ rfl
  obtain ⟨ys1_1, eys1_1⟩ : ∃ y, xss1[1]? = some y := ⟨_, List.getElem?_eq_getElem (by rw [hlens1]; decide)⟩
  rw [eys1_1] at gs1_1
  rw [cellsOf26] at gs1_1
  replace gs1_1 : DataW.trod enc Try.prog W _ _ _ ns1_ 26 [c1_1] = some ys1_1 := gs1_1
  obtain ⟨a1_1, e1_1, w1_1⟩ := Fl.trod_float Try.underlying26 gs1_1
  obtain rfl : c1_1 = .float .f64 a1_1 := by simpa using e1_1
  have gs1_2 : DataW.trod enc Try.prog W _ _ _ ns1_ 3 (List.take (Try.prog.cellsOf 3) (List.drop 2 [_, _, _])) = xss1[2]? := hgs1 2 _ rfl
  obtain ⟨ys1_2, eys1_2⟩ : ∃ y, xss1[2]? = some y := ⟨_, List.getElem?_eq_getElem (by rw [hlens1]; decide)⟩
  rw [eys1_2] at gs1_2
  rw [cellsOf3] at gs1_2
  replace gs1_2 : DataW.trod enc Try.prog W _ _ _ ns1_ 3 [c1_2] = some ys1_2 := gs1_2
  obtain ⟨a1_2, e1_2, _, w1_2⟩ := DataW.trod_int Try.underlying3 gs1_2
  obtain rfl : c1_2 = .int .i64 a1_2 := by simpa using e1_2
  clear hA0 hval0 hsz0
  have hk := Pure.ProbeLooks a0_0 a0_1 l0_2 l0_3 a1_0 a1_1 a1_2 w0_0 w0_1 hm0_2 hw0_2 hm0_3 hw0_3 w1_0 w1_1 w1_2
  refine (X.penumbralaw40_ProbeLooks.calls a0_0 a0_1 _ _ l0_2 _ _ l0_3 a1_0 a1_1 a1_2 true W (Go.Proofs.YtaikeldhdbejaaaW.PrintWords.Kd.C_of_reads (d := (0 : Nat)) (h1 := fun _ => rfl) hr0_2) hc0_2 (Go.Proofs.YtaikeldhdbejaaaW.PrintWords.Kd.C_of_reads (d := (0 : Int)) (h1 := fun _ => rfl) hr0_3) hc0_3 hk rfl).mono fun e W' ⟨he, bel0⟩ => ?_
  have bel : Below W.heap.size W W' := bel0
  subst he
  exact ⟨_, rfl, _, _, _, [], _, [], hW', trodAll_mk1 (shut_bool Try.underlying4 _), (trodAll_cons_mk (Below.trod laidOut (by kernel_rfl) (of_decide_eq_true (by kernel_rfl)) k0 bel lt0) (trodAll_cons_mk (Below.trod laidOut (by kernel_rfl) (of_decide_eq_true (by kernel_rfl)) k1 bel lt1) trodAll_mk0)), rfl, bel.frame _, fun h => by cases h⟩
theorem over : Rows.probeLooksRow.holds Try.pinned (OpenSpec.ofChange Rows.probeLooksSpec) :=
  OpenClaim.holds_of_wide 3 Try.f3 rfl rfl rfl rfl rfl rfl rfl ⟨rfl, rfl, rfl, rfl, rfl⟩ rfl rfl rfl rfl rfl (by kernel_rfl) Try.func3 (by kernel_rfl)
    (of_decide_eq_true (by kernel_rfl)) (by unfold Func.isWrapper; first | (rw [if_pos (by decide +kernel)]; kernel_rfl) | (rw [if_neg (by decide +kernel)]; exact ⟨rfl, rfl⟩))
    (fun os started H enc _ => lifted os started H enc)
theorem proved : Rows.ProbeLooksSaid := over
#print axioms proved
end Go.Proofs.Ytaikeldhdbejaaa.probeLooks
namespace Go.Proofs.Ytaikeldhdbejaaa
/-- The row, under a short name, for the claim. -/
theorem probeLooks_holds : Rows.ProbeLooksSaid := probeLooks.proved
end Go.Proofs.Ytaikeldhdbejaaa
