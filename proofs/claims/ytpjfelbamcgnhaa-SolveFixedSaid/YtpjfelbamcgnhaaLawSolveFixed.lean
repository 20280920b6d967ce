-- written by xprint.py (a program of this session, over the kit's print)
import Derived.Test.YtpjfelbamcgnhaaXxSSolveFixed
import Derived.Test.YtpjfelbamcgnhaaPureSolveFixed
namespace Go.Proofs.Ytpjfelbamcgnhaa.solveFixed
open Go.ChangeShapes Go.WideShapes Go.ChangeAt Go.RowKit
open Go.ChangeMaps (open_string shut_string)
set_option linter.unusedVariables false
theorem own : ownKnob Try.prog.godebug = none := by kernel_rfl
theorem laidOut : laidOutB Try.prog = true := by kernel_rfl
def IsRow (k : IntKind) (w : World) (a : Option Addr) (len cap : Nat) (zs : List Int) : Prop :=
  (a = none ∧ len = 0 ∧ cap = 0 ∧ zs = []) ∨
  ∃ x, a = some x ∧ len ≤ cap ∧ cap ≤ maxLen ∧ zs.length = cap ∧ (∀ i, i < zs.length → w.cell? (x.add i) = some (.int k (zs.getD i 0))) ∧ ∀ n ∈ zs, (Lit.int k n).wf = true
theorem list2 {α : Type} {l : List α} (h : l.length = 2) : ∃ c0 c1, l = [c0, c1] := by match l, h with | [c0, c1], _ => exact ⟨_, _, rfl⟩
theorem cellsOf22 : Try.prog.cellsOf 22 = 1 := by kernel_rfl
theorem cellsOf37 : Try.prog.cellsOf 37 = 2 := by kernel_rfl
set_option maxRecDepth 100000 in
set_option maxHeartbeats 2000000 in
theorem lifted (os : Os) (started : os.Started) (H : Type) (enc : TypeId × Value → H) :
    ReturnsInHanded {} Try.checked os 4 .any (Rows.solveFixedSpec.pre6 enc Try.prog Try.f4 Rows.solveFixedRow.domain false) (Rows.solveFixedSpec.post enc Try.prog Try.f4 false true false false) := by
  refine returnsInHanded_of_change_sized (C := Try.checked) own started (by kernel_rfl) Try.func4
    (ChangeSpec.witness6 (enc := enc) (C := Try.checked) false ⟨#[], #[.agg #[.slice none 0 0, .slice none 0 0], .slice none 0 0], []⟩ 8 (by kernel_rfl) (by kernel_rfl) (by kernel_rfl) (by kernel_rfl)) ?_
  intro W base args ds gs before hval0 hW hcnd hsz0 _
  have hval : ∀ (j : Nat) t v, Try.f4.params[j]? = some t → args[j]? = some v → Value.okWide Try.prog W .any base t v := hval0
  have hW' := hW
  obtain ⟨p, q, hA0, hV, rfl, hfz, hnd⟩ := hW
  have hA : DataW.TrodAll enc Try.prog W 0 (fun _ => true) true Try.f4.params.toList args.toList ds p := hA0
  rw [Try.params4] at hA hval
  obtain ⟨v0, vs0, d0, ds0, p0, q0, hargs, rfl, rfl, h0, r0⟩ := trodAll_cons hA
  obtain ⟨v1, vs1, d1, ds1, p1, q1, rfl, rfl, rfl, h1, r1⟩ := trodAll_cons r0
  obtain ⟨rfl, rfl, rfl⟩ := trodAll_nil r1
  obtain rfl : args = #[v0, v1] := by cases args; simp_all
  obtain ⟨rfl, rfl⟩ := trodVars_none hV
  have k0 := h0
  have lt0 : ∀ x ∈ p0, x.block < W.heap.size := by obtain ⟨m, hm⟩ := k0; exact DataW.trod_lt m _ _ _ hm
  obtain ⟨cs0, rfl, hs0⟩ := okWide_struct Try.underlying37 (hval 0 37 v0 rfl rfl)
  obtain ⟨ls0⟩ := cs0
  obtain ⟨c0_0, c0_1, rfl⟩ := list2 (l := ls0) (hs0.trans cellsOf37)
  obtain ⟨fu0, hf0⟩ := h0
  replace hf0 : DataW.trod enc Try.prog W _ _ _ fu0 37 [c0_0, c0_1] = some _ := hf0
  obtain ⟨xss0, ns0_, _, _, _, hlens0, hgs0⟩ := DataW.trod_struct Try.underlying37 hf0
  have gs0_0 : DataW.trod enc Try.prog W _ _ _ ns0_ 22 (List.take (Try.prog.cellsOf 22) (List.drop 0 [_, _])) = xss0[0]? := hgs0 0 _ rfl
  obtain ⟨ys0_0, eys0_0⟩ : ∃ y, xss0[0]? = some y := ⟨_, List.getElem?_eq_getElem (by rw [hlens0]; decide)⟩
  rw [eys0_0] at gs0_0
  rw [cellsOf22] at gs0_0
  replace gs0_0 : DataW.trod enc Try.prog W _ _ _ ns0_ 22 [c0_0] = some ys0_0 := gs0_0
  obtain ⟨A0_0, n0_0, c0_0, z0_0, E0_0, w0_0⟩ : ∃ A n c zs, c0_0 = .slice A n c ∧ IsRow .i64 W A n c zs := by
    rcases open_ints Try.underlying22 Try.underlying3 (by kernel_rfl) gs0_0 with ⟨hcs, _⟩ | ⟨x, l, c, zs, hcs, _, hl, hm, hz, _, hcell, hwz⟩
    · exact ⟨none, 0, 0, [], by simpa using hcs, .inl ⟨rfl, rfl, rfl, rfl⟩⟩
    · exact ⟨some x, l, c, zs, by simpa using hcs, .inr ⟨_, rfl, hl, hm, by simpa using hz, hcell, hwz⟩⟩
  subst E0_0
  obtain ⟨l0_0, rfl, hr0_0, hm0_0, hw0_0, hc0_0⟩ := Go.Proofs.YtpjfelbamcgnhaaW.PrintWords.ReadsInt.ofRowC w0_0
  have gs0_1 : DataW.trod enc Try.prog W _ _ _ ns0_ 22 (List.take (Try.prog.cellsOf 22) (List.drop 1 [_, _])) = xss0[1]? := hgs0 1 _ rfl
  obtain ⟨ys0_1, eys0_1⟩ : ∃ y, xss0[1]? = some y := ⟨_, List.getElem?_eq_getElem (by rw [hlens0]; decide)⟩
  rw [eys0_1] at gs0_1
  rw [cellsOf22] at gs0_1
  replace gs0_1 : DataW.trod enc Try.prog W _ _ _ ns0_ 22 [c0_1] = some ys0_1 := gs0_1
  obtain ⟨A0_1, n0_1, c0_1, z0_1, E0_1, w0_1⟩ : ∃ A n c zs, c0_1 = .slice A n c ∧ IsRow .i64 W A n c zs := by
    rcases open_ints Try.underlying22 Try.underlying3 (by kernel_rfl) gs0_1 with ⟨hcs, _⟩ | ⟨x, l, c, zs, hcs, _, hl, hm, hz, _, hcell, hwz⟩
    · exact ⟨none, 0, 0, [], by simpa using hcs, .inl ⟨rfl, rfl, rfl, rfl⟩⟩
    · exact ⟨some x, l, c, zs, by simpa using hcs, .inr ⟨_, rfl, hl, hm, by simpa using hz, hcell, hwz⟩⟩
  subst E0_1
  obtain ⟨l0_1, rfl, hr0_1, hm0_1, hw0_1, hc0_1⟩ := Go.Proofs.YtpjfelbamcgnhaaW.PrintWords.ReadsInt.ofRowC w0_1
  have k1 := h1
  have lt1 : ∀ x ∈ p1, x.block < W.heap.size := by obtain ⟨m, hm⟩ := k1; exact DataW.trod_lt m _ _ _ hm
  obtain ⟨aq1, lq1, cq1, rfl⟩ := okWide_slice Try.underlying22 (hval 1 22 v1 rfl rfl)
  obtain ⟨fu1, hf1⟩ := h1
  obtain ⟨A1, n1, c1, z1, E1, w1⟩ : ∃ A n c zs, (Value.slice aq1 lq1 cq1) = .slice A n c ∧ IsRow .i64 W A n c zs := by
    rcases open_ints Try.underlying22 Try.underlying3 (by kernel_rfl) (show DataW.trod enc Try.prog W _ _ _ fu1 22 [Value.slice aq1 lq1 cq1] = some _ from hf1) with ⟨hcs, _⟩ | ⟨x, l, c, zs, hcs, _, hl, hm, hz, _, hcell, hwz⟩
    · exact ⟨none, 0, 0, [], by simpa using hcs, .inl ⟨rfl, rfl, rfl, rfl⟩⟩
    · exact ⟨some x, l, c, zs, by simpa using hcs, .inr ⟨_, rfl, hl, hm, by simpa using hz, hcell, hwz⟩⟩
  injection E1 with e1_ e2_ e3_; subst e1_ e2_ e3_
  obtain ⟨l1, rfl, hr1, hm1, hw1, hc1⟩ := Go.Proofs.YtpjfelbamcgnhaaW.PrintWords.ReadsInt.ofRowC w1
  clear hA0 hval0 hsz0
  obtain ⟨k, hk⟩ := Pure.SolveFixed l0_0 l0_1 l1 hm0_0 hw0_0 hm0_1 hw0_1 hm1 hw1
  refine (X.penumbralaw34_SolveFixed.calls k _ _ l0_0 _ _ l0_1 _ _ l1 true W (Go.Proofs.YtpjfelbamcgnhaaW.PrintWords.Kd.C_of_reads (d := (0 : Int)) (h1 := fun _ => rfl) hr0_0) hc0_0 (Go.Proofs.YtpjfelbamcgnhaaW.PrintWords.Kd.C_of_reads (d := (0 : Int)) (h1 := fun _ => rfl) hr0_1) hc0_1 (Go.Proofs.YtpjfelbamcgnhaaW.PrintWords.Kd.C_of_reads (d := (0 : Int)) (h1 := fun _ => rfl) hr1) hc1 hk rfl).mono fun e W' ⟨he, bel0⟩ => ?_
  have bel : Below W.heap.size W W' := bel0
  subst he
  exact ⟨_, rfl, _, _, _, [], _, [], hW', trodAll_mk1 (shut_bool Try.underlying4 _), (trodAll_cons_mk (Below.trod laidOut (by kernel_rfl) (of_decide_eq_true (by kernel_rfl)) k0 bel lt0) (trodAll_cons_mk (Below.trod laidOut (by kernel_rfl) (of_decide_eq_true (by kernel_rfl)) k1 bel lt1) trodAll_mk0)), rfl, bel.frame _, fun h => by cases h⟩
theorem over : Rows.solveFixedRow.holds Try.pinned (OpenSpec.ofChange Rows.solveFixedSpec) :=
  OpenClaim.holds_of_wide 4 Try.f4 rfl rfl rfl rfl rfl rfl rfl ⟨rfl, rfl, rfl, rfl, rfl⟩ rfl rfl rfl rfl rfl (by kernel_rfl) Try.func4 (by kernel_rfl)
    (of_decide_eq_true (by kernel_rfl)) (by unfold Func.isWrapper; first | (rw [if_pos (by decide +kernel)]; kernel_rfl) | (rw [if_neg (by decide +kernel)]; exact ⟨rfl, rfl⟩))
    (fun os started H enc _ => lifted os started H enc)
theorem proved : Rows.SolveFixedSaid := over
#print axioms proved
end Go.Proofs.Ytpjfelbamcgnhaa.solveFixed
namespace Go.Proofs.Ytpjfelbamcgnhaa
/-- The row, under a short name, for the claim. -/
theorem solveFixed_holds : Rows.SolveFixedSaid := solveFixed.proved
end Go.Proofs.Ytpjfelbamcgnhaa
