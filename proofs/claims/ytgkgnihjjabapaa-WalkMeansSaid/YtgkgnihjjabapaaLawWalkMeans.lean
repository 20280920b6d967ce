-- written by xprint.py (a program of this session, over the kit's print)
import Derived.Test.YtgkgnihjjabapaaXxSWalkMeans
import Derived.Test.YtgkgnihjjabapaaPureWalkMeans
namespace Go.Proofs.Ytgkgnihjjabapaa.walkMeans
open Go.ChangeShapes Go.WideShapes Go.ChangeAt Go.RowKit
open Go.ChangeMaps (open_string shut_string)
set_option linter.unusedVariables false
theorem own : ownKnob Try.prog.godebug = none := by kernel_rfl
theorem laidOut : laidOutB Try.prog = true := by kernel_rfl
def IsRow (k : IntKind) (w : World) (a : Option Addr) (len cap : Nat) (zs : List Int) : Prop :=
  (a = none ∧ len = 0 ∧ cap = 0 ∧ zs = []) ∨
  ∃ x, a = some x ∧ len ≤ cap ∧ cap ≤ maxLen ∧ zs.length = cap ∧ (∀ i, i < zs.length → w.cell? (x.add i) = some (.int k (zs.getD i 0))) ∧ ∀ n ∈ zs, (Lit.int k n).wf = true
theorem list2 {α : Type} {l : List α} (h : l.length = 2) : ∃ c0 c1, l = [c0, c1] := by match l, h with | [c0, c1], _ => exact ⟨_, _, rfl⟩
theorem list3 {α : Type} {l : List α} (h : l.length = 3) : ∃ c0 c1 c2, l = [c0, c1, c2] := by match l, h with | [c0, c1, c2], _ => exact ⟨_, _, _, rfl⟩
theorem cellsOf3 : Try.prog.cellsOf 3 = 1 := by kernel_rfl
theorem cellsOf22 : Try.prog.cellsOf 22 = 1 := by kernel_rfl
theorem cellsOf24 : Try.prog.cellsOf 24 = 2 := by kernel_rfl
theorem cellsOf26 : Try.prog.cellsOf 26 = 3 := by kernel_rfl
set_option maxRecDepth 100000 in
set_option maxHeartbeats 2000000 in
theorem lifted (os : Os) (started : os.Started) (H : Type) (enc : TypeId × Value → H) :
    ReturnsInHanded {} Try.checked os 4 .any (Rows.walkMeansSpec.pre6 enc Try.prog Try.f4 Rows.walkMeansRow.domain false) (Rows.walkMeansSpec.post enc Try.prog Try.f4 false true false false) := by
  refine returnsInHanded_of_change_sized (C := Try.checked) own started (by kernel_rfl) Try.func4
    (ChangeSpec.witness6 (enc := enc) (C := Try.checked) false ⟨#[], #[.agg #[.slice none 0 0, .slice none 0 0], .agg #[.slice none 0 0, .slice none 0 0, .int .i64 0], .int .i64 0], []⟩ 8 (by kernel_rfl) (by kernel_rfl) (by kernel_rfl) (by kernel_rfl)) ?_
  intro W base args ds gs before hval0 hW hcnd hsz0 _
  have hval : ∀ (j : Nat) t v, Try.f4.params[j]? = some t → args[j]? = some v → Value.okWide Try.prog W .any base t v := hval0
  have hW' := hW
  obtain ⟨p, q, hA0, hV, rfl, hfz, hnd⟩ := hW
  have hA : DataW.TrodAll enc Try.prog W 0 (fun _ => true) true Try.f4.params.toList args.toList ds p := hA0
  rw [Try.params4] at hA hval
  obtain ⟨v0, vs0, d0, ds0, p0, q0, hargs, rfl, rfl, h0, r0⟩ := trodAll_cons hA
  obtain ⟨v1, vs1, d1, ds1, p1, q1, rfl, rfl, rfl, h1, r1⟩ := trodAll_cons r0
  obtain ⟨v2, vs2, d2, ds2, p2, q2, rfl, rfl, rfl, h2, r2⟩ := trodAll_cons r1
  obtain ⟨rfl, rfl, rfl⟩ := trodAll_nil r2
  obtain rfl : args = #[v0, v1, v2] := by cases args; simp_all
  obtain ⟨rfl, rfl⟩ := trodVars_none hV
  have k0 := h0
  have lt0 : ∀ x ∈ p0, x.block < W.heap.size := by obtain ⟨m, hm⟩ := k0; exact DataW.trod_lt m _ _ _ hm
  obtain ⟨cs0, rfl, hs0⟩ := okWide_struct Try.underlying24 (hval 0 24 v0 rfl rfl)
  obtain ⟨ls0⟩ := cs0
  obtain ⟨c0_0, c0_1, rfl⟩ := list2 (l := ls0) (hs0.trans cellsOf24)
  obtain ⟨fu0, hf0⟩ := h0
  replace hf0 : DataW.trod enc Try.prog W _ _ _ fu0 24 [c0_0, c0_1] = some _ := hf0
  obtain ⟨xss0, ns0_, _, _, _, hlens0, hgs0⟩ := DataW.trod_struct Try.underlying24 hf0
  have gs0_0 : DataW.trod enc Try.prog W _ _ _ ns0_ 22 (List.take (Try.prog.cellsOf 22) (List.drop 0 [_, _])) = xss0[0]? := hgs0 0 _ rfl
  obtain ⟨ys0_0, eys0_0⟩ : ∃ y, xss0[0]? = some y := ⟨_, List.getElem?_eq_getElem (by rw [hlens0]; decide)⟩
  rw [eys0_0] at gs0_0
  rw [cellsOf22] at gs0_0
  replace gs0_0 : DataW.trod enc Try.prog W _ _ _ ns0_ 22 [c0_0] = some ys0_0 := gs0_0
  obtain ⟨A0_0, n0_0, c0_0, z0_0, E0_0, w0_0⟩ : ∃ A n c zs, c0_0 = .slice A n c ∧ IsRow .i64 W A n c zs := by
    rcases open_ints Try.underlying22 Try.underlying3 (by kernel_rfl) gs0_0 with ⟨hcs, _⟩ | ⟨x, l, c, zs, hcs, _, hl, hm, hz, _, hcell, hwz⟩
    · exact ⟨none, 0, 0, [], by simpa using hcs, .inl ⟨rfl, rfl, rfl, rfl⟩⟩
    · exact ⟨some x, l, c, zs, by simpa using hcs, .inr ⟨_, rfl, hl, hm, by simpa using hz, hcell, hwz⟩⟩
  subst E0_0
  obtain ⟨l0_0, rfl, hr0_0, hm0_0, hw0_0, hc0_0⟩ := Go.Proofs.YtgkgnihjjabapaaW.PrintWords.ReadsInt.ofRowC w0_0
  have gs0_1 : DataW.trod enc Try.prog W _ _ _ ns0_ 22 (List.take (Try.prog.cellsOf 22) (List.drop 1 [_, _])) = xss0[1]? := hgs0 1 _ rfl
  obtain ⟨ys0_1, eys0_1⟩ : ∃ y, xss0[1]? = some y := ⟨_, List.getElem?_eq_getElem (by rw [hlens0]; decide)⟩
  rw [eys0_1] at gs0_1
  rw [cellsOf22] at gs0_1
  replace gs0_1 : DataW.trod enc Try.prog W _ _ _ ns0_ 22 [c0_1] = some ys0_1 := gs0_1
  obtain ⟨A0_1, n0_1, c0_1, z0_1, E0_1, w0_1⟩ : ∃ A n c zs, c0_1 = .slice A n c ∧ IsRow .i64 W A n c zs := by
    rcases open_ints Try.underlying22 Try.underlying3 (by kernel_rfl) gs0_1 with ⟨hcs, _⟩ | ⟨x, l, c, zs, hcs, _, hl, hm, hz, _, hcell, hwz⟩
    · exact ⟨none, 0, 0, [], by simpa using hcs, .inl ⟨rfl, rfl, rfl, rfl⟩⟩
    · exact ⟨some x, l, c, zs, by simpa using hcs, .inr ⟨_, rfl, hl, hm, by simpa using hz, hcell, hwz⟩⟩
  subst E0_1
  obtain ⟨l0_1, rfl, hr0_1, hm0_1, hw0_1, hc0_1⟩ := Go.Proofs.YtgkgnihjjabapaaW.PrintWords.ReadsInt.ofRowC w0_1
  have k1 := h1
  have lt1 : ∀ x ∈ p1, x.block < W.heap.size := by obtain ⟨m, hm⟩ := k1; exact DataW.trod_lt m _ _ _ hm
  obtain ⟨cs1, rfl, hs1⟩ := okWide_struct Try.underlying26 (hval 1 26 v1 rfl rfl)
  obtain ⟨ls1⟩ := cs1
  obtain ⟨c1_0, c1_1, c1_2, rfl⟩ := list3 (l := ls1) (hs1.trans cellsOf26)
  obtain ⟨fu1, hf1⟩ := h1
  replace hf1 : DataW.trod enc Try.prog W _ _ _ fu1 26 [c1_0, c1_1, c1_2] = some _ := hf1
  obtain ⟨xss1, ns1_, _, _, _, hlens1, hgs1⟩ := DataW.trod_struct Try.underlying26 hf1
  have gs1_0 : DataW.trod enc Try.prog W _ _ _ ns1_ 22 (List.take (Try.prog.cellsOf 22) (List.drop 0 [_, _, _])) = xss1[0]? := hgs1 0 _ rfl
  obtain ⟨ys1_0, eys1_0⟩ : ∃ y, xss1[0]? = some y := ⟨_, List.getElem?_eq_getElem (by rw [hlens1]; decide)⟩
  rw [eys1_0] at gs1_0
  rw [cellsOf22] at gs1_0
  replace gs1_0 : DataW.trod enc Try.prog W _ _ _ ns1_ 22 [c1_0] = some ys1_0 := gs1_0
  obtain ⟨A1_0, n1_0, c1_0, z1_0, E1_0, w1_0⟩ : ∃ A n c zs, c1_0 = .slice A n c ∧ IsRow .i64 W A n c zs := by
    rcases open_ints Try.underlying22 Try.underlying3 (by kernel_rfl) gs1_0 with ⟨hcs, _⟩ | ⟨x, l, c, zs, hcs, _, hl, hm, hz, _, hcell, hwz⟩
    · exact ⟨none, 0, 0, [], by simpa using hcs, .inl ⟨rfl, rfl, rfl, rfl⟩⟩
    · exact ⟨some x, l, c, zs, by simpa using hcs, .inr ⟨_, rfl, hl, hm, by simpa using hz, hcell, hwz⟩⟩
  subst E1_0
  obtain ⟨l1_0, rfl, hr1_0, hm1_0, hw1_0, hc1_0⟩ := Go.Proofs.YtgkgnihjjabapaaW.PrintWords.ReadsInt.ofRowC w1_0
  have gs1_1 : DataW.trod enc Try.prog W _ _ _ ns1_ 22 (List.take (Try.prog.cellsOf 22) (List.drop 1 [_, _, _])) = xss1[1]? := hgs1 1 _ rfl
  obtain ⟨ys1_1, eys1_1⟩ : ∃ y, xss1[1]? = some y := ⟨_, List.getElem?_eq_getElem (by rw [hlens1]; decide)⟩
  rw [eys1_1] at gs1_1
  rw [cellsOf22] at gs1_1
  replace gs1_1 : DataW.trod enc Try.prog W _ _ _ ns1_ 22 [c1_1] = some ys1_1 := gs1_1
  obtain ⟨A1_1, n1_1, c1_1, z1_1, E1_1, w1_1⟩ : ∃ A n c zs, c1_1 = .slice A n c ∧ IsRow .i64 W A n c zs := by
    rcases open_ints Try.underlying22 Try.underlying3 (by kernel_rfl) gs1_1 with ⟨hcs, _⟩ | ⟨x, l, c, zs, hcs, _, hl, hm, hz, _, hcell, hwz⟩
    · exact ⟨none, 0, 0, [], by simpa using hcs, .inl ⟨rfl, rfl, rfl, rfl⟩⟩
    · exact ⟨some x, l, c, zs, by simpa using hcs, .inr ⟨_, rfl, hl, hm, by simpa using hz, hcell, hwz⟩⟩
  subst E1_1
  obtain ⟨l1_1, rfl, hr1_1, hm1_1, hw1_1, hc1_1⟩ := Go.Proofs.YtgkgnihjjabapaaW.PrintWords.ReadsInt.ofRowC w1_1
  have gs1_2 : DataW.trod enc Try.prog W _ _ _ ns1_ 3 (List.take (Try.prog.cellsOf 3) (List.drop 2 [_, _, _])) = xss1[2]? := hgs1 2 _ rfl
  obtain ⟨ys1_2, eys1_2⟩ : ∃ y, xss1[2]? = some y := ⟨_, List.getElem?_eq_getElem (by rw [hlens1]; decide)⟩
  rw [eys1_2] at gs1_2
  rw [cellsOf3] at gs1_2
  replace gs1_2 : DataW.trod enc Try.prog W _ _ _ ns1_ 3 [c1_2] = some ys1_2 := gs1_2
  obtain ⟨a1_2, e1_2, _, w1_2⟩ := DataW.trod_int Try.underlying3 gs1_2
  obtain rfl : c1_2 = .int .i64 a1_2 := by simpa using e1_2
  have k2 := h2
  have lt2 : ∀ x ∈ p2, x.block < W.heap.size := by obtain ⟨m, hm⟩ := k2; exact DataW.trod_lt m _ _ _ hm
  obtain ⟨a2, rfl, _, _, w2⟩ := open_int Try.underlying3 (hval 2 3 v2 rfl rfl) h2
  clear hA0 hval0 hsz0
  obtain ⟨k, hk⟩ := Pure.WalkMeans l0_0 l0_1 l1_0 l1_1 a1_2 a2 hm0_0 hw0_0 hm0_1 hw0_1 hm1_0 hw1_0 hm1_1 hw1_1 w1_2 w2
  refine (X.penumbralaw35_WalkMeans.calls k _ _ l0_0 _ _ l0_1 _ _ l1_0 _ _ l1_1 a1_2 a2 true W (Go.Proofs.YtgkgnihjjabapaaW.PrintWords.Kd.C_of_reads (d := (0 : Int)) (h1 := fun _ => rfl) hr0_0) hc0_0 (Go.Proofs.YtgkgnihjjabapaaW.PrintWords.Kd.C_of_reads (d := (0 : Int)) (h1 := fun _ => rfl) hr0_1) hc0_1 (Go.Proofs.YtgkgnihjjabapaaW.PrintWords.Kd.C_of_reads (d := (0 : Int)) (h1 := fun _ => rfl) hr1_0) hc1_0 (Go.Proofs.YtgkgnihjjabapaaW.PrintWords.Kd.C_of_reads (d := (0 : Int)) (h1 := fun _ => rfl) hr1_1) hc1_1 hk rfl).mono fun e W' ⟨he, bel0⟩ => ?_
  have bel : Below W.heap.size W W' := bel0
  subst he
  exact ⟨_, rfl, _, _, _, [], _, [], hW', trodAll_mk1 (shut_bool Try.underlying4 _), (trodAll_cons_mk (Below.trod laidOut (by kernel_rfl) (of_decide_eq_true (by kernel_rfl)) k0 bel lt0) (trodAll_cons_mk (Below.trod laidOut (by kernel_rfl) (of_decide_eq_true (by kernel_rfl)) k1 bel lt1) (trodAll_cons_mk (Below.trod laidOut (by kernel_rfl) (of_decide_eq_true (by kernel_rfl)) k2 bel lt2) trodAll_mk0))), rfl, bel.frame _, fun h => by cases h⟩
theorem over : Rows.walkMeansRow.holds Try.pinned (OpenSpec.ofChange Rows.walkMeansSpec) :=
  OpenClaim.holds_of_wide 4 Try.f4 rfl rfl rfl rfl rfl rfl rfl ⟨rfl, rfl, rfl, rfl, rfl⟩ rfl rfl rfl rfl rfl (by kernel_rfl) Try.func4 (by kernel_rfl)
    (of_decide_eq_true (by kernel_rfl)) (by unfold Func.isWrapper; first | (rw [if_pos (by decide +kernel)]; kernel_rfl) | (rw [if_neg (by decide +kernel)]; exact ⟨rfl, rfl⟩))
    (fun os started H enc _ => lifted os started H enc)
theorem proved : Rows.WalkMeansSaid := over
#print axioms proved
end Go.Proofs.Ytgkgnihjjabapaa.walkMeans
namespace Go.Proofs.Ytgkgnihjjabapaa
/-- The row, under a short name, for the claim. -/
theorem walkMeans_holds : Rows.WalkMeansSaid := walkMeans.proved
end Go.Proofs.Ytgkgnihjjabapaa
