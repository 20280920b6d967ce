-- written by xprint.py (a program of this session, over the kit's print)
import Derived.Test.YtgkgnihjjabapaaKg
import Derived.Test.YtgkgnihjjabapaaXxSWalkFollows
import Derived.Test.YtgkgnihjjabapaaPureWalkFollows
namespace Go.Proofs.Ytgkgnihjjabapaa.walkFollows
open Go.ChangeShapes Go.WideShapes Go.ChangeAt Go.RowKit
open Go.ChangeMaps (open_string shut_string)
set_option linter.unusedVariables false
theorem own : ownKnob Try.prog.godebug = none := by kernel_rfl
theorem laidOut : laidOutB Try.prog = true := by kernel_rfl
def IsRow (k : IntKind) (w : World) (a : Option Addr) (len cap : Nat) (zs : List Int) : Prop :=
  (a = none ∧ len = 0 ∧ cap = 0 ∧ zs = []) ∨
  ∃ x, a = some x ∧ len ≤ cap ∧ cap ≤ maxLen ∧ zs.length = cap ∧ (∀ i, i < zs.length → w.cell? (x.add i) = some (.int k (zs.getD i 0))) ∧ ∀ n ∈ zs, (Lit.int k n).wf = true
theorem list7 {α : Type} {l : List α} (h : l.length = 7) : ∃ c0 c1 c2 c3 c4 c5 c6, l = [c0, c1, c2, c3, c4, c5, c6] := by match l, h with | [c0, c1, c2, c3, c4, c5, c6], _ => exact ⟨_, _, _, _, _, _, _, rfl⟩
theorem cellsOf3 : Try.prog.cellsOf 3 = 1 := by kernel_rfl
theorem cellsOf22 : Try.prog.cellsOf 22 = 1 := by kernel_rfl
theorem cellsOf24 : Try.prog.cellsOf 24 = 2 := by kernel_rfl
theorem cellsOf26 : Try.prog.cellsOf 26 = 3 := by kernel_rfl
theorem cellsOf27 : Try.prog.cellsOf 27 = 1 := by kernel_rfl
theorem cellsOf29 : Try.prog.cellsOf 29 = 7 := by kernel_rfl
set_option maxRecDepth 100000 in
set_option maxHeartbeats 2000000 in
theorem lifted (os : Os) (started : os.Started) (H : Type) (enc : TypeId × Value → H) :
    ReturnsInHanded {} Try.checked os 3 .any (Rows.walkFollowsSpec.pre6 enc Try.prog Try.f3 Rows.walkFollowsRow.domain false) (Rows.walkFollowsSpec.post enc Try.prog Try.f3 false true false false) := by
  refine returnsInHanded_of_change_sized (C := Try.checked) own started (by kernel_rfl) Try.func3
    (ChangeSpec.witness6 (enc := enc) (C := Try.checked) false ⟨#[], #[.agg #[.slice none 0 0, .slice none 0 0, .slice none 0 0, .slice none 0 0, .int .i64 0, .int .i64 0, .slice none 0 0]], []⟩ 8 (by kernel_rfl) (by kernel_rfl) (by kernel_rfl) (by kernel_rfl)) ?_
  intro W base args ds gs before hval0 hW hcnd hsz0 _
  have hval : ∀ (j : Nat) t v, Try.f3.params[j]? = some t → args[j]? = some v → Value.okWide Try.prog W .any base t v := hval0
  have hW' := hW
  obtain ⟨p, q, hA0, hV, rfl, hfz, hnd⟩ := hW
  have hA : DataW.TrodAll enc Try.prog W 0 (fun _ => true) true Try.f3.params.toList args.toList ds p := hA0
  rw [Try.params3] at hA hval
  obtain ⟨v0, vs0, d0, ds0, p0, q0, hargs, rfl, rfl, h0, r0⟩ := trodAll_cons hA
  obtain ⟨rfl, rfl, rfl⟩ := trodAll_nil r0
  obtain rfl : args = #[v0] := by cases args; simp_all
  obtain ⟨rfl, rfl⟩ := trodVars_none hV
  have k0 := h0
  have lt0 : ∀ x ∈ p0, x.block < W.heap.size := by obtain ⟨m, hm⟩ := k0; exact DataW.trod_lt m _ _ _ hm
  obtain ⟨cs0, rfl, hs0⟩ := okWide_struct Try.underlying29 (hval 0 29 v0 rfl rfl)
  obtain ⟨ls0⟩ := cs0
  obtain ⟨c0_0, c0_1, c0_2, c0_3, c0_4, c0_5, c0_6, rfl⟩ := list7 (l := ls0) (hs0.trans cellsOf29)
  obtain ⟨fu0, hf0⟩ := h0
  replace hf0 : DataW.trod enc Try.prog W _ _ _ fu0 29 [c0_0, c0_1, c0_2, c0_3, c0_4, c0_5, c0_6] = some _ := hf0
  obtain ⟨xss0, ns0_, _, _, _, hlens0, hgs0⟩ := DataW.trod_struct Try.underlying29 hf0
  have gs0_0 : DataW.trod enc Try.prog W _ _ _ ns0_ 24 (List.take (Try.prog.cellsOf 24) (List.drop 0 [_, _, _, _, _, _, _])) = xss0[0]? := hgs0 0 _ rfl
  obtain ⟨ys0_0, eys0_0⟩ : ∃ y, xss0[0]? = some y := ⟨_, List.getElem?_eq_getElem (by rw [hlens0]; decide)⟩
  rw [eys0_0] at gs0_0
  rw [cellsOf24] at gs0_0
  replace gs0_0 : DataW.trod enc Try.prog W _ _ _ ns0_ 24 [c0_0, c0_1] = some ys0_0 := gs0_0
  obtain ⟨xss0_0, ns0_0_, _, _, _, hlens0_0, hgs0_0⟩ := DataW.trod_struct Try.underlying24 gs0_0
  have gs0_0_0 : DataW.trod enc Try.prog W _ _ _ ns0_0_ 22 (List.take (Try.prog.cellsOf 22) (List.drop 0 [_, _])) = xss0_0[0]? := hgs0_0 0 _ rfl
  obtain ⟨ys0_0_0, eys0_0_0⟩ : ∃ y, xss0_0[0]? = some y := ⟨_, List.getElem?_eq_getElem (by rw [hlens0_0]; decide)⟩
  rw [eys0_0_0] at gs0_0_0
  rw [cellsOf22] at gs0_0_0
  replace gs0_0_0 : DataW.trod enc Try.prog W _ _ _ ns0_0_ 22 [c0_0] = some ys0_0_0 := gs0_0_0
  obtain ⟨A0_0, n0_0, c0_0, z0_0, E0_0, w0_0⟩ : ∃ A n c zs, c0_0 = .slice A n c ∧ IsRow .i64 W A n c zs := by
    rcases open_ints Try.underlying22 Try.underlying3 (by kernel_rfl) gs0_0_0 with ⟨hcs, _⟩ | ⟨x, l, c, zs, hcs, _, hl, hm, hz, _, hcell, hwz⟩
    · exact ⟨none, 0, 0, [], by simpa using hcs, .inl ⟨rfl, rfl, rfl, rfl⟩⟩
    · exact ⟨some x, l, c, zs, by simpa using hcs, .inr ⟨_, rfl, hl, hm, by simpa using hz, hcell, hwz⟩⟩
  subst E0_0
  obtain ⟨l0_0, rfl, hr0_0, hm0_0, hw0_0, hc0_0⟩ := Go.Proofs.YtgkgnihjjabapaaW.PrintWords.ReadsInt.ofRowC w0_0
  have gs0_0_1 : DataW.trod enc Try.prog W _ _ _ ns0_0_ 22 (List.take (Try.prog.cellsOf 22) (List.drop 1 [_, _])) = xss0_0[1]? := hgs0_0 1 _ rfl
  obtain ⟨ys0_0_1, eys0_0_1⟩ : ∃ y, xss0_0[1]? = some y := ⟨_, List.getElem?_eq_getElem (by rw [hlens0_0]; decide)⟩
  rw [eys0_0_1] at gs0_0_1
  rw [cellsOf22] at gs0_0_1
  replace gs0_0_1 : DataW.trod enc Try.prog W _ _ _ ns0_0_ 22 [c0_1] = some ys0_0_1 := gs0_0_1
  obtain ⟨A0_1, n0_1, c0_1, z0_1, E0_1, w0_1⟩ : ∃ A n c zs, c0_1 = .slice A n c ∧ IsRow .i64 W A n c zs := by
    rcases open_ints Try.underlying22 Try.underlying3 (by kernel_rfl) gs0_0_1 with ⟨hcs, _⟩ | ⟨x, l, c, zs, hcs, _, hl, hm, hz, _, hcell, hwz⟩
    · exact ⟨none, 0, 0, [], by simpa using hcs, .inl ⟨rfl, rfl, rfl, rfl⟩⟩
    · exact ⟨some x, l, c, zs, by simpa using hcs, .inr ⟨_, rfl, hl, hm, by simpa using hz, hcell, hwz⟩⟩
  subst E0_1
  obtain ⟨l0_1, rfl, hr0_1, hm0_1, hw0_1, hc0_1⟩ := Go.Proofs.YtgkgnihjjabapaaW.PrintWords.ReadsInt.ofRowC w0_1
  have gs0_1 : DataW.trod enc Try.prog W _ _ _ ns0_ 26 (List.take (Try.prog.cellsOf 26) (List.drop 2 [_, _, _, _, _, _, _])) = xss0[1]? := hgs0 1 _ rfl
  obtain ⟨ys0_1, eys0_1⟩ : ∃ y, xss0[1]? = some y := ⟨_, List.getElem?_eq_getElem (by rw [hlens0]; decide)⟩
  rw [eys0_1] at gs0_1
  rw [cellsOf26] at gs0_1
  replace gs0_1 : DataW.trod enc Try.prog W _ _ _ ns0_ 26 [c0_2, c0_3, c0_4] = some ys0_1 := gs0_1
  obtain ⟨xss0_1, ns0_1_, _, _, _, hlens0_1, hgs0_1⟩ := DataW.trod_struct Try.underlying26 gs0_1
  have gs0_1_0 : DataW.trod enc Try.prog W _ _ _ ns0_1_ 22 (List.take (Try.prog.cellsOf 22) (List.drop 0 [_, _, _])) = xss0_1[0]? := hgs0_1 0 _ rfl
  obtain ⟨ys0_1_0, eys0_1_0⟩ : ∃ y, xss0_1[0]? = some y := ⟨_, List.getElem?_eq_getElem (by rw [hlens0_1]; decide)⟩
  rw [eys0_1_0] at gs0_1_0
  rw [cellsOf22] at gs0_1_0
  replace gs0_1_0 : DataW.trod enc Try.prog W _ _ _ ns0_1_ 22 [c0_2] = some ys0_1_0 := gs0_1_0
  obtain ⟨A0_2, n0_2, c0_2, z0_2, E0_2, w0_2⟩ : ∃ A n c zs, c0_2 = .slice A n c ∧ IsRow .i64 W A n c zs := by
    rcases open_ints Try.underlying22 Try.underlying3 (by kernel_rfl) gs0_1_0 with ⟨hcs, _⟩ | ⟨x, l, c, zs, hcs, _, hl, hm, hz, _, hcell, hwz⟩
    · exact ⟨none, 0, 0, [], by simpa using hcs, .inl ⟨rfl, rfl, rfl, rfl⟩⟩
    · exact ⟨some x, l, c, zs, by simpa using hcs, .inr ⟨_, rfl, hl, hm, by simpa using hz, hcell, hwz⟩⟩
  subst E0_2
  obtain ⟨l0_2, rfl, hr0_2, hm0_2, hw0_2, hc0_2⟩ := Go.Proofs.YtgkgnihjjabapaaW.PrintWords.ReadsInt.ofRowC w0_2
  have gs0_1_1 : DataW.trod enc Try.prog W _ _ _ ns0_1_ 22 (List.take (Try.prog.cellsOf 22) (List.drop 1 [_, _, _])) = xss0_1[1]? := hgs0_1 1 _ rfl
  obtain ⟨ys0_1_1, eys0_1_1⟩ : ∃ y, xss0_1[1]? = some y := ⟨_, List.getElem?_eq_getElem (by rw [hlens0_1]; decide)⟩
  rw [eys0_1_1] at gs0_1_1
  rw [cellsOf22] at gs0_1_1
  replace gs0_1_1 : DataW.trod enc Try.prog W _ _ _ ns0_1_ 22 [c0_3] = some ys0_1_1 := gs0_1_1
  obtain ⟨A0_3, n0_3, c0_3, z0_3, E0_3, w0_3⟩ : ∃ A n c zs, c0_3 = .slice A n c ∧ IsRow .i64 W A n c zs := by
    rcases open_ints Try.underlying22 Try.underlying3 (by kernel_rfl) gs0_1_1 with ⟨hcs, _⟩ | ⟨x, l, c, zs, hcs, _, hl, hm, hz, _, hcell, hwz⟩
    · exact ⟨none, 0, 0, [], by simpa using hcs, .inl ⟨rfl, rfl, rfl, rfl⟩⟩
    · exact ⟨some x, l, c, zs, by simpa using hcs, .inr ⟨_, rfl, hl, hm, by simpa using hz, hcell, hwz⟩⟩
  subst E0_3
  obtain ⟨l0_3, rfl, hr0_3, hm0_3, hw0_3, hc0_3⟩ := Go.Proofs.YtgkgnihjjabapaaW.PrintWords.ReadsInt.ofRowC w0_3
  have gs0_1_2 : DataW.trod enc Try.prog W _ _ _ ns0_1_ 3 (List.take (Try.prog.cellsOf 3) (List.drop 2 [_, _, _])) = xss0_1[2]? := hgs0_1 2 _ rfl
  obtain ⟨ys0_1_2, eys0_1_2⟩ : ∃ y, xss0_1[2]? = some y := ⟨_, List.getElem?_eq_getElem (by rw [hlens0_1]; decide)⟩
  rw [eys0_1_2] at gs0_1_2
  rw [cellsOf3] at gs0_1_2
  replace gs0_1_2 : DataW.trod enc Try.prog W _ _ _ ns0_1_ 3 [c0_4] = some ys0_1_2 := gs0_1_2
  obtain ⟨a0_4, e0_4, _, w0_4⟩ := DataW.trod_int Try.underlying3 gs0_1_2
  obtain rfl : c0_4 = .int .i64 a0_4 := by simpa using e0_4
  have gs0_2 : DataW.trod enc Try.prog W _ _ _ ns0_ 3 (List.take (Try.prog.cellsOf 3) (List.drop 5 [_, _, _, _, _, _, _])) = xss0[2]? := hgs0 2 _ rfl
  obtain ⟨ys0_2, eys0_2⟩ : ∃ y, xss0[2]? = some y := ⟨_, List.getElem?_eq_getElem (by rw [hlens0]; decide)⟩
  rw [eys0_2] at gs0_2
  rw [cellsOf3] at gs0_2
  replace gs0_2 : DataW.trod enc Try.prog W _ _ _ ns0_ 3 [c0_5] = some ys0_2 := gs0_2
  obtain ⟨a0_5, e0_5, _, w0_5⟩ := DataW.trod_int Try.underlying3 gs0_2
  obtain rfl : c0_5 = .int .i64 a0_5 := by simpa using e0_5
  have gs0_3 : DataW.trod enc Try.prog W _ _ _ ns0_ 27 (List.take (Try.prog.cellsOf 27) (List.drop 6 [_, _, _, _, _, _, _])) = xss0[3]? := hgs0 3 _ rfl
  obtain ⟨ys0_3, eys0_3⟩ : ∃ y, xss0[3]? = some y := ⟨_, List.getElem?_eq_getElem (by rw [hlens0]; decide)⟩
  rw [eys0_3] at gs0_3
  rw [cellsOf27] at gs0_3
  replace gs0_3 : DataW.trod enc Try.prog W _ _ _ ns0_ 27 [c0_6] = some ys0_3 := gs0_3
  obtain ⟨aq0_6, lq0_6, cq0_6, E0_6⟩ := Fc.cell_slice Try.underlying27 gs0_3
  subst E0_6
  obtain ⟨l0_6, hn0_6, hc0_6, hm0_6, hr0_6⟩ := Fc.read_ch gs0_3
  subst hn0_6
  clear hA0 hval0 hsz0
  obtain ⟨k, hk⟩ := Pure.WalkFollows l0_0 l0_1 l0_2 l0_3 a0_4 a0_5 l0_6 hm0_0 hw0_0 hm0_1 hw0_1 hm0_2 hw0_2 hm0_3 hw0_3 w0_4 w0_5 hm0_6
  refine (X.penumbralaw35_WalkFollows.calls k _ _ l0_0 _ _ l0_1 _ _ l0_2 _ _ l0_3 a0_4 a0_5 _ _ l0_6 true W (Go.Proofs.YtgkgnihjjabapaaW.PrintWords.Kd.C_of_reads (d := (0 : Int)) (h1 := fun _ => rfl) hr0_0) hc0_0 (Go.Proofs.YtgkgnihjjabapaaW.PrintWords.Kd.C_of_reads (d := (0 : Int)) (h1 := fun _ => rfl) hr0_1) hc0_1 (Go.Proofs.YtgkgnihjjabapaaW.PrintWords.Kd.C_of_reads (d := (0 : Int)) (h1 := fun _ => rfl) hr0_2) hc0_2 (Go.Proofs.YtgkgnihjjabapaaW.PrintWords.Kd.C_of_reads (d := (0 : Int)) (h1 := fun _ => rfl) hr0_3) hc0_3 hr0_6 hc0_6 hk rfl).mono fun e W' ⟨he, bel0⟩ => ?_
  have bel : Below W.heap.size W W' := bel0
  subst he
  exact ⟨_, rfl, _, _, _, [], _, [], hW', trodAll_mk1 (shut_bool Try.underlying4 _), (trodAll_cons_mk (Below.trod laidOut (by kernel_rfl) (of_decide_eq_true (by kernel_rfl)) k0 bel lt0) trodAll_mk0), rfl, bel.frame _, fun h => by cases h⟩
theorem over : Rows.walkFollowsRow.holds Try.pinned (OpenSpec.ofChange Rows.walkFollowsSpec) :=
  OpenClaim.holds_of_wide 3 Try.f3 rfl rfl rfl rfl rfl rfl rfl ⟨rfl, rfl, rfl, rfl, rfl⟩ rfl rfl rfl rfl rfl (by kernel_rfl) Try.func3 (by kernel_rfl)
    (of_decide_eq_true (by kernel_rfl)) (by unfold Func.isWrapper; first | (rw [if_pos (by decide +kernel)]; kernel_rfl) | (rw [if_neg (by decide +kernel)]; exact ⟨rfl, rfl⟩))
    (fun os started H enc _ => lifted os started H enc)
theorem proved : Rows.WalkFollowsSaid := over
#print axioms proved
end Go.Proofs.Ytgkgnihjjabapaa.walkFollows
namespace Go.Proofs.Ytgkgnihjjabapaa
/-- The row, under a short name, for the claim. -/
theorem walkFollows_holds : Rows.WalkFollowsSaid := walkFollows.proved
end Go.Proofs.Ytgkgnihjjabapaa
