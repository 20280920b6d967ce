/- Encoding and decoding rasters, by the code and by the document: plain. -/
import Derived.Test.YtmpbjmjphapnoaaMc
import Derived.Test.YtmpbjmjphapnoaaLb
import Derived.Test.YtmpbjmjphapnoaaXxL44awake
namespace Go.Proofs.Ytmpbjmjphapnoaa.Gv
open Go.RowKit Go.Proofs.Ytmpbjmjphapnoaa.X Go.Proofs.YtmpbjmjphapnoaaW.PrintWords Go.Proofs.YtmpbjmjphapnoaaW.PrintLast Go.Proofs.YtmpbjmjphapnoaaW.PrintMore Pe
set_option linter.unusedVariables false
theorem cutL_found (c : UInt8) : ∀ l : List UInt8, (cutL c l).2.2 = true → l = (cutL c l).1 ++ c :: (cutL c l).2.1 := by
  intro l
  induction l with
  | nil => intro h; cases h
  | cons b l ih =>
    rw [cutL]
    by_cases e : b = c
    · rw [if_pos e]
      intro _
      rw [e]
      rfl
    · rw [if_neg e]
      intro h
      have := ih h
      exact congrArg (b :: ·) this
theorem cutL_here (c : UInt8) : ∀ (a r : List UInt8), (∀ b ∈ a, b ≠ c) → cutL c (a ++ c :: r) = (a, r, true) := by
  intro a
  induction a with
  | nil => intro r _; rw [List.nil_append, cutL, if_pos rfl]
  | cons b a ih =>
    intro r h
    rw [List.cons_append, cutL, if_neg (h b (List.mem_cons_self ..)), ih r (fun b' hb' => h b' (List.mem_cons_of_mem _ hb'))]
theorem extract_B (l : List UInt8) (i j : Nat) : (B l).extract i j = B ((l.drop i).take (j - i)) := by
  apply ByteArray.ext
  simp [B, ByteArray.data_extract, List.extract_eq_take_drop]
/-- the document's search -/
theorem rnext_go (l : List UInt8) (hl : l.length ≤ 100000) (at_ : Nat) (c : UInt8) : ∀ (m i : Nat), i + m = l.length → at_ ≤ i →
    Ev (fun k => penumbraref44_Next.l0 k (B l) (at_ : Int) (c.toNat : Int) (i : Int)) (if (cutL c (l.drop i)).2.2 = true then ((B l).extract at_ (i + (cutL c (l.drop i)).1.length), ((i + (cutL c (l.drop i)).1.length + 1 : Nat) : Int)) else (B [], -1)) := by
  have hz : (B l).size = l.length := B_size l
  intro m
  induction m with
  | zero =>
    intro i hi h
    rw [List.drop_eq_nil_of_le (by omega), if_neg (by rw [cutL]; decide)]
    show Ev (fun k => penumbraref44_Next.l0 k (B l) (at_ : Int) (c.toNat : Int) (i : Int)) ((⟨#[]⟩ : ByteArray), (-1 : Int))
    exact Ev.step (fun k => by rw [penumbraref44_Next.l0]) (ev_neg (by omega) (Ev.now _))
  | succ m ih =>
    intro i hi h
    have hlt : i < l.length := by omega
    rw [List.drop_eq_getElem_cons hlt]
    refine Ev.step (fun k => by rw [penumbraref44_Next.l0]) (ev_pos (by omega) (ev_pos (by omega) ?_))
    have hb := bt_get (B l) i (by rw [B_data]; exact hlt)
    simp only [B_data] at hb
    rw [hb, cutL]
    generalize l[i] = b at *
    by_cases e : b = c
    · rw [if_pos e, if_pos rfl, e]
      refine ev_pos rfl (ev_pos (by omega) (ev_pos (by omega) (ev_pos (by omega) ?_)))
      rw [Int.toNat_natCast, Int.toNat_natCast, wrap_id (by omega) (by omega)]
      exact Ev.now _
    · rw [if_neg e]
      refine ev_neg (fun q => e (UInt8.toNat_inj.mp (by omega))) ?_
      have e2 : wrap64 ((i : Int) + 1) = ((i + 1 : Nat) : Int) := by rw [wrap_id (by omega) (by omega)]; omega
      rw [e2]
      have h2 := ih (i + 1) (by omega) (by omega)
      simp only [List.length_cons]
      rw [show i + ((cutL c (l.drop (i + 1))).1.length + 1) = i + 1 + (cutL c (l.drop (i + 1))).1.length by omega]
      exact h2
theorem rnext_ev (l : List UInt8) (hl : l.length ≤ 100000) (at_ : Nat) (hat : at_ ≤ l.length) (c : UInt8) :
    Ev (fun k => penumbraref44_Next.f k (B l) (at_ : Int) (c.toNat : Int)) (if (cutL c (l.drop at_)).2.2 = true then (B (cutL c (l.drop at_)).1, ((at_ + (cutL c (l.drop at_)).1.length + 1 : Nat) : Int)) else (B [], -1)) := by
  have h := rnext_go l hl at_ c (l.length - at_) at_ (by omega) (Nat.le_refl _)
  unfold penumbraref44_Next.f
  by_cases hc : (cutL c (l.drop at_)).2.2 = true
  · rw [if_pos hc] at h ⊢
    have e := cutL_found c _ hc
    rw [extract_B, show at_ + (cutL c (l.drop at_)).1.length - at_ = (cutL c (l.drop at_)).1.length by omega] at h
    have e2 : (l.drop at_).take (cutL c (l.drop at_)).1.length = (cutL c (l.drop at_)).1 := by
      generalize cutL c (l.drop at_) = x at *
      rw [e, List.take_left']
      rfl
    rw [e2] at h
    exact h
  · rw [if_neg hc] at h ⊢
    exact h
theorem drop_found (l : List UInt8) (at_ : Nat) (c : UInt8) (h : (cutL c (l.drop at_)).2.2 = true) :
    l.drop (at_ + (cutL c (l.drop at_)).1.length + 1) = (cutL c (l.drop at_)).2.1 ∧ at_ + (cutL c (l.drop at_)).1.length + 1 ≤ l.length ∨ l.length ≤ at_ := by
  by_cases ha : l.length ≤ at_
  · exact .inr ha
  · refine .inl ?_
    have e := cutL_found c _ h
    have e1 : (l.drop at_).drop ((cutL c (l.drop at_)).1.length + 1) = (cutL c (l.drop at_)).2.1 := by
      generalize cutL c (l.drop at_) = x at *
      rw [e, ← List.drop_drop, List.drop_left' rfl]
      rfl
    rw [List.drop_drop] at e1
    refine ⟨e1, ?_⟩
    have h2 := congrArg List.length e
    simp only [List.length_drop, List.length_append, List.length_cons] at h2
    omega
theorem nb_str (l : List UInt8) : strOfNums (nb l) = B l := by
  unfold strOfNums nb B
  have e : ((fun n : Int => UInt8.ofNat n.toNat) ∘ fun b : UInt8 => (b.toNat : Int)) = id := by
    funext b
    simp
  rw [List.map_map, e, List.map_id]
theorem str_nil : strOfNums [] = B [] := rfl
theorem found_le (l : List UInt8) (at_ : Nat) (hat : at_ ≤ l.length) (c : UInt8) (h : (cutL c (l.drop at_)).2.2 = true) :
    l.drop (at_ + (cutL c (l.drop at_)).1.length + 1) = (cutL c (l.drop at_)).2.1 ∧ at_ + (cutL c (l.drop at_)).1.length + 1 ≤ l.length := by
  rcases drop_found l at_ c h with h2 | h2
  · exact h2
  · rw [List.drop_eq_nil_of_le h2] at h
    cases h
theorem numL_255 : numL [50, 53, 53] = (255, true) := by decide
/-- decoding, by the document -/
theorem rdec_ev (l : List UInt8) (hl : l.length ≤ 100000) : Ev (fun k => penumbraref44_Decode.f k (B l)) ((decL l).1, (decL l).2.1, strOfNums (decL l).2.2.1, (decL l).2.2.2) := by
  have hz : (B l).size = l.length := B_size l
  unfold penumbraref44_Decode.f decL
  by_cases c0 : l.length < 3
  · rw [if_pos c0]
    exact ev_pos (by omega) (Ev.now _)
  rw [if_neg c0]
  refine ev_neg (by omega) (ev_pos (by omega) (ev_pos (by omega) ?_))
  rw [extract_B, B_toList, List.drop_zero, show (3 : Nat) - 0 = 3 from rfl]
  by_cases c1 : l.take 3 = [80, 54, 10]
  rotate_left
  · rw [if_pos c1]
    exact ev_neg c1 (Ev.now _)
  rw [if_neg (not_not_intro c1)]
  refine ev_pos c1 ?_
  have n1 := rnext_ev l hl 3 (by omega) 32
  rw [show ((3 : Nat) : Int) = 3 from rfl, show (((32 : UInt8).toNat : Nat) : Int) = 32 from rfl] at n1
  by_cases i1 : (cutL 32 (l.drop 3)).2.2 = true
  rotate_left
  · rw [if_neg i1] at n1
    rw [if_pos (fun h => i1 h.1)]
    exact Ev.bind n1 (ev_pos (by decide) (Ev.now _))
  rw [if_pos i1] at n1
  obtain ⟨d1, g1⟩ := found_le l 3 (by omega) 32 i1
  refine Ev.bind n1 (ev_neg (by show ¬ ((_ : Nat) : Int) < 0; omega) ?_)
  generalize 3 + (cutL 32 (l.drop 3)).1.length + 1 = p1 at *
  have n2 := rnext_ev l hl p1 g1 10
  rw [d1, show (((10 : UInt8).toNat : Nat) : Int) = 10 from rfl] at n2
  have z1 : (cutL 32 (l.drop 3)).1.length ≤ 100000 := Nat.le_trans (cutL_size 32 _).1 (by rw [List.length_drop]; omega)
  have rn1 := rnum_ev (B (cutL 32 (l.drop 3)).1) (by rw [B_size]; exact z1)
  rw [B_data] at rn1
  generalize cutL 32 (l.drop 3) = x1 at *
  obtain ⟨a1, r1, j1⟩ := x1
  simp only [] at *
  have hr1 : r1.length ≤ 100000 := by rw [← d1, List.length_drop]; omega
  by_cases i2 : (cutL 10 r1).2.2 = true
  rotate_left
  · rw [if_neg i2] at n2
    rw [if_pos (fun h => i2 h.2.1)]
    exact Ev.bind n2 (ev_pos (by decide) (Ev.now _))
  rw [if_pos i2] at n2
  obtain ⟨d2, g2⟩ := found_le l p1 g1 10 (by rw [d1]; exact i2)
  rw [d1] at d2 g2
  refine Ev.bind n2 (ev_neg (by show ¬ ((_ : Nat) : Int) < 0; omega) ?_)
  generalize p1 + (cutL 10 r1).1.length + 1 = p2 at *
  have n3 := rnext_ev l hl p2 g2 10
  rw [d2, show (((10 : UInt8).toNat : Nat) : Int) = 10 from rfl] at n3
  have z2 : (cutL 10 r1).1.length ≤ 100000 := Nat.le_trans (cutL_size 10 _).1 hr1
  have rn2 := rnum_ev (B (cutL 10 r1).1) (by rw [B_size]; exact z2)
  rw [B_data] at rn2
  generalize cutL 10 r1 = x2 at *
  obtain ⟨a2, r2, j2⟩ := x2
  simp only [] at *
  have hr2 : r2.length ≤ 100000 := by rw [← d2, List.length_drop]; omega
  by_cases i3 : (cutL 10 r2).2.2 = true
  rotate_left
  · rw [if_neg i3] at n3
    rw [if_pos (fun h => i3 h.2.2)]
    exact Ev.bind n3 (ev_pos (by decide) (Ev.now _))
  rw [if_pos i3] at n3
  obtain ⟨d3, g3⟩ := found_le l p2 g2 10 (by rw [d2]; exact i3)
  rw [d2] at d3 g3
  refine Ev.bind n3 (ev_neg (by show ¬ ((_ : Nat) : Int) < 0; omega) ?_)
  rw [if_neg (not_not_intro ⟨i1, i2, i3⟩)]
  generalize p2 + (cutL 10 r2).1.length + 1 = p3 at *
  generalize cutL 10 r2 = x3 at *
  obtain ⟨a3, r3, j3⟩ := x3
  simp only [] at *
  have hr3 : r3.length = l.length - p3 := by rw [← d3, List.length_drop]
  refine Ev.bind rn1 (Ev.bind rn2 ?_)
  simp only [B_toList]
  have q1 := numL_lt a1
  have q2 := numL_lt a2
  have k3 : ((numL a3).2 = true ∧ dg (numL a3).1 = [50, 53, 53]) ↔ a3 = [50, 53, 53] := by
    constructor
    · rintro ⟨h1, h2⟩
      rw [← (numL_val a3 h1).2, h2]
    · rintro rfl
      rw [numL_255]
      exact ⟨rfl, by decide⟩
  generalize numL a1 = y1 at *
  generalize numL a2 = y2 at *
  generalize numL a3 = y3 at *
  obtain ⟨v1, b1⟩ := y1
  obtain ⟨v2, b2⟩ := y2
  obtain ⟨v3, b3⟩ := y3
  simp only [] at *
  have hT : ∀ x y : Int, Ev (fun k => penumbraref44_Decode.j0 k (B l) (p3 : Int) x y true) (0, 0, (⟨#[]⟩ : ByteArray), 6) := fun x y => Ev.step (fun k => by rw [penumbraref44_Decode.j0]) (ev_pos rfl (Ev.now _))
  by_cases t1 : b1 = true
  rotate_left
  · rw [if_neg t1, if_pos (fun h => t1 h.1)]
    exact ev_pos (by decide) (hT _ _)
  rw [if_pos t1]
  refine ev_neg (by omega) ?_
  by_cases t2 : b2 = true
  rotate_left
  · rw [if_neg t2, if_pos (fun h => t2 h.2.1)]
    exact ev_pos (by decide) (hT _ _)
  rw [if_pos t2]
  refine ev_neg (by omega) ?_
  by_cases t3 : a3 = [50, 53, 53]
  rotate_left
  · rw [show (a3 != [50, 53, 53]) = true from bne_iff_ne.mpr t3]
    by_cases t4 : b3 = true
    · rw [if_neg (not_not_intro ⟨t1, t2, t4⟩), if_pos (fun h => t3 (k3.mp ⟨t4, h⟩))]
      exact hT _ _
    · rw [if_pos (fun h => t4 h.2.2)]
      exact hT _ _
  obtain ⟨t4, t5⟩ := k3.mpr t3
  rw [show (a3 != [50, 53, 53]) = false from bne_eq_false_iff_eq.mpr t3, if_neg (not_not_intro ⟨t1, t2, t4⟩), if_neg (not_not_intro t5)]
  refine Ev.step (fun k => by rw [penumbraref44_Decode.j0]) (ev_neg (by decide) ?_)
  have hR : Ev (fun k => penumbraref44_Decode.j1 k (B l) (p3 : Int) (v1 : Int) (v2 : Int) true) (0, 0, (⟨#[]⟩ : ByteArray), 3) := Ev.step (fun k => by rw [penumbraref44_Decode.j1]) (ev_pos rfl (Ev.now _))
  unfold chk
  by_cases u0 : (v1 : Int) < 1 ∨ (v2 : Int) < 1 ∨ 8192 < (v1 : Int) ∨ 8192 < (v2 : Int)
  · rw [if_pos u0, if_pos (by decide)]
    by_cases w1 : (v1 : Int) < 1
    · exact ev_pos w1 hR
    refine ev_neg w1 ?_
    by_cases w2 : (v2 : Int) < 1
    · exact ev_pos w2 hR
    refine ev_neg w2 ?_
    by_cases w3 : (8192 : Int) < v1
    · exact ev_pos w3 hR
    refine ev_neg w3 ?_
    exact ev_pos (by omega) hR
  rw [if_neg u0]
  refine ev_neg (by omega) (ev_neg (by omega) (ev_neg (by omega) (ev_neg (by omega) ?_)))
  obtain ⟨m1, m2⟩ := mul_range (a := (v1 : Int)) (b := (v2 : Int)) (by omega) (by omega) (by omega) (by omega)
  rw [wrap_id (n := (v1 : Int) * (v2 : Int)) (by omega) (by omega)]
  by_cases u1 : 65536 < (v1 : Int) * (v2 : Int)
  · rw [if_pos u1, if_pos (by decide), show decide ((v1 : Int) * (v2 : Int) > 65536) = true from decide_eq_true u1]
    exact hR
  rw [if_neg u1, if_pos rfl, if_neg (by decide), show decide ((v1 : Int) * (v2 : Int) > 65536) = false from decide_eq_false u1]
  refine Ev.step (fun k => by rw [penumbraref44_Decode.j1]) (ev_neg (by decide) ?_)
  have e3 : 3 * (v1 : Int) * (v2 : Int) = ((3 * v1 * v2 : Nat) : Int) := by rw [Int.natCast_mul, Int.natCast_mul]; rfl
  have e4 : 3 * (v1 : Int) * (v2 : Int) = 3 * ((v1 : Int) * (v2 : Int)) := Int.mul_assoc _ _ _
  rw [wrap_id (n := 3 * (v1 : Int)) (by omega) (by omega), wrap_id (n := 3 * (v1 : Int) * (v2 : Int)) (by omega) (by omega), wrap_id (by omega) (by omega), e3]
  generalize 3 * v1 * v2 = n at *
  by_cases u2 : r3.length < n
  · rw [if_pos u2]
    exact ev_pos (by omega) (Ev.now _)
  rw [if_neg u2]
  refine ev_neg (by omega) ?_
  by_cases u3 : n < r3.length
  · rw [if_pos u3]
    exact ev_pos (by omega) (Ev.now _)
  rw [if_neg u3]
  refine ev_neg (by omega) (ev_pos (by omega) (ev_pos (by omega) ?_))
  rw [Int.toNat_natCast, extract_B, hz, List.take_of_length_le (by rw [List.length_drop]; omega), d3]
  simp only [nb_str]
  exact Ev.now _
end Go.Proofs.Ytmpbjmjphapnoaa.Gv
