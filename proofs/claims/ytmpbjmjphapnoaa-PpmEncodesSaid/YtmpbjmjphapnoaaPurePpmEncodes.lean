/- Any raster's bytes: the plain law. -/
import Derived.Test.YtmpbjmjphapnoaaXxL44PpmEncodes
import Derived.Test.YtmpbjmjphapnoaaMe
namespace Go.Proofs.Ytmpbjmjphapnoaa.Pure
open Go.RowKit Go.Proofs.Ytmpbjmjphapnoaa.X Go.Proofs.YtmpbjmjphapnoaaW.PrintWords Go.Proofs.YtmpbjmjphapnoaaW.PrintLast Pe Gv
theorem chk_size {a b n : Int} (h12 : chk a b n ≠ 12) (h4 : chk a b n ≠ 4) : chk a b 0 = 14 ∧ 1 ≤ a ∧ 1 ≤ b ∧ a ≤ 8192 ∧ b ≤ 8192 ∧ a * b ≤ 65536 := by
  unfold chk at *
  split at h12
  · exact absurd rfl h12
  · rename_i c
    rw [if_neg c] at h4 ⊢
    split at h4
    · exact absurd rfl h4
    · rename_i c2
      rw [if_neg c2]
      obtain ⟨m1, m2⟩ := mul_range (a := a) (b := b) (by omega) (by omega) (by omega) (by omega)
      have e3 : 3 * a * b = 3 * (a * b) := Int.mul_assoc _ _ _
      exact ⟨if_neg (by omega), by omega, by omega, by omega, by omega, by omega⟩
theorem chk_bad {a b n : Int} (h : chk a b n = 12 ∨ chk a b n = 4) : chk a b 0 ≠ 14 := by
  unfold chk at *
  split at h
  · rename_i c
    rw [if_pos c]
    decide
  · rename_i c
    rw [if_neg c]
    split at h
    · rename_i c2
      rw [if_pos c2]
      decide
    · split at h <;> omega
theorem byt_nb_str (l : List Int) : (strOfNums (nb (byt l))).toList = (strOfNums l).toList := by rw [nb_str, str_byt]
theorem PpmEncodes : penumbralaw44_PpmEncodes.Pure := by
  intro a b l2 _ _ _ _ _
  refine Ev.rounds ?_
  unfold penumbralaw44_PpmEncodes.f
  by_cases c : (l2.length : Int) > 1000
  · exact ev_pos c (Ev.bind awake_ev (Ev.now _))
  refine ev_neg c ?_
  refine Ev.bind (enc_ev a b l2 (by omega)) ?_
  refine Ev.bind (rchk_ev a b l2) ?_
  -- the second part
  have hj1 : ∀ sz : Int, szF a b = sz → Ev (fun k => penumbralaw44_PpmEncodes.j1 k a b l2 (if chk a b l2.length = 0 then (B (encL a.toNat b.toNat (byt l2)), (0 : Int)) else (B [], chk a b l2.length)).1 (if chk a b l2.length = 0 then (B (encL a.toNat b.toNat (byt l2)), (0 : Int)) else (B [], chk a b l2.length)).2 (chk a b l2.length) sz) true := by
    intro sz hsz
    refine Ev.step (fun k => by rw [penumbralaw44_PpmEncodes.j1]) ?_
    refine Ev.bind (size_ev a b) (ev_pos hsz ?_)
    by_cases c0 : chk a b l2.length = 0
    · rw [if_pos c0]
      refine ev_pos c0 ?_
      have hc : 1 ≤ a ∧ 1 ≤ b ∧ a ≤ 8192 ∧ b ≤ 8192 ∧ (l2.length : Int) = 3 * a * b := by
        have c0' := c0
        unfold chk at c0'
        split at c0'
        · omega
        · split at c0'
          · omega
          · split at c0'
            · refine ⟨by omega, by omega, by omega, by omega, by assumption⟩
            · omega
      obtain ⟨w, rfl⟩ : ∃ w : Nat, a = w := ⟨a.toNat, by omega⟩
      obtain ⟨h, rfl⟩ : ∃ h : Nat, b = h := ⟨b.toNat, by omega⟩
      simp only [Int.toNat_natCast]
      have hlen : (byt l2).length = 3 * w * h := by
        have e : ((3 * w * h : Nat) : Int) = 3 * (w : Int) * h := by rw [Int.natCast_mul, Int.natCast_mul]; rfl
        simp only [byt, List.length_map]
        omega
      have hd := dec_enc w h (byt l2) (by rw [← hc.2.2.2.2]; exact c0) hlen
      have hsz2 : (B (encL w h (byt l2))).size ≤ 100000 := by
        have l1 := dg_len 5 w (by omega)
        have l2' := dg_len 5 h (by omega)
        have lb : (byt l2).length = l2.length := by simp [byt]
        rw [B_size]
        simp only [encL, List.length_append, List.length_cons, List.length_nil]
        omega
      unfold ppm_Decode.f
      rw [if_pos hsz2]
      refine ev_some ?_
      unfold decF
      rw [B_data, hd]
      refine Ev.bind awake_ev (ev_pos rfl (Ev.bind (renc_ev w h (by omega) (by omega) l2 (by omega)) (ev_pos (by first | rfl | trivial) (ev_pos (by first | rfl | trivial) (ev_pos (by first | rfl | trivial) (ev_pos (by first | rfl | trivial) (ev_pos (byt_nb_str l2) ?_)))))))
      exact Ev.now _
    · rw [if_neg c0]
      refine ev_neg c0 (Ev.bind awake_ev (ev_pos rfl (ev_pos (B_toList []) ?_)))
      rw [beq_self_eq_true]
      exact Ev.now _
  have hf : ∀ z : Int, szF a b = 0 → Ev (fun k => penumbralaw44_PpmEncodes.j0 k a b l2 (if chk a b l2.length = 0 then (B (encL a.toNat b.toNat (byt l2)), (0 : Int)) else (B [], chk a b l2.length)).1 (if chk a b l2.length = 0 then (B (encL a.toNat b.toNat (byt l2)), (0 : Int)) else (B [], chk a b l2.length)).2 (chk a b l2.length) 0 false) true := fun _ h =>
    Ev.step (fun k => by rw [penumbralaw44_PpmEncodes.j0]) (ev_neg (by decide) (hj1 0 h))
  by_cases c12 : chk a b l2.length = 12
  · exact ev_pos c12 (hf 0 (if_neg (chk_bad (.inl c12))))
  refine ev_neg c12 ?_
  by_cases c4 : chk a b l2.length = 4
  · rw [show (chk a b l2.length != 4) = false from bne_eq_false_iff_eq.mpr c4]
    exact hf 0 (if_neg (chk_bad (.inr c4)))
  rw [show (chk a b l2.length != 4) = true from bne_iff_ne.mpr c4]
  obtain ⟨g0, g1, g2, g3, g4, g5⟩ := chk_size c12 c4
  refine Ev.step (fun k => by rw [penumbralaw44_PpmEncodes.j0]) (ev_pos rfl ?_)
  have hr := renc_ev a.toNat b.toNat (by omega) (by omega) [] (by decide)
  rw [Int.toNat_of_nonneg (by omega), Int.toNat_of_nonneg (by omega)] at hr
  refine Ev.bind hr (hj1 _ ?_)
  obtain ⟨m1, m2⟩ := mul_range g1 g3 g2 g4
  have e3 : 3 * a * b = 3 * (a * b) := Int.mul_assoc _ _ _
  have l1 := dg_len 5 a.toNat (by omega)
  have l2' := dg_len 5 b.toNat (by omega)
  have le : (encL a.toNat b.toNat []).length = 3 + (dg a.toNat).length + (dg b.toNat).length + 6 := by simp [encL]; omega
  unfold szF
  rw [if_pos g0, B_size, wrap_id (n := 3 * a) (by omega) (by omega), wrap_id (n := 3 * a * b) (by omega) (by omega)]
  show ((encL a.toNat b.toNat []).length : Int) + 3 * a * b = wrap64 (((encL a.toNat b.toNat []).length : Int) + 3 * a * b)
  rw [wrap_id (by omega) (by omega)]
end Go.Proofs.Ytmpbjmjphapnoaa.Pure
