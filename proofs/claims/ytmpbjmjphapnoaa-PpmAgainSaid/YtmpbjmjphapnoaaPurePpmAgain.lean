/- Turned often enough nothing changes: the plain law. -/
import Derived.Test.YtmpbjmjphapnoaaXxL44PpmAgain
import Derived.Test.YtmpbjmjphapnoaaMf
namespace Go.Proofs.Ytmpbjmjphapnoaa.Pure
open Go.RowKit Go.Proofs.Ytmpbjmjphapnoaa.X Go.Proofs.YtmpbjmjphapnoaaW.PrintWords Go.Proofs.YtmpbjmjphapnoaaW.PrintLast Pe Gv
theorem flip_ok {W H : Nat} {l : List Int} (c : chk (W : Int) (H : Int) (l.length : Int) = 0) : ppm_Flip.f (W : Int) (H : Int) l = some (frTo l W (fun x y => y * W + (W - 1 - x)) l.length, 0) := by
  unfold ppm_Flip.f flipF
  rw [if_pos c, Int.toNat_natCast]
theorem turn_ok {W H : Nat} {l : List Int} (c : chk (W : Int) (H : Int) (l.length : Int) = 0) : ppm_Turn.f (W : Int) (H : Int) l = some (frTo l H (fun x y => (H - 1 - x) * W + y) l.length, 0) := by
  unfold ppm_Turn.f turnF
  rw [if_pos c, Int.toNat_natCast, Int.toNat_natCast]
theorem PpmAgain : penumbralaw44_PpmAgain.Pure := by
  intro a b l _ _ _ _ _
  refine Ev.rounds ?_
  unfold penumbralaw44_PpmAgain.f
  have hT : Ev (fun k => penumbralaw44_PpmAgain.j0 k a b l true) true := Ev.step (fun k => by rw [penumbralaw44_PpmAgain.j0]) (ev_pos rfl (Ev.bind awake_ev (Ev.now _)))
  by_cases c : (l.length : Int) > 600
  · exact ev_pos c hT
  refine ev_neg c (Ev.bind (rchk_ev a b l) ?_)
  by_cases c0 : chk a b l.length = 0
  rotate_left
  · rw [show (chk a b l.length != 0) = true from bne_iff_ne.mpr c0]
    exact hT
  rw [show (chk a b l.length != 0) = false from bne_eq_false_iff_eq.mpr c0]
  refine Ev.step (fun k => by rw [penumbralaw44_PpmAgain.j0]) (ev_neg (by decide) ?_)
  obtain ⟨W, H, rfl, rfl, h1, h2, h3, h4, hlen⟩ := chk_nat c0
  have hc := fun m hm => (chk_of c0 m hm).1
  have hc' := fun m hm => (chk_of c0 m hm).2
  rw [flip_ok c0]
  refine ev_some ?_
  simp only []
  rw [flip_ok (hc _ (frTo_length _ _ _ _))]
  refine ev_some ?_
  rw [turn_ok c0]
  refine ev_some ?_
  simp only []
  rw [turn_ok (hc' _ (frTo_length _ _ _ _))]
  refine ev_some ?_
  simp only [frTo_length]
  rw [turn_turn l W H hlen]
  have z2 : (frTo l W (fun x y => (H - 1 - y) * W + (W - 1 - x)) l.length).length = l.length := frTo_length _ _ _ _
  generalize hm : frTo l W (fun x y => (H - 1 - y) * W + (W - 1 - x)) l.length = m at *
  rw [turn_ok (hc _ z2)]
  refine ev_some ?_
  simp only []
  rw [turn_ok (hc' _ ((frTo_length _ _ _ _).trans z2))]
  refine ev_some ?_
  simp only [frTo_length]
  rw [turn_turn m W H (z2.trans hlen), z2, ← hm, half_half l W H hlen, flip_flip l W H hlen]
  exact Ev.bind awake_ev (ev_pos rfl (ev_pos rfl (ev_pos (by first | rfl | trivial) (ev_pos rfl (Ev.now _)))))
end Go.Proofs.Ytmpbjmjphapnoaa.Pure
