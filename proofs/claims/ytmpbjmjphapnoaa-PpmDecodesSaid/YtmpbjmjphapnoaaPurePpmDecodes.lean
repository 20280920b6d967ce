/- The raster of any bytes: the plain law. -/
import Derived.Test.YtmpbjmjphapnoaaXxL44PpmDecodes
import Derived.Test.YtmpbjmjphapnoaaMe
namespace Go.Proofs.Ytmpbjmjphapnoaa.Pure
open Go.RowKit Go.Proofs.Ytmpbjmjphapnoaa.X Go.Proofs.YtmpbjmjphapnoaaW.PrintWords Go.Proofs.YtmpbjmjphapnoaaW.PrintLast Pe Gv
theorem nb_byt (r : List UInt8) : byt (nb r) = r := by
  have h := congrArg (fun s => s.data.toList) (nb_str r)
  simp only [B_data, str_byt] at h
  exact h
theorem PpmDecodes : penumbralaw44_PpmDecodes.Pure := by
  intro s _
  refine Ev.rounds ?_
  unfold penumbralaw44_PpmDecodes.f
  by_cases c : (s.size : Int) > 3000
  · exact ev_pos c (Ev.bind awake_ev (Ev.now _))
  refine ev_neg c ?_
  have hs : s.size ≤ 100000 := by omega
  unfold ppm_Decode.f
  rw [if_pos hs]
  refine ev_some ?_
  obtain ⟨l, rfl⟩ : ∃ l, s = B l := ⟨_, (of_B s).symm⟩
  have hl : l.length ≤ 3000 := by rw [B_size] at c; omega
  refine Ev.bind (rdec_ev l (by omega)) ?_
  unfold decF
  rw [B_data]
  rcases dec_cases l with ⟨e, he, h⟩ | ⟨w, h', r, h, hl', hw, hh⟩
  · rw [h]
    refine ev_neg he (Ev.bind awake_ev (ev_pos rfl (ev_pos rfl (ev_pos rfl (ev_pos rfl ?_)))))
    rw [show ((e : Int) == e) = true from beq_self_eq_true e]
    exact Ev.now _
  · rw [h]
    refine ev_pos rfl (Ev.bind awake_ev (ev_pos rfl (ev_pos rfl (ev_pos rfl (ev_pos rfl (ev_pos rfl ?_))))))
    have hrl : (nb r).length ≤ 1000000 := by
      have h1 := congrArg List.length hl'
      simp only [encL, List.length_append, List.length_cons] at h1
      simp only [nb, List.length_map]
      omega
    refine Ev.bind (renc_ev w h' hw hh (nb r) hrl) ?_
    rw [nb_byt, ← hl', beq_self_eq_true]
    exact Ev.now _
end Go.Proofs.Ytmpbjmjphapnoaa.Pure
