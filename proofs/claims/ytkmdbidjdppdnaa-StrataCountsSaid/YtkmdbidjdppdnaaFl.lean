/- A slice of floats that came in, read as a list of bits. -/
import Derived.Test.YtkmdbidjdppdnaaProg
import Derived.OpenShut
import Derived.ShutString
import Derived.ChangeOld
import Derived.Laws.Cover2
import Derived.Test.YtkmdbidjdppdnaaWMore
namespace Go.Proofs.Ytkmdbidjdppdnaa.Fl
open Go.RowKit Go.ChangeShapes Go.WideShapes Go.Proofs.YtkmdbidjdppdnaaW.PrintWords
section
variable {H : Type} {enc : TypeId × Value → H} {P : Program} {w : World} {base : Nat} {spare : Nat → Bool} {held : Bool}
theorem trod_float {t : TypeId} {k : FloatKind} {fuel : Nat} {cs : List Value} {x : DataW H × List MemPlace} (ht : P.underlying t = some (.float k)) (h : DataW.trod enc P w base spare held fuel t cs = some x) : ∃ b, cs = [.float k b] ∧ (Lit.float k b).wf = true := by
  cases fuel with
  | zero => simp [DataW.trod] at h
  | succ n =>
    unfold DataW.trod at h
    rw [ht] at h
    split at h <;> simp_all
theorem cell_slice {t e : TypeId} {fuel : Nat} {v : Value} {x : DataW H × List MemPlace} (ht : P.underlying t = some (.slice e)) (h : DataW.trod enc P w base spare held fuel t [v] = some x) : ∃ A n c, v = .slice A n c := by
  rcases DataW.trod_slice ht h with ⟨h0, _⟩ | ⟨a, len, cap, elems, rest, m, _, e1, _⟩
  · injection h0 with h0 _
    exact ⟨_, _, _, h0⟩
  · injection e1 with e1 _
    exact ⟨_, _, _, e1⟩
theorem read_floats {t e : TypeId} {fuel : Nat} {A : Option Addr} {n c : Nat} {x : DataW H × List MemPlace} (ht : P.underlying t = some (.slice e)) (he : P.underlying e = some (.float .f64)) (hc : P.cellsOf e = 1)
    (h : DataW.trod enc P w base spare held fuel t [.slice A n c] = some x) :
    ∃ zs : List Nat, zs.length = n ∧ n ≤ c ∧ n ≤ maxLen ∧ (0 < n → ∃ ad, A = some ad ∧ ∀ j, j < n → w.cell? (ad.add j) = some (.float .f64 (zs.getD j 0))) ∧ ∀ z ∈ zs, (Lit.float .f64 z).wf = true := by
  rcases DataW.trod_slice ht h with ⟨h0, _⟩ | ⟨a, len, cap, elems, rest, m, _, e1, _, _, hl, hm, hlen, hel, _, _⟩
  · injection h0 with h0 _
    injection h0 with h1 h2 h3
    subst h1 h2 h3
    exact ⟨[], rfl, Nat.le_refl _, Nat.zero_le _, fun hp => absurd hp (by omega), fun z hz => by cases hz⟩
  · injection e1 with e1 _
    injection e1 with h1 h2 h3
    subst h1 h2 h3
    have each : ∀ i, i < n → ∃ b, w.cell? (a.add i) = some (.float .f64 b) ∧ (Lit.float .f64 b).wf = true := by
      intro i hi
      have h1 := hel i hi
      rw [List.getElem?_eq_getElem (by omega), Option.bind_eq_some_iff] at h1
      obtain ⟨cs, hcs, h2⟩ := h1
      rw [hc, Nat.mul_one] at hcs
      obtain ⟨b, rfl, hw⟩ := trod_float he h2
      exact ⟨b, Go.ChangeShapes.cell_of_cells?_one hcs, hw⟩
    have F : ∀ m, m ≤ n → ∃ zs : List Nat, zs.length = m ∧ (∀ j, j < m → w.cell? (a.add j) = some (.float .f64 (zs.getD j 0))) ∧ ∀ z ∈ zs, (Lit.float .f64 z).wf = true := by
      intro m
      induction m with
      | zero => intro _; exact ⟨[], rfl, fun j hj => absurd hj (by omega), fun z hz => by cases hz⟩
      | succ m ih =>
        intro hm'
        obtain ⟨zs, hz, h1, h2⟩ := ih (by omega)
        obtain ⟨b, hb, hw⟩ := each m (by omega)
        refine ⟨zs ++ [b], by simp [hz], fun j hj => ?_, fun z hzz => ?_⟩
        · by_cases c : j < m
          · rw [h1 j c, List.getD_eq_getElem?_getD, List.getD_eq_getElem?_getD, List.getElem?_append_left (by omega)]
          · obtain rfl : j = m := by omega
            rw [hb, List.getD_eq_getElem?_getD, List.getElem?_append_right (by omega), hz, Nat.sub_self]; rfl
        · rcases List.mem_append.1 hzz with h | h
          · exact h2 z h
          · obtain rfl := List.mem_singleton.1 h; exact hw
    obtain ⟨zs, hz, h1, h2⟩ := F n (Nat.le_refl n)
    exact ⟨zs, hz, hl, Nat.le_trans hl hm, fun _ => ⟨a, rfl, h1⟩, h2⟩
end
end Go.Proofs.Ytkmdbidjdppdnaa.Fl
