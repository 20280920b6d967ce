/- A slice of pairs of floats that came in, read as a list. -/
import Derived.Test.YtkmdbidjdppdnaaFl
import Derived.Test.YtkmdbidjdppdnaaQd
namespace Go.Proofs.Ytkmdbidjdppdnaa.Fl
open Go.RowKit Go.ChangeShapes Go.WideShapes Go.Proofs.YtkmdbidjdppdnaaW.PrintWords
section
variable {H : Type} {enc : TypeId × Value → H} {w : World} {base : Nat} {spare : Nat → Bool} {held : Bool}
theorem one_pr {fuel : Nat} {cs : List Value} {x : DataW H × List MemPlace} (hl : cs.length = 2) (h : DataW.trod enc Try.prog w base spare held fuel 29 cs = some x) : ∃ z : Nat × Nat, cs = [.float .f64 z.1, .float .f64 z.2] := by
  obtain ⟨c0, c1, rfl⟩ : ∃ a b, cs = [a, b] := by match cs, hl with | [a, b], _ => exact ⟨a, b, rfl⟩
  obtain ⟨xs, n, _, _, _, hlen, hg⟩ := DataW.trod_array Try.underlying29 h
  have k3 : Try.prog.cellsOf 28 = 1 := by kernel_rfl
  have g0 := hg 0 (by decide)
  have g1 := hg 1 (by decide)
  rw [k3] at g0 g1
  obtain ⟨y0, e0⟩ : ∃ y, xs[0]? = some y := ⟨_, List.getElem?_eq_getElem (by rw [hlen]; decide)⟩
  obtain ⟨y1, e1⟩ : ∃ y, xs[1]? = some y := ⟨_, List.getElem?_eq_getElem (by rw [hlen]; decide)⟩
  rw [e0] at g0
  rw [e1] at g1
  obtain ⟨a0, q0, -⟩ := trod_float Try.underlying28 g0
  obtain ⟨a1, q1, -⟩ := trod_float Try.underlying28 g1
  obtain rfl : c0 = .float .f64 a0 := by simpa using q0
  obtain rfl : c1 = .float .f64 a1 := by simpa using q1
  exact ⟨⟨a0, a1⟩, rfl⟩
theorem read_pairs {fuel : Nat} {A : Option Addr} {n c : Nat} {x : DataW H × List MemPlace} (h : DataW.trod enc Try.prog w base spare held fuel 24 [.slice A n c] = some x) :
    ∃ zs : List (Nat × Nat), zs.length = n ∧ n ≤ c ∧ n ≤ maxLen ∧ Gv.PK.C w A n zs := by
  have ht := Try.underlying24
  have hc : Try.prog.cellsOf 29 = 2 := by kernel_rfl
  rcases DataW.trod_slice ht h with ⟨h0, _⟩ | ⟨a, len, cap, elems, rest, m, _, e1, _, _, hl, hm, hlen, hel, _, _⟩
  · injection h0 with h0 _
    injection h0 with h1 h2 h3
    subst h1 h2 h3
    exact ⟨[], rfl, Nat.le_refl _, Nat.zero_le _, rfl, Nat.zero_le _, fun hp => absurd hp (by omega)⟩
  · injection e1 with e1 _
    injection e1 with h1 h2 h3
    subst h1 h2 h3
    have each : ∀ i, i < n → ∃ z : Nat × Nat, ∀ j u, ([.float .f64 z.1, .float .f64 z.2] : List Value)[j]? = some u → w.cell? (a.add (i * 2 + j)) = some u := by
      intro i hi
      have h1 := hel i hi
      rw [List.getElem?_eq_getElem (by omega), Option.bind_eq_some_iff] at h1
      obtain ⟨cs, hcs, h2⟩ := h1
      rw [hc] at hcs
      obtain ⟨-, hl3, hcell⟩ := World.cells?_some hcs
      obtain ⟨z, rfl⟩ := one_pr hl3 h2
      refine ⟨z, fun j u hu => ?_⟩
      have hj : j < 2 := (List.getElem?_eq_some_iff.1 hu).1
      have h3 := hcell j hj
      rw [hu] at h3
      have e : (a.add (i * 2)).add j = a.add (i * 2 + j) := Addr.add_add _ _ _
      rw [← e]
      exact h3
    have F : ∀ m, m ≤ n → ∃ zs : List (Nat × Nat), zs.length = m ∧ ∀ i p, zs[i]? = some p → ∀ j u, ([.float .f64 p.1, .float .f64 p.2] : List Value)[j]? = some u → w.cell? (a.add (i * 2 + j)) = some u := by
      intro m
      induction m with
      | zero => intro _; exact ⟨[], rfl, fun i p hp => by simp at hp⟩
      | succ m ih =>
        intro hm'
        obtain ⟨zs, hz, h1⟩ := ih (by omega)
        obtain ⟨z, hb⟩ := each m (by omega)
        refine ⟨zs ++ [z], by simp [hz], fun i p hp => ?_⟩
        by_cases c : i < m
        · rw [List.getElem?_append_left (by omega)] at hp
          exact h1 i p hp
        · have hi : i = m := by
            have := (List.getElem?_eq_some_iff.1 hp).1
            rw [List.length_append, List.length_singleton] at this
            omega
          subst hi
          rw [List.getElem?_append_right (by omega), hz, Nat.sub_self] at hp
          injection hp with hp
          subst hp
          exact hb
    obtain ⟨zs, hz, h1⟩ := F n (Nat.le_refl n)
    refine ⟨zs, hz, hl, by omega, hz, by unfold maxLen at hm; omega, fun _ => ⟨a, rfl, fun j p hp => ⟨[.float .f64 p.1, .float .f64 p.2], rfl, ⟨[_], [_], rfl, rfl, rfl⟩, h1 j p hp⟩⟩⟩
end
end Go.Proofs.Ytkmdbidjdppdnaa.Fl
