/- A slice of choices that came in, read as a list. -/
import Derived.Test.YtgkgnihjjabapaaProg
import Derived.OpenShut
import Derived.ShutString
import Derived.ChangeOld
import Derived.Laws.Cover2
import Derived.Test.YtgkgnihjjabapaaWMore
import Derived.Test.YtgkgnihjjabapaaXx0
namespace Go.Proofs.Ytgkgnihjjabapaa.Fc
open Go.RowKit Go.ChangeShapes Go.WideShapes Go.Proofs.Ytgkgnihjjabapaa.X Go.Proofs.YtgkgnihjjabapaaW.PrintWords
section
variable {H : Type} {enc : TypeId × Value → H} {w : World} {base : Nat} {spare : Nat → Bool} {held : Bool}
theorem cell_slice {P : Program} {t e : TypeId} {fuel : Nat} {v : Value} {x : DataW H × List MemPlace} (ht : P.underlying t = some (.slice e)) (h : DataW.trod enc P w base spare held fuel t [v] = some x) : ∃ A n c, v = .slice A n c := by
  rcases DataW.trod_slice ht h with ⟨h0, _⟩ | ⟨a, len, cap, elems, rest, m, _, e1, _⟩
  · injection h0 with h0 _
    exact ⟨_, _, _, h0⟩
  · injection e1 with e1 _
    exact ⟨_, _, _, e1⟩
theorem one_ch {fuel : Nat} {cs : List Value} {x : DataW H × List MemPlace} (hl : cs.length = 3) (h : DataW.trod enc Try.prog w base spare held fuel 50 cs = some x) : ∃ z : S50, cs = [.int .i64 z.f0, .int .i64 z.f1, .bool z.f2] := by
  obtain ⟨c0, c1, c2, rfl⟩ : ∃ a b c, cs = [a, b, c] := by match cs, hl with | [a, b, c], _ => exact ⟨a, b, c, rfl⟩
  obtain ⟨xs, n, _, _, _, hlen, hg⟩ := DataW.trod_struct Try.underlying50 h
  have k3 : Try.prog.cellsOf 3 = 1 := by kernel_rfl
  have k4 : Try.prog.cellsOf 4 = 1 := by kernel_rfl
  have g0 : DataW.trod enc Try.prog w _ _ _ n 3 (List.take (Try.prog.cellsOf 3) (List.drop 0 [c0, c1, c2])) = xs[0]? := hg 0 _ rfl
  have g1 : DataW.trod enc Try.prog w _ _ _ n 3 (List.take (Try.prog.cellsOf 3) (List.drop 1 [c0, c1, c2])) = xs[1]? := hg 1 _ rfl
  have g2 : DataW.trod enc Try.prog w _ _ _ n 4 (List.take (Try.prog.cellsOf 4) (List.drop 2 [c0, c1, c2])) = xs[2]? := hg 2 _ rfl
  obtain ⟨y0, e0⟩ : ∃ y, xs[0]? = some y := ⟨_, List.getElem?_eq_getElem (by rw [hlen]; decide)⟩
  obtain ⟨y1, e1⟩ : ∃ y, xs[1]? = some y := ⟨_, List.getElem?_eq_getElem (by rw [hlen]; decide)⟩
  obtain ⟨y2, e2⟩ : ∃ y, xs[2]? = some y := ⟨_, List.getElem?_eq_getElem (by rw [hlen]; decide)⟩
  rw [e0, k3] at g0
  rw [e1, k3] at g1
  rw [e2, k4] at g2
  obtain ⟨a0, q0, -⟩ := DataW.trod_int Try.underlying3 g0
  obtain ⟨a1, q1, -⟩ := DataW.trod_int Try.underlying3 g1
  obtain ⟨a2, q2, -⟩ := DataW.trod_bool Try.underlying4 g2
  obtain rfl : c0 = .int .i64 a0 := by simpa using q0
  obtain rfl : c1 = .int .i64 a1 := by simpa using q1
  obtain rfl : c2 = .bool a2 := by simpa using q2
  exact ⟨⟨a0, a1, a2⟩, rfl⟩
theorem read_ch {fuel : Nat} {A : Option Addr} {n c : Nat} {x : DataW H × List MemPlace} (h : DataW.trod enc Try.prog w base spare held fuel 27 [.slice A n c] = some x) :
    ∃ zs : List S50, zs.length = n ∧ n ≤ c ∧ n ≤ maxLen ∧ Kd.C k50 w A n zs := by
  have ht := Try.underlying27
  have hc : Try.prog.cellsOf 50 = 3 := by kernel_rfl
  rcases DataW.trod_slice ht h with ⟨h0, _⟩ | ⟨a, len, cap, elems, rest, m, _, e1, _, _, hl, hm, hlen, hel, _, _⟩
  · injection h0 with h0 _
    injection h0 with h1 h2 h3
    subst h1 h2 h3
    exact ⟨[], rfl, Nat.le_refl _, Nat.zero_le _, rfl, Nat.zero_le _, fun hp => absurd hp (by omega)⟩
  · injection e1 with e1 _
    injection e1 with h1 h2 h3
    subst h1 h2 h3
    have each : ∀ i, i < n → ∃ z : S50, ∀ j u, ([.int .i64 z.f0, .int .i64 z.f1, .bool z.f2] : List Value)[j]? = some u → w.cell? (a.add (i * 3 + j)) = some u := by
      intro i hi
      have h1 := hel i hi
      rw [List.getElem?_eq_getElem (by omega), Option.bind_eq_some_iff] at h1
      obtain ⟨cs, hcs, h2⟩ := h1
      rw [hc] at hcs
      obtain ⟨-, hl3, hcell⟩ := World.cells?_some hcs
      obtain ⟨z, rfl⟩ := one_ch hl3 h2
      refine ⟨z, fun j u hu => ?_⟩
      have hj : j < 3 := (List.getElem?_eq_some_iff.1 hu).1
      have h3 := hcell j hj
      rw [hu] at h3
      have e : (a.add (i * 3)).add j = a.add (i * 3 + j) := Addr.add_add _ _ _
      rw [← e]
      exact h3
    have F : ∀ m, m ≤ n → ∃ zs : List S50, zs.length = m ∧ ∀ i p, zs[i]? = some p → ∀ j u, ([.int .i64 p.f0, .int .i64 p.f1, .bool p.f2] : List Value)[j]? = some u → w.cell? (a.add (i * 3 + j)) = some u := by
      intro m
      induction m with
      | zero => intro _; exact ⟨[], rfl, fun i p hp => by simp at hp⟩
      | succ m ih =>
        intro hm'
        obtain ⟨zs, hz, h1⟩ := ih (by omega)
        obtain ⟨z, hb⟩ := each m (by omega)
        refine ⟨zs ++ [z], by simp [hz], fun i p hp => ?_⟩
        by_cases c : i < m
        · rw [List.getElem?_append_left (by omega)] at hp
          exact h1 i p hp
        · have hi : i = m := by
            have := (List.getElem?_eq_some_iff.1 hp).1
            rw [List.length_append, List.length_singleton] at this
            omega
          subst hi
          rw [List.getElem?_append_right (by omega), hz, Nat.sub_self] at hp
          injection hp with hp
          subst hp
          exact hb
    obtain ⟨zs, hz, h1⟩ := F n (Nat.le_refl n)
    refine ⟨zs, hz, hl, by omega, hz, by unfold maxLen at hm; omega, fun _ => ⟨a, rfl, fun j p hp => ⟨[.int .i64 p.f0, .int .i64 p.f1, .bool p.f2], rfl, k50_mk w p, h1 j p hp⟩⟩⟩
end
end Go.Proofs.Ytgkgnihjjabapaa.Fc
