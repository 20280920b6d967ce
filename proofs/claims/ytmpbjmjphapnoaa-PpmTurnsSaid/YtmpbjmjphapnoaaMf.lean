/- Rasters turned about, turned, and made grey: plain. -/
import Derived.Test.YtmpbjmjphapnoaaMe
import Derived.Test.YtmpbjmjphapnoaaLc
namespace Go.Proofs.Ytmpbjmjphapnoaa.Gv
open Go.RowKit Go.Proofs.Ytmpbjmjphapnoaa.X Go.Proofs.YtmpbjmjphapnoaaW.PrintWords Go.Proofs.YtmpbjmjphapnoaaW.PrintLast Go.Proofs.YtmpbjmjphapnoaaW.PrintMore Pe
set_option linter.unusedVariables false
theorem frTo_get (b : List Int) (W : Nat) (F : Nat → Nat → Nat) (m k : Nat) (h : k < m) : (frTo b W F m).getD k 0 = b.getD (3 * F (k / 3 % W) (k / 3 / W) + k % 3) 0 := by
  simp [frTo, List.getD_eq_getElem?_getD, h]
theorem list_ext {xs ys : List Int} (hl : xs.length = ys.length) (h : ∀ k, k < xs.length → xs.getD k 0 = ys.getD k 0) : xs = ys := by
  apply List.ext_getElem hl
  intro i h1 h2
  have := h i h1
  simpa [List.getD_eq_getElem?_getD, h1, h2] using this
/-- x and y of pixel p -/
theorem px_facts {p W H : Nat} (hp : p < H * W) : p % W < W ∧ p / W < H ∧ p / W * W + p % W = p := by
  have hW : 0 < W := by
    rcases Nat.eq_zero_or_pos W with h | h
    · rw [h, Nat.mul_zero] at hp
      omega
    · exact h
  refine ⟨Nat.mod_lt _ hW, Nat.div_lt_of_lt_mul (by rw [Nat.mul_comm]; exact hp), ?_⟩
  have := Nat.div_add_mod p W
  rw [Nat.mul_comm] at this
  exact this
theorem at_mod {x y W : Nat} (hx : x < W) : (y * W + x) % W = x := by rw [Nat.add_comm, Nat.add_mul_mod_self_right, Nat.mod_eq_of_lt hx]
theorem at_div {x y W : Nat} (hx : x < W) : (y * W + x) / W = y := by rw [Nat.add_comm, Nat.add_mul_div_right _ _ (by omega), Nat.div_eq_of_lt hx, Nat.zero_add]
theorem at_lt {x y W H : Nat} (hx : x < W) (hy : y < H) : y * W + x < H * W := by
  have h := Nat.mul_le_mul_right W (show y + 1 ≤ H from hy)
  rw [Nat.add_mul, Nat.one_mul] at h
  omega
theorem comp_get (b : List Int) (W1 W2 : Nat) (F1 F2 : Nat → Nat → Nat) (m k : Nat) (hk : k < m) (h2 : 3 * F2 (k / 3 % W2) (k / 3 / W2) + k % 3 < m) :
    (frTo (frTo b W1 F1 m) W2 F2 m).getD k 0 = b.getD (3 * F1 (F2 (k / 3 % W2) (k / 3 / W2) % W1) (F2 (k / 3 % W2) (k / 3 / W2) / W1) + k % 3) 0 := by
  rw [frTo_get _ _ _ _ _ hk, frTo_get _ _ _ _ _ h2]
  have e1 : (3 * F2 (k / 3 % W2) (k / 3 / W2) + k % 3) / 3 = F2 (k / 3 % W2) (k / 3 / W2) := by omega
  have e2 : (3 * F2 (k / 3 % W2) (k / 3 / W2) + k % 3) % 3 = k % 3 := by omega
  rw [e1, e2]
theorem back_lt {x n : Nat} (h : x < n) : n - 1 - x < n := by omega
theorem back_back {x n : Nat} (h : x < n) : n - 1 - (n - 1 - x) = x := by omega
theorem flip_flip (b : List Int) (W H : Nat) (hb : b.length = 3 * (H * W)) :
    frTo (frTo b W (fun x y => y * W + (W - 1 - x)) b.length) W (fun x y => y * W + (W - 1 - x)) b.length = b := by
  refine list_ext (by rw [frTo_length]) (fun k hk => ?_)
  rw [frTo_length] at hk
  have hp : k / 3 < H * W := by omega
  obtain ⟨g1, g2, g3⟩ := px_facts hp
  have hx : W - 1 - k / 3 % W < W := by omega
  have hlt := at_lt hx g2
  rw [comp_get _ _ _ _ _ _ _ hk (by show 3 * (k / 3 / W * W + (W - 1 - k / 3 % W)) + k % 3 < b.length; omega)]
  show b.getD (3 * ((k / 3 / W * W + (W - 1 - k / 3 % W)) / W * W + (W - 1 - (k / 3 / W * W + (W - 1 - k / 3 % W)) % W)) + k % 3) 0 = b.getD k 0
  rw [at_mod hx, at_div hx, show W - 1 - (W - 1 - k / 3 % W) = k / 3 % W by omega, g3, show 3 * (k / 3) + k % 3 = k by omega]
/-- turned twice: from the other end -/
theorem turn_turn (b : List Int) (W H : Nat) (hb : b.length = 3 * (H * W)) :
    frTo (frTo b H (fun x y => (H - 1 - x) * W + y) b.length) W (fun x y => (W - 1 - x) * H + y) b.length = frTo b W (fun x y => (H - 1 - y) * W + (W - 1 - x)) b.length := by
  refine list_ext (by rw [frTo_length, frTo_length]) (fun k hk => ?_)
  rw [frTo_length] at hk
  have hp : k / 3 < H * W := by omega
  obtain ⟨g1, g2, g3⟩ := px_facts hp
  have hlt : (W - 1 - k / 3 % W) * H + k / 3 / W < W * H := at_lt g2 (by omega)
  rw [Nat.mul_comm W H] at hlt
  rw [comp_get _ _ _ _ _ _ _ hk (by show 3 * ((W - 1 - k / 3 % W) * H + k / 3 / W) + k % 3 < b.length; omega), frTo_get _ _ _ _ _ hk]
  show b.getD (3 * ((H - 1 - ((W - 1 - k / 3 % W) * H + k / 3 / W) % H) * W + ((W - 1 - k / 3 % W) * H + k / 3 / W) / H) + k % 3) 0 = _
  rw [at_mod g2, at_div g2]
theorem half_half (b : List Int) (W H : Nat) (hb : b.length = 3 * (H * W)) :
    frTo (frTo b W (fun x y => (H - 1 - y) * W + (W - 1 - x)) b.length) W (fun x y => (H - 1 - y) * W + (W - 1 - x)) b.length = b := by
  refine list_ext (by rw [frTo_length]) (fun k hk => ?_)
  rw [frTo_length] at hk
  have hp : k / 3 < H * W := by omega
  obtain ⟨g1, g2, g3⟩ := px_facts hp
  have hx : W - 1 - k / 3 % W < W := back_lt g1
  have hlt := at_lt (y := H - 1 - k / 3 / W) (H := H) hx (back_lt g2)
  rw [comp_get _ _ _ _ _ _ _ hk (by show 3 * ((H - 1 - k / 3 / W) * W + (W - 1 - k / 3 % W)) + k % 3 < b.length; generalize (H - 1 - k / 3 / W) * W + (W - 1 - k / 3 % W) = q at *; clear g1 g2 g3 hx; omega)]
  show b.getD (3 * ((H - 1 - ((H - 1 - k / 3 / W) * W + (W - 1 - k / 3 % W)) / W) * W + (W - 1 - ((H - 1 - k / 3 / W) * W + (W - 1 - k / 3 % W)) % W)) + k % 3) 0 = b.getD k 0
  rw [at_mod hx, at_div hx, back_back g1, back_back g2, g3, show 3 * (k / 3) + k % 3 = k by omega]
/-- what fits, in plain numbers -/
theorem chk_nat {a b : Int} {l : List Int} (c : chk a b l.length = 0) : ∃ W H : Nat, a = W ∧ b = H ∧ 1 ≤ W ∧ 1 ≤ H ∧ W ≤ 8192 ∧ H ≤ 8192 ∧ l.length = 3 * (H * W) := by
  obtain ⟨g1, g2, g3, g4, g5, g6⟩ := chk_zero c
  obtain ⟨W, rfl⟩ : ∃ W : Nat, a = W := ⟨a.toNat, by omega⟩
  obtain ⟨H, rfl⟩ : ∃ H : Nat, b = H := ⟨b.toNat, by omega⟩
  refine ⟨W, H, rfl, rfl, by omega, by omega, by omega, by omega, ?_⟩
  have e : ((3 * (H * W) : Nat) : Int) = 3 * (W : Int) * H := by rw [Nat.mul_comm H W, Int.natCast_mul, Int.natCast_mul]; exact (Int.mul_assoc _ _ _).symm
  omega
theorem chk_of {W H n : Nat} (c : chk (W : Int) (H : Int) (n : Int) = 0) (m : Nat) (hm : m = n) : chk (W : Int) (H : Int) (m : Int) = 0 ∧ chk (H : Int) (W : Int) (m : Int) = 0 := by
  subst hm
  refine ⟨c, ?_⟩
  obtain ⟨g1, g2, g3, g4, g5, g6⟩ := chk_zero c
  have e : 3 * (H : Int) * W = 3 * (W : Int) * H := by rw [Int.mul_assoc, Int.mul_comm (H : Int), ← Int.mul_assoc]
  have e2 : (H : Int) * W = W * H := Int.mul_comm _ _
  unfold chk
  rw [if_neg (by omega), if_neg (by omega), if_pos (by omega)]
/-- three numbers' mean -/
def gr (b : List Int) (k : Nat) : Int := (b.getD (3 * (k / 3)) 0 + b.getD (3 * (k / 3) + 1) 0 + b.getD (3 * (k / 3) + 2) 0) / 3
def grTo (b : List Int) (m : Nat) : List Int := (List.range m).map (gr b)
theorem grTo_length (b : List Int) (m : Nat) : (grTo b m).length = m := by simp [grTo]
theorem grTo_get (b : List Int) (m k : Nat) (h : k < m) : (grTo b m).getD k 0 = gr b k := by simp [grTo, List.getD_eq_getElem?_getD, h]
theorem grTo_three (b : List Int) (p : Nat) : grTo b (3 * (p + 1)) = grTo b (3 * p) ++ [gr b (3 * p), gr b (3 * p), gr b (3 * p)] := by
  have e3 : 3 * (p + 1) = 3 * p + 1 + 1 + 1 := by omega
  rw [e3]
  unfold grTo
  rw [List.range_succ, List.range_succ, List.range_succ]
  simp only [List.map_append, List.map_cons, List.map_nil, List.append_assoc, List.cons_append, List.nil_append]
  have d1 : (3 * p + 1) / 3 = p := by omega
  have d2 : (3 * p + 1 + 1) / 3 = p := by omega
  have d0 : 3 * p / 3 = p := by omega
  unfold gr
  rw [d0, d1, d2]
theorem byte_range {l : List Int} (h : ∀ x ∈ l, (Lit.int .u8 x).wf = true) (k : Nat) : 0 ≤ l.getD k 0 ∧ l.getD k 0 ≤ 255 := by
  by_cases hk : k < l.length
  · have hm : l.getD k 0 ∈ l := by
      rw [List.getD_eq_getElem?_getD, List.getElem?_eq_getElem hk]
      exact List.getElem_mem hk
    have h2 := h _ hm
    have h3 : IntKind.u8.min ≤ l.getD k 0 ∧ l.getD k 0 ≤ IntKind.u8.max := by simpa [Lit.wf] using h2
    exact h3
  · rw [List.getD_eq_getElem?_getD, List.getElem?_eq_none (by omega)]
    decide
theorem gray_go (b : List Int) (hl : b.length ≤ 100000) (n : Nat) (hn : b.length = 3 * n) (hr : ∀ k, 0 ≤ b.getD k 0 ∧ b.getD k 0 ≤ 255) : ∀ (m p : Nat), p + m = n →
    Ev (fun k => ppm_Gray.l0 k b (grTo b (3 * p)) ((3 * p : Nat) : Int)) (grTo b (3 * n), 0) := by
  intro m
  induction m with
  | zero =>
    intro p hp
    obtain rfl : p = n := by omega
    exact Ev.step (fun k => by rw [ppm_Gray.l0]) (ev_neg (by omega) (Ev.now _))
  | succ m ih =>
    intro p hp
    have w1 : wrap64 (((3 * p : Nat) : Int) + 1) = ((3 * p + 1 : Nat) : Int) := by rw [wrap_id (by omega) (by omega)]; omega
    have w2 : wrap64 (((3 * p : Nat) : Int) + 2) = ((3 * p + 2 : Nat) : Int) := by rw [wrap_id (by omega) (by omega)]; omega
    have w3 : wrap64 (((3 * p : Nat) : Int) + 3) = ((3 * (p + 1) : Nat) : Int) := by rw [wrap_id (by omega) (by omega)]; omega
    have r0 := hr (3 * p)
    have r1 := hr (3 * p + 1)
    have r2 := hr (3 * p + 2)
    have x0 : rd b ((3 * p : Nat) : Int) = b.getD (3 * p) 0 := by rw [rd, Int.toNat_natCast]
    have x1 : rd b ((3 * p + 1 : Nat) : Int) = b.getD (3 * p + 1) 0 := by rw [rd, Int.toNat_natCast]
    have x2 : rd b ((3 * p + 2 : Nat) : Int) = b.getD (3 * p + 2) 0 := by rw [rd, Int.toNat_natCast]
    have hg : gr b (3 * p) = (b.getD (3 * p) 0 + b.getD (3 * p + 1) 0 + b.getD (3 * p + 2) 0) / 3 := by unfold gr; rw [show 3 * (3 * p / 3) = 3 * p by omega]
    refine Ev.step (fun k => by rw [ppm_Gray.l0]) ?_
    rw [w1, w2, w3, x0, x1, x2]
    refine ev_pos (by omega) (ev_pos (by omega) (ev_pos (by omega) (ev_pos (by omega) (ev_pos (by omega) (ev_pos (by omega) ?_)))))
    have hv : wrap64 (Int.tdiv (wrap64 (wrap64 (wrap64 (b.getD (3 * p) 0) + wrap64 (b.getD (3 * p + 1) 0)) + wrap64 (b.getD (3 * p + 2) 0))) 3) % 256 = gr b (3 * p) := by
      rw [hg]
      generalize b.getD (3 * p) 0 = u0 at *
      generalize b.getD (3 * p + 1) 0 = u1 at *
      generalize b.getD (3 * p + 2) 0 = u2 at *
      rw [wrap_id (n := u0) (by omega) (by omega), wrap_id (n := u1) (by omega) (by omega), wrap_id (n := u2) (by omega) (by omega), wrap_id (n := u0 + u1) (by omega) (by omega), wrap_id (n := u0 + u1 + u2) (by omega) (by omega), Int.tdiv_eq_ediv_of_nonneg (by omega), wrap_id (by omega) (by omega)]
      omega
    rw [hv]
    refine ev_some (ev_pos ?_ ?_)
    · rw [grTo_length]
      simp only [List.length_cons, List.length_nil]
      omega
    · rw [← grTo_three]
      exact ih (p + 1) (by omega)
theorem gray_ev (a b : Int) (l : List Int) (hl : l.length ≤ 100000) (hr : ∀ k, 0 ≤ l.getD k 0 ∧ l.getD k 0 ≤ 255) : Ev (fun k => ppm_Gray.f k a b l) (if chk a b l.length = 0 then (grTo l l.length, 0) else ([], chk a b l.length)) := by
  unfold ppm_Gray.f
  refine Ev.bind (chk_ev a b l.length) ?_
  by_cases c : chk a b l.length = 0
  · rw [if_pos c]
    obtain ⟨W, H, rfl, rfl, h1, h2, h3, h4, hlen⟩ := chk_nat c
    have h := gray_go l hl (H * W) hlen hr (H * W) 0 (by omega)
    rw [← hlen] at h
    exact ev_pos c h
  · rw [if_neg c]
    exact ev_neg c (Ev.now _)
end Go.Proofs.Ytmpbjmjphapnoaa.Gv
