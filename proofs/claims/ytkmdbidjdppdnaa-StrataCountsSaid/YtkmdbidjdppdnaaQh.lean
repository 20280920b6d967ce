/- Four draws laid by the generator of awake: the walk of Latin. -/
import Derived.Test.YtkmdbidjdppdnaaQg
namespace Go.Proofs.Ytkmdbidjdppdnaa.Gv
open Go.RowKit Go.Proofs.Ytkmdbidjdppdnaa.X Go.Proofs.YtkmdbidjdppdnaaW.PrintWords Go.Proofs.YtkmdbidjdppdnaaW.PrintLast Go.Proofs.YtkmdbidjdppdnaaW.PrintMore
set_option linter.unusedVariables false
set_option linter.unusedSimpArgs false
theorem laid_far (n : Nat) (w : World) :
    Calls Try.prog 21 #[.int .i64 (n : Int)] w fun e w' => ∃ pp pn : Addr, e = .returned (.func (.func 31) #[] #[.pointer (some pp)]) ∧ w'.cell? pp = some (.func (.func 30) #[] #[.pointer (some pn)]) ∧ w'.cell? pn = some (.int .i64 (n : Int)) ∧ Below w.heap.size w w' ∧ w.heap.size ≤ pp.block ∧ w.heap.size ≤ pn.block := by
  go_enter Try.func21, Try.ntmps21
  go_wp2
  go_ret
  refine ⟨⟨w.heap.size + 1, 0, none⟩, ⟨w.heap.size, 0, none⟩, rfl, ?_, ?_, ?_, Nat.le_succ _, Nat.le_refl _⟩
  · have h := blk_new (w.alloc (.cells #[.int .i64 (n : Int)] 3)) (.cells #[.func (.func 30) #[] #[.pointer (some ⟨w.heap.size, 0, none⟩)]] 52)
    rw [World.size_alloc] at h
    exact (blk_cell h 0).trans rfl
  · exact (blk_cell (blk_alloc (blk_new w (.cells #[.int .i64 (n : Int)] 3)) _) 0).trans rfl
  · exact (Below.alloc (Below.refl _ _) (Nat.le_refl _) _).alloc (by simp) _
def P4 (k : Nat) : Nat := ([1, 2, 0, 3] : List Nat).getD k 0
theorem P4_row : ∀ k, k < 4 → ([1, 2, 0, 3] : List Int).getD k 0 = (P4 k : Int) := by decide
theorem P4_lt : ∀ k, k < 4 → P4 k < 65 := by decide
def latL (m : Nat) : List (Nat × Nat) := (List.range m).map (fun k => (layW 4 k 0, layW 4 (P4 k) 0))
theorem latL_length (m : Nat) : (latL m).length = m := by simp [latL]
theorem latL_succ (m : Nat) : latL (m + 1) = latL m ++ [(layW 4 m 0, layW 4 (P4 m) 0)] := by simp [latL, List.range_succ]
theorem at_nil (j : Nat) (w : World) : Calls Try.prog 22 #[.slice none 0 0, .int .i64 (j : Int)] w fun e w' => e = .returned (.float .f64 0) ∧ w = w' := by
  have h : FK.C w none ([] : List Nat).length [] := Kd.C_of_reads (d := (0 : Nat)) ⟨rfl, Nat.zero_le _, fun h => absurd h (by decide)⟩
  have e : atF [] (j : Int) = 0 := by
    unfold atF
    rw [if_neg]
    rintro ⟨_, h2⟩
    simp at h2
    omega
  have hc := at_any none 0 [] j w h (by decide)
  rw [e] at hc
  exact hc
theorem cell_grown {W W1 : World} {a : Addr} {v : Value} {g : Nat} (hg : W.grownBy W1 (some g)) (h : W.cell? a = some v) (hne : a.block ≠ g) : W1.cell? a = some v := by
  rw [hg.cell_far _ (World.block_lt_of_cell? W a h) (by intro e; injection e with e; exact hne e)]
  exact h
set_option maxHeartbeats 8000000 in
theorem latin4 (g : Nat) (w : World) (hG : Gn w 55 g (sst 42 54) (cst 54)) :
    Calls Try.prog 11 #[.int .i64 4, .slice none 0 0, .pointer (some ⟨g, 0, none⟩)] w fun e w' => ∃ v, e = .returned (.tuple #[v, .int .i64 0]) ∧ PK.R 29 w' w.heap.size (fun _ => True) v (latL 4) ∧ w.grownBy w' (some g) := by
  have HG := Aside0.mk hG
  have HLt := Aside0.mk hG.lt
  clear hG
  go_enter Try.func11, Try.ntmps11
  go_wp2_with (first
    | (go_at_call 21; refine (show Calls _ _ _ _ _ from laid_far 4 _).mono ?_; rintro e w1 ⟨pp, pn, rfl, hp, hn, hb1, hpb, hnb⟩; have HP := Aside0.mk hp; have HN := Aside0.mk hn; have HB1 := Aside0.mk hb1; have HPb := Aside0.mk hpb; have HNb := Aside0.mk hnb; have HG1 := Aside0.mk (HG.out.below hb1); clear hp hn hb1 hpb hnb)
    | (go_at_call 13; refine (shuffle4 g _ HG1.out).mono ?_; rintro e w2 ⟨v, rfl, hR, hg2⟩; have HR := Aside0.mk hR; have HG2 := Aside0.mk hg2; obtain ⟨Av, cv, rfl⟩ : ∃ (Av : Option Addr) (cv : Nat), v = Value.slice Av 4 cv := Kd.R_slice hR; clear hR hg2))
  have HP2 := Aside0.mk (cell_grown HG2.out HP.out (by have := HPb.out; have := HLt.out; omega))
  have HN2 := Aside0.mk (cell_grown HG2.out HN.out (by have := HNb.out; have := HLt.out; omega))
  have HC := Aside0.mk (Kd.R_reads' HR.out).2.2
  have HLY := Aside0.mk (fun (W : World) (hW : Below w2.heap.size w2 W) (i : Nat) (hi : i < 65) => lay_any 4 i 0 0 (by decide) (by decide) hi cln_zero pp pn W (pw_cell_below hW HP2.out) (pw_cell_below hW HN2.out))
  go_loopw [8, 24] (fun v k' wr => ∃ k : Nat, k ≤ 4 ∧ .int .i64 (k : Int) = k' ∧ Aside0 (PK.R 29 wr w2.heap.size (fun _ => True) v (latL k)) ∧ Aside0 (Below w2.heap.size w2 wr)) (fun _ k' _ => 4 - (intOf k').toNat)
  case atStart => exact ⟨0, Nat.zero_le _, rfl, ⟨Kd.R_nil _ _ _ _ _⟩, ⟨Below.refl _ _⟩⟩
  case round =>
    obtain ⟨k, hk, rfl, ho, hb⟩ := hrel
    by_cases hlt : k < 4
    · have m2 : IntKind.i64.wrap (2 * (k : Int) + 1) = 2 * (k : Int) + 1 := IntWalk.i64_in _ (by omega)
      have m1 : IntKind.i64.wrap (2 * (k : Int)) = 2 * (k : Int) := IntWalk.i64_in _ (by omega)
      have hA1 : ∀ W, Calls Try.prog 22 #[.slice none 0 0, .int .i64 (2 * (k : Int))] W fun e w' => e = .returned (.float .f64 0) ∧ W = w' := fun W => at_nil (2 * k) W
      have hA2 : ∀ W, Calls Try.prog 22 #[.slice none 0 0, .int .i64 (2 * (k : Int) + 1)] W fun e w' => e = .returned (.float .f64 0) ∧ W = w' := fun W => at_nil (2 * k + 1) W
      obtain ⟨ad, hA, hx⟩ := (Kd.reads_of_C (enc := Value.int .i64) (d := (0 : Int)) (h1 := fun _ => rfl) (Kd.C_below HC.out hb.out)).at_ (k : Int) (by omega) (show (k : Int) < ((4 : Nat) : Int) by omega)
      subst hA
      have Y : rdOf 0 ([1, 2, 0, 3] : List Int) (k : Int) = (P4 k : Int) := by unfold rdOf; rw [Int.toNat_natCast]; exact P4_row k hlt
      rw [Y, Int.toNat_natCast] at hx
      have hp65 := P4_lt k hlt
      have hk65 : k < 65 := by omega
      have hl4 : (k + 1) * 16 ≤ 140737488355328 := by omega
      have HS := Aside0.mk (latL_succ k)
      clear Y
      generalize P4 k = p at *
      obtain ⟨Bv, cb, rfl⟩ := Kd.R_slice ho.out
      rw [latL_length] at ho ⊢
      go_wp2_with (first
        | (go_at_call 22; first | (with_reducible refine (hA1 _).mono ?_; rintro e w' ⟨rfl, rfl⟩) | (with_reducible refine (hA2 _).mono ?_; rintro e w' ⟨rfl, rfl⟩))
        | (go_at_call 31; refine (HLY.out _ hb.out _ ?hi).mono ?_; (case hi => first | exact hk65 | exact hp65); rintro e w' ⟨rfl, rfl⟩)
        | (at_builtin; refine Kd.R_append PK (w0 := w2) w2.heap.size rfl (.tmp 29) (.tmp 46) 24 29 (.agg #[.float .f64 0, .float .f64 0]) 16 rfl Try.underlying24 infoP rfl (by decide) (by decide) _ (latL k) (layW 4 k 0, layW 4 p 0) [.float .f64 (layW 4 k 0), .float .f64 (layW 4 p 0)] (fun _ => True) (fun _ => False) rfl rfl ⟨[_], [_], rfl, rfl, rfl⟩ (fun _ h => h.elim) (fun _ _ => trivial) ho.out hb.out hb.out.size (by rw [latL_length]; exact hl4) ?_; intro v1 w4 ho4 hb4 hg4 hat4; have HO4 := Aside0.mk ho4; have HB4 := Aside0.mk hb4; clear ho4 hb4 hg4 hat4))
      go_roundw
      case rel => exact ⟨k + 1, by omega, by go_num, ⟨by rw [HS.out]; exact HO4.out⟩, HB4⟩
      case measure => simp [intOf]; omega
    · obtain rfl : k = 4 := by omega
      go_wp2
      go_ret2
      refine ⟨_, rfl, Kd.R_lower ho.out ?_, ?_⟩
      · exact Nat.le_trans HB1.out.size HG2.out.size
      · have hg1 : w.grownBy w1 (some g) := ⟨HB1.out.os, HB1.out.tape, HB1.out.output, HB1.out.size, fun i hi _ => HB1.out.block i hi⟩
        have hg3 : w2.grownBy wr (some g) := ⟨hb.out.os, hb.out.tape, hb.out.output, hb.out.size, fun i hi _ => hb.out.block i hi⟩
        exact World.grownBy.trans (World.grownBy.trans hg1 HG2.out) hg3
end Go.Proofs.Ytkmdbidjdppdnaa.Gv
