/- ppm.from, ppm.Flip, ppm.Turn, by hand. (Written by gen44c.py of this repo.) -/
import Derived.Test.YtmpbjmjphapnoaaMa
import Derived.Test.YtmpbjmjphapnoaaMb
import Derived.Deep.RegionHeld3
import Derived.BigQuiet
import Derived.Deep.QuietTactic
import Derived.RegionTactic
import Derived.OwnWalk
namespace Go.Proofs.Ytmpbjmjphapnoaa.Gv
open Go.RowKit Go.Proofs.Ytmpbjmjphapnoaa.X Go.Proofs.YtmpbjmjphapnoaaW.PrintWords Go.Proofs.YtmpbjmjphapnoaaW.PrintLast
set_option linter.unusedVariables false
theorem three_C {W : World} {ad : Addr} {xs : List Int} (h : (Kd.int .u8).C W (some ad) xs.length xs) (lo : Nat) (hn : lo + 3 ≤ xs.length) : (Kd.int .u8).C W (some (ad.add lo)) 3 [xs.getD lo 0, xs.getD (lo + 1) 0, xs.getD (lo + 2) 0] := by
  obtain ⟨h1, h2, h3⟩ := Kd.reads_of_C (enc := Value.int .u8) (d := (0 : Int)) (h1 := fun _ => rfl) h
  refine Kd.C_of_reads (h1 := fun _ => rfl) (d := (0 : Int)) ⟨rfl, by omega, fun hp => ⟨_, rfl, fun j hj => ?_⟩⟩
  obtain ⟨ad2, e, hc⟩ := h3 (by omega)
  injection e with e
  subst e
  have hx := hc (lo + j) (by omega)
  have ea : (ad.add lo).add j = ad.add (lo + j) := Addr.add_add _ _ _
  rw [ea, hx]
  obtain rfl | rfl | rfl : j = 0 ∨ j = 1 ∨ j = 2 := by omega
  all_goals rfl
theorem frTo_length (b : List Int) (W : Nat) (F : Nat → Nat → Nat) (m : Nat) : (frTo b W F m).length = m := by simp [frTo]
theorem frTo_three (b : List Int) (W : Nat) (F : Nat → Nat → Nat) (x y : Nat) (hx : x < W) :
    frTo b W F (3 * (y * W + (x + 1))) = frTo b W F (3 * (y * W + x)) ++ [b.getD (3 * F x y) 0, b.getD (3 * F x y + 1) 0, b.getD (3 * F x y + 2) 0] := by
  have e1 : (y * W + x) % W = x := by rw [Nat.add_comm, Nat.add_mul_mod_self_right, Nat.mod_eq_of_lt hx]
  have e2 : (y * W + x) / W = y := by rw [Nat.add_comm, Nat.add_mul_div_right _ _ (by omega), Nat.div_eq_of_lt hx, Nat.zero_add]
  rw [← Nat.add_assoc]
  generalize y * W + x = p at *
  have e3 : 3 * (p + 1) = 3 * p + 1 + 1 + 1 := by omega
  rw [e3]
  unfold frTo
  rw [List.range_succ, List.range_succ, List.range_succ]
  simp only [List.map_append, List.map_cons, List.map_nil, List.append_assoc, List.cons_append, List.nil_append]
  have d0 : 3 * p / 3 = p := by omega
  have d1 : (3 * p + 1) / 3 = p := by omega
  have d2 : (3 * p + 1 + 1) / 3 = p := by omega
  have m0 : 3 * p % 3 = 0 := by omega
  have m1 : (3 * p + 1) % 3 = 1 := by omega
  have m2 : (3 * p + 1 + 1) % 3 = 2 := by omega
  rw [d0, d1, d2, m0, m1, m2, e1, e2]
  rfl
theorem info5 : (Try.prog.info? 5).map (fun i => (i.zero, i.size, i.bytes)) = some (some (.int .u8 0), 1, 1) := by kernel_rfl
theorem prod_small {x y W : Nat} (hx : x ≤ 8192) (hW : W ≤ 8192) : x * W ≤ 8192 * 8192 := Nat.mul_le_mul hx hW

set_option maxHeartbeats 2000000 in
theorem flipc_any (x y W : Nat) (pw : Addr) (w : World) (hpw : w.cell? pw = some (.int .i64 W)) (hx : x < W) (hy : y ≤ 8192) (hW : W ≤ 8192) :
    Calls Try.prog 26 #[.int .i64 x, .int .i64 y, .pointer (some pw)] w fun e w' => e = .returned (.int .i64 ((y * W + (W - 1 - x) : Nat) : Int)) ∧ Below w.heap.size w w' := by
  have q1 : (0 : Int) ≤ (y : Int) * W := Int.mul_nonneg (by omega) (by omega)
  have q2 : (y : Int) * W ≤ 8192 * 8192 := Int.mul_le_mul (by omega) (by omega) (by omega) (by omega)
  have HZ := Aside0.mk (show (y : Int) * W + W - 1 - x = ((y * W + (W - 1 - x) : Nat) : Int) from by
    have e : ((y * W : Nat) : Int) = (y : Int) * W := by simp
    omega)
  generalize hp : (y : Int) * W = p at *
  have e1 : IntKind.i64.wrap ((y : Int) * W) = p := by rw [hp]; exact IntWalk.i64_in _ (by omega)
  have e2 : IntKind.i64.wrap (p + W) = p + W := IntWalk.i64_in _ (by omega)
  have e3 : IntKind.i64.wrap (p + W - 1) = p + W - 1 := IntWalk.i64_in _ (by omega)
  have e4 : IntKind.i64.wrap (p + W - 1 - x) = p + W - 1 - x := IntWalk.i64_in _ (by omega)
  rw [← HZ.out]
  clear HZ
  go_enter Try.func26, Try.ntmps26
  go_wp2
  go_ret
  exact ⟨rfl, Below.refl _ _⟩

set_option maxHeartbeats 2000000 in
theorem turnc_any (x y W H : Nat) (ph pw : Addr) (w : World) (hph : w.cell? ph = some (.int .i64 H)) (hpw : w.cell? pw = some (.int .i64 W)) (hx : x < H) (hy : y < W) (hW : W ≤ 8192) (hH : H ≤ 8192) :
    Calls Try.prog 27 #[.int .i64 x, .int .i64 y, .pointer (some ph), .pointer (some pw)] w fun e w' => e = .returned (.int .i64 (((H - 1 - x) * W + y : Nat) : Int)) ∧ Below w.heap.size w w' := by
  have q0 : (H : Int) - 1 - x = ((H - 1 - x : Nat) : Int) := by omega
  have q1 : (0 : Int) ≤ ((H : Int) - 1 - x) * W := Int.mul_nonneg (by omega) (by omega)
  have q2 : ((H : Int) - 1 - x) * W ≤ 8192 * 8192 := Int.mul_le_mul (by omega) (by omega) (by omega) (by omega)
  have HZ := Aside0.mk (show ((H : Int) - 1 - x) * W + y = (((H - 1 - x) * W + y : Nat) : Int) from by rw [q0]; simp)
  generalize hp : ((H : Int) - 1 - x) * W = p at *
  have e0 : IntKind.i64.wrap ((H : Int) - 1) = (H : Int) - 1 := IntWalk.i64_in _ (by omega)
  have e0' : IntKind.i64.wrap ((H : Int) - 1 - x) = (H : Int) - 1 - x := IntWalk.i64_in _ (by omega)
  have e1 : IntKind.i64.wrap (((H : Int) - 1 - x) * W) = p := by rw [hp]; exact IntWalk.i64_in _ (by omega)
  have e2 : IntKind.i64.wrap (p + y) = p + y := IntWalk.i64_in _ (by omega)
  rw [← HZ.out]
  clear HZ q0
  go_enter Try.func27, Try.ntmps27
  go_wp2
  go_ret
  exact ⟨rfl, Below.refl _ _⟩

set_option maxHeartbeats 8000000 in
theorem from_flip (F : Nat → Nat → Nat) (W H : Nat) (b : List Int) (ad : Addr) (cb : Nat) (p0 : Addr) (w : World) (hW : W ≤ 8192) (hH : H ≤ 8192) (hWH : H * W ≤ 65536) (hb : b.length ≤ 1000000) (hcb : b.length ≤ cb)
    (hr : (Kd.int .u8).C w (some ad) b.length b) (hF : ∀ x y, x < W → y < H → 3 * F x y + 3 ≤ b.length)
    (hclos : ∀ (V : World) (x y : Nat), x < W → y < H → Below w.heap.size w V → Calls Try.prog 26 #[.int .i64 x, .int .i64 y, .pointer (some p0)] V fun e V' => e = .returned (.int .i64 (F x y)) ∧ Below V.heap.size V V') :
    Calls Try.prog 25 #[.int .i64 W, .int .i64 H, .slice (some ad) b.length cb, .func (.func 26) #[] #[.pointer (some p0)]] w fun e w' => ∃ v : Value, e = .returned v ∧ (Kd.int .u8).R 5 w' w.heap.size (fun _ => True) v (frTo b W F (3 * (H * W))) ∧ Below w.heap.size w w' := by
  have HC := Aside0.mk hclos
  have HR := Aside0.mk hr
  have HF := Aside0.mk hF
  have HWH := Aside0.mk hWH
  clear hclos hr hF hWH
  go_enter Try.func25, Try.ntmps25
  go_wp2
  go_loopw [9, 14] (fun v c wr => ∃ k : Nat, k ≤ H ∧ c = .int .i64 k ∧ Aside0 ((Kd.int .u8).R 5 wr w.heap.size (fun _ => True) v (frTo b W F (3 * (k * W)))) ∧ Below w.heap.size w wr) (fun _ c _ => H - (intOf c).toNat)
  case atStart => exact ⟨0, Nat.zero_le _, rfl, ⟨by rw [Nat.zero_mul]; exact Kd.R_nil _ _ _ _ _⟩, Below.refl _ _⟩
  case round =>
    obtain ⟨k, hk, rfl, ho, hb1⟩ := hrel
    obtain ⟨wo, rfl⟩ : ∃ wo : World, wo = wr := ⟨_, rfl⟩
    by_cases hlt : k < H
    · go_wp2
      go_loopw [9, 18] (fun v c wr => ∃ m : Nat, m ≤ W ∧ c = .int .i64 m ∧ Aside0 ((Kd.int .u8).R 5 wr w.heap.size (fun _ => True) v (frTo b W F (3 * (k * W + m)))) ∧ Below w.heap.size w wr) (fun _ c _ => W - (intOf c).toNat)
      case atStart => exact ⟨0, Nat.zero_le _, rfl, ho, hb1⟩
      case round =>
        obtain ⟨m, hm, rfl, ho2, hb2⟩ := hrel
        by_cases hlt2 : m < W
        · have HC2 := Aside0.mk (HC.out _ m k hlt2 hlt hb2)
          have f3 := HF.out m k hlt2 hlt
          have H3 := Aside0.mk (frTo_three b W F m k hlt2)
          have HQ := Aside0.mk (show 3 * (k * W + m) ≤ 300000 from by
            have h1 := HWH.out
            have h2 : (k + 1) * W ≤ H * W := Nat.mul_le_mul_right W hlt
            rw [Nat.add_mul, Nat.one_mul] at h2
            omega)
          generalize F m k = f at *
          have c1 : IntKind.i64.wrap (3 * (f : Int)) = ((3 * f : Nat) : Int) := by rw [IntWalk.i64_in _ (by omega)]; omega
          have c2 : IntKind.i64.wrap (((3 * f : Nat) : Int) + 3) = ((3 * f + 3 : Nat) : Int) := by rw [IntWalk.i64_in _ (by omega)]; omega
          generalize h3f : 3 * f = g at *
          clear h3f
          have s1 : (0 : Int) ≤ (g : Int) := by omega
          have s2 : (g : Int) ≤ ((g + 3 : Nat) : Int) := by omega
          have s3 : ((g + 3 : Nat) : Int) ≤ (cb : Int) := by omega
          have s4 : g + 3 - g = 3 := by omega
          have s5 : ¬ g + 3 = g := by omega
          go_wp2_with (first | (go_at_call 26; refine HC2.out.mono ?_; rintro e w3 ⟨rfl, hb3⟩; have HB3 := Aside0.mk (below_then hb2 hb2.size hb3); have HO3 := Aside0.mk (Kd.R_below ho2.out hb3); clear hb3) | (at_builtin; refine Kd.R_append_row (w0 := w) (Value.int .u8) 0 (h1 := fun _ => rfl) w.heap.size rfl (.tmp 26) (.tmp 33) 22 5 (.int .u8 0) 1 rfl Try.underlying22 info5 rfl (by decide) _ (frTo b W F (3 * (k * W + m))) [b.getD g 0, b.getD (g + 1) 0, b.getD (g + 2) 0] (some (ad.add g)) (g + 3 - g) (g + 3 - g) (fun _ => True) rfl rfl (fun _ _ => trivial) HO3.out (by rw [show g + 3 - g = 3 from by omega]; exact three_C (Kd.C_below HR.out HB3.out) g f3) HB3.out HB3.out.size (by rw [frTo_length]; have := HQ.out; omega) ?_; intro v1 w4 ho4 hb4 hg4 hat4; rw [← H3.out] at ho4; have HO4 := Aside0.mk ho4; have HB4 := Aside0.mk hb4; clear hg4 hat4 ho4 hb4))
          go_roundw
          case rel => exact ⟨m + 1, by omega, by go_num, HO4, HB4.out⟩
          case measure => simp [intOf]; omega
        · have hmn : m = W := by omega
          have HE := Aside0.mk hmn
          clear hmn
          go_wp2
          go_roundw
          case rel => exact ⟨k + 1, by omega, by go_num, ⟨by rw [show (k + 1) * W = k * W + W from Nat.succ_mul k W]; rw [HE.out] at ho2; exact ho2.out⟩, hb2⟩
          case measure => simp [intOf]; omega
    · have hkn : k = H := by omega
      have HE := Aside0.mk hkn
      clear hkn
      go_wp2
      go_ret
      exact ⟨_, rfl, by have h := ho.out; rw [HE.out] at h; exact h, hb1⟩

set_option maxHeartbeats 8000000 in
theorem from_turn (F : Nat → Nat → Nat) (W H : Nat) (b : List Int) (ad : Addr) (cb : Nat) (p0 p1 : Addr) (w : World) (hW : W ≤ 8192) (hH : H ≤ 8192) (hWH : H * W ≤ 65536) (hb : b.length ≤ 1000000) (hcb : b.length ≤ cb)
    (hr : (Kd.int .u8).C w (some ad) b.length b) (hF : ∀ x y, x < W → y < H → 3 * F x y + 3 ≤ b.length)
    (hclos : ∀ (V : World) (x y : Nat), x < W → y < H → Below w.heap.size w V → Calls Try.prog 27 #[.int .i64 x, .int .i64 y, .pointer (some p0), .pointer (some p1)] V fun e V' => e = .returned (.int .i64 (F x y)) ∧ Below V.heap.size V V') :
    Calls Try.prog 25 #[.int .i64 W, .int .i64 H, .slice (some ad) b.length cb, .func (.func 27) #[] #[.pointer (some p0), .pointer (some p1)]] w fun e w' => ∃ v : Value, e = .returned v ∧ (Kd.int .u8).R 5 w' w.heap.size (fun _ => True) v (frTo b W F (3 * (H * W))) ∧ Below w.heap.size w w' := by
  have HC := Aside0.mk hclos
  have HR := Aside0.mk hr
  have HF := Aside0.mk hF
  have HWH := Aside0.mk hWH
  clear hclos hr hF hWH
  go_enter Try.func25, Try.ntmps25
  go_wp2
  go_loopw [9, 14] (fun v c wr => ∃ k : Nat, k ≤ H ∧ c = .int .i64 k ∧ Aside0 ((Kd.int .u8).R 5 wr w.heap.size (fun _ => True) v (frTo b W F (3 * (k * W)))) ∧ Below w.heap.size w wr) (fun _ c _ => H - (intOf c).toNat)
  case atStart => exact ⟨0, Nat.zero_le _, rfl, ⟨by rw [Nat.zero_mul]; exact Kd.R_nil _ _ _ _ _⟩, Below.refl _ _⟩
  case round =>
    obtain ⟨k, hk, rfl, ho, hb1⟩ := hrel
    obtain ⟨wo, rfl⟩ : ∃ wo : World, wo = wr := ⟨_, rfl⟩
    by_cases hlt : k < H
    · go_wp2
      go_loopw [9, 18] (fun v c wr => ∃ m : Nat, m ≤ W ∧ c = .int .i64 m ∧ Aside0 ((Kd.int .u8).R 5 wr w.heap.size (fun _ => True) v (frTo b W F (3 * (k * W + m)))) ∧ Below w.heap.size w wr) (fun _ c _ => W - (intOf c).toNat)
      case atStart => exact ⟨0, Nat.zero_le _, rfl, ho, hb1⟩
      case round =>
        obtain ⟨m, hm, rfl, ho2, hb2⟩ := hrel
        by_cases hlt2 : m < W
        · have HC2 := Aside0.mk (HC.out _ m k hlt2 hlt hb2)
          have f3 := HF.out m k hlt2 hlt
          have H3 := Aside0.mk (frTo_three b W F m k hlt2)
          have HQ := Aside0.mk (show 3 * (k * W + m) ≤ 300000 from by
            have h1 := HWH.out
            have h2 : (k + 1) * W ≤ H * W := Nat.mul_le_mul_right W hlt
            rw [Nat.add_mul, Nat.one_mul] at h2
            omega)
          generalize F m k = f at *
          have c1 : IntKind.i64.wrap (3 * (f : Int)) = ((3 * f : Nat) : Int) := by rw [IntWalk.i64_in _ (by omega)]; omega
          have c2 : IntKind.i64.wrap (((3 * f : Nat) : Int) + 3) = ((3 * f + 3 : Nat) : Int) := by rw [IntWalk.i64_in _ (by omega)]; omega
          generalize h3f : 3 * f = g at *
          clear h3f
          have s1 : (0 : Int) ≤ (g : Int) := by omega
          have s2 : (g : Int) ≤ ((g + 3 : Nat) : Int) := by omega
          have s3 : ((g + 3 : Nat) : Int) ≤ (cb : Int) := by omega
          have s4 : g + 3 - g = 3 := by omega
          have s5 : ¬ g + 3 = g := by omega
          go_wp2_with (first | (go_at_call 27; refine HC2.out.mono ?_; rintro e w3 ⟨rfl, hb3⟩; have HB3 := Aside0.mk (below_then hb2 hb2.size hb3); have HO3 := Aside0.mk (Kd.R_below ho2.out hb3); clear hb3) | (at_builtin; refine Kd.R_append_row (w0 := w) (Value.int .u8) 0 (h1 := fun _ => rfl) w.heap.size rfl (.tmp 26) (.tmp 33) 22 5 (.int .u8 0) 1 rfl Try.underlying22 info5 rfl (by decide) _ (frTo b W F (3 * (k * W + m))) [b.getD g 0, b.getD (g + 1) 0, b.getD (g + 2) 0] (some (ad.add g)) (g + 3 - g) (g + 3 - g) (fun _ => True) rfl rfl (fun _ _ => trivial) HO3.out (by rw [show g + 3 - g = 3 from by omega]; exact three_C (Kd.C_below HR.out HB3.out) g f3) HB3.out HB3.out.size (by rw [frTo_length]; have := HQ.out; omega) ?_; intro v1 w4 ho4 hb4 hg4 hat4; rw [← H3.out] at ho4; have HO4 := Aside0.mk ho4; have HB4 := Aside0.mk hb4; clear hg4 hat4 ho4 hb4))
          go_roundw
          case rel => exact ⟨m + 1, by omega, by go_num, HO4, HB4.out⟩
          case measure => simp [intOf]; omega
        · have hmn : m = W := by omega
          have HE := Aside0.mk hmn
          clear hmn
          go_wp2
          go_roundw
          case rel => exact ⟨k + 1, by omega, by go_num, ⟨by rw [show (k + 1) * W = k * W + W from Nat.succ_mul k W]; rw [HE.out] at ho2; exact ho2.out⟩, hb2⟩
          case measure => simp [intOf]; omega
    · have hkn : k = H := by omega
      have HE := Aside0.mk hkn
      clear hkn
      go_wp2
      go_ret
      exact ⟨_, rfl, by have h := ho.out; rw [HE.out] at h; exact h, hb1⟩
theorem chk_zero {a b n : Int} (h : chk a b n = 0) : 1 ≤ a ∧ 1 ≤ b ∧ a ≤ 8192 ∧ b ≤ 8192 ∧ a * b ≤ 65536 ∧ n = 3 * a * b := by
  unfold chk at h
  split at h
  · omega
  · split at h
    · omega
    · split at h
      · refine ⟨by omega, by omega, by omega, by omega, by omega, by assumption⟩
      · omega
theorem place_lt {x y W H n : Nat} (hx : x < W) (hy : y < H) (hn : n = 3 * (H * W)) (p : Nat) (hp : p ≤ y * W + W - 1) (h1 : 1 ≤ W) : 3 * p + 3 ≤ n := by
  have h := Nat.mul_le_mul_right W (show y + 1 ≤ H from hy)
  rw [Nat.add_mul, Nat.one_mul] at h
  omega
set_option maxHeartbeats 8000000 in
theorem flip_any (a0 : Int) (a1 : Int) (A2 : Option Addr) (c2 : Nat) (l2 : List Int) (r1 : List Int) (r2 : Int) (w : World) (hr2 : Kd.C (Kd.int .u8) w A2 l2.length l2) (hc2 : l2.length ≤ c2) (h : flipF a0 a1 l2 = (r1, r2)) :
    Calls Try.prog 14 #[.int .i64 a0, .int .i64 a1, .slice A2 l2.length c2] w fun e w' => ∃ v0_ : Value, e = .returned (.tuple #[v0_, .int .i64 r2]) ∧ Kd.R (Kd.int .u8) 5 w' w.heap.size (fun _ => True) v0_ r1 ∧ Below w.heap.size w w' := by
  unfold flipF at h
  have HCk := Aside0.mk (chk_any a0 a1 l2.length)
  have b1 := blk_new w (.cells #[.int .i64 a0] 3)
  have hB := Below.alloc (Below.refl w.heap.size w) (Nat.le_refl _) (.cells #[.int .i64 a0] 3)
  have HB1 := Aside0.mk b1
  have HBel := Aside0.mk hB
  have k0 := (blk_cell b1 0).trans rfl
  have hmf : ∀ (fn : Fn) (first cap : Array Value) (w : World), (Instr.makeFunc fn first cap).run Try.prog w = .ok (.func fn first cap) w := fun _ _ _ _ => rfl
  by_cases c : chk a0 a1 l2.length = 0
  · rw [if_pos c] at h
    obtain ⟨rfl, rfl⟩ := Prod.mk.inj h
    obtain ⟨g1, g2, g3, g4, g5, g6⟩ := chk_zero c
    obtain ⟨W, rfl⟩ : ∃ W : Nat, a0 = W := ⟨a0.toNat, by omega⟩
    obtain ⟨H, rfl⟩ : ∃ H : Nat, a1 = H := ⟨a1.toNat, by omega⟩
    have hWH : H * W ≤ 65536 := by rw [Nat.mul_comm]; rw [← Int.natCast_mul] at g5; omega
    have hlen : l2.length = 3 * (H * W) := by
      have e : ((3 * (H * W) : Nat) : Int) = 3 * (W : Int) * H := by rw [Nat.mul_comm H W, Int.natCast_mul, Int.natCast_mul]; exact (Int.mul_assoc _ _ _).symm
      omega
    have hpos : 1 ≤ H * W := Nat.mul_pos (by omega) (by omega)
    obtain ⟨ad, rfl, -⟩ := Kd.at_int hr2 0 (by omega) (by omega)
    rw [c] at HCk
    have HFR := Aside0.mk (fun (V : World) (hV : Below (w.alloc (.cells #[.int .i64 (W : Int)] 3)).heap.size (w.alloc (.cells #[.int .i64 (W : Int)] 3)) V) => from_flip (fun x y => y * W + (W - 1 - x)) W H l2 ad c2 ⟨w.heap.size, 0, none⟩ V (by omega) (by omega) hWH (by omega) hc2 (Kd.C_below (Kd.C_below hr2 hB) hV)
      (fun x y hx hy => place_lt hx hy hlen _ (by omega) (by omega))
      (fun V2 x y hx hy hb => flipc_any x y W _ V2 ((blk_cell (blk_below (blk_below b1 hV) hb) 0).trans rfl) hx (by omega) (by omega)))
    rw [← hlen] at HFR
    rw [Int.toNat_natCast]
    generalize frTo l2 W (fun x y => y * W + (W - 1 - x)) l2.length = res at *
    clear hr2 g1 g2 g3 g4 g5 g6 hWH hlen hpos c h hB b1
    go_enter Try.func14, Try.ntmps14
    go_wp2_with (first | (go_at_call 17; refine (HCk.out _).mono ?_; rintro e w1 ⟨rfl, hb1⟩; have HV := Aside0.mk hb1; have k1 := (blk_cell (blk_below HB1.out hb1) 0).trans rfl; clear hb1) | (go_at_call 25; refine (HFR.out _ HV.out).mono ?_; rintro e w2 ⟨v, rfl, hv, hb2⟩; have HR2 := Aside0.mk hv; have HB2 := Aside0.mk hb2; clear hv hb2))
    go_ret2
    have q1 := below_then HBel.out HBel.out.size HV.out
    exact ⟨_, rfl, Kd.R_lower HR2.out q1.size, below_then q1 q1.size HB2.out⟩
  · rw [if_neg c] at h
    obtain ⟨rfl, rfl⟩ := Prod.mk.inj h
    have c1 : (chk a0 a1 l2.length == 0) = false := beq_eq_false_iff_ne.mpr c
    have c2 : (chk a0 a1 l2.length != 0) = true := bne_iff_ne.mpr c
    generalize chk a0 a1 l2.length = z at *
    clear hr2 c h hB b1
    go_enter Try.func14, Try.ntmps14
    go_wp2_with (first | (go_at_call 17; refine (HCk.out _).mono ?_; rintro e w1 ⟨rfl, hb1⟩; have HV := Aside0.mk hb1; have k1 := (blk_cell (blk_below HB1.out hb1) 0).trans rfl; clear hb1))
    go_ret2
    exact ⟨_, rfl, Kd.R_nil _ _ _ _ _, below_then HBel.out HBel.out.size HV.out⟩
set_option maxHeartbeats 8000000 in
theorem turn_any (a0 : Int) (a1 : Int) (A2 : Option Addr) (c2 : Nat) (l2 : List Int) (r1 : List Int) (r2 : Int) (w : World) (hr2 : Kd.C (Kd.int .u8) w A2 l2.length l2) (hc2 : l2.length ≤ c2) (h : turnF a0 a1 l2 = (r1, r2)) :
    Calls Try.prog 15 #[.int .i64 a0, .int .i64 a1, .slice A2 l2.length c2] w fun e w' => ∃ v0_ : Value, e = .returned (.tuple #[v0_, .int .i64 r2]) ∧ Kd.R (Kd.int .u8) 5 w' w.heap.size (fun _ => True) v0_ r1 ∧ Below w.heap.size w w' := by
  unfold turnF at h
  have HCk := Aside0.mk (chk_any a0 a1 l2.length)
  have b1 := blk_new w (.cells #[.int .i64 a0] 3)
  have hB0 := Below.alloc (Below.refl w.heap.size w) (Nat.le_refl _) (.cells #[.int .i64 a0] 3)
  have hA := Below.alloc (Below.refl (w.alloc (.cells #[.int .i64 a0] 3)).heap.size (w.alloc (.cells #[.int .i64 a0] 3))) (Nat.le_refl _) (.cells #[.int .i64 a1] 3)
  have b1 := blk_below b1 hA
  have b2 := blk_new (w.alloc (.cells #[.int .i64 a0] 3)) (.cells #[.int .i64 a1] 3)
  have hz1 : (w.alloc (.cells #[.int .i64 a0] 3)).heap.size = w.heap.size + 1 := by simp
  rw [hz1] at b2
  have hB := below_then hB0 hB0.size hA
  have HB1 := Aside0.mk b1
  have HB2' := Aside0.mk b2
  have HBel := Aside0.mk hB
  have k0 := (blk_cell b1 0).trans rfl
  have k0' := (blk_cell b2 0).trans rfl
  have hmf : ∀ (fn : Fn) (first cap : Array Value) (w : World), (Instr.makeFunc fn first cap).run Try.prog w = .ok (.func fn first cap) w := fun _ _ _ _ => rfl
  by_cases c : chk a0 a1 l2.length = 0
  · rw [if_pos c] at h
    obtain ⟨rfl, rfl⟩ := Prod.mk.inj h
    obtain ⟨g1, g2, g3, g4, g5, g6⟩ := chk_zero c
    obtain ⟨W, rfl⟩ : ∃ W : Nat, a0 = W := ⟨a0.toNat, by omega⟩
    obtain ⟨H, rfl⟩ : ∃ H : Nat, a1 = H := ⟨a1.toNat, by omega⟩
    have hWH : H * W ≤ 65536 := by rw [Nat.mul_comm]; rw [← Int.natCast_mul] at g5; omega
    have hlen : l2.length = 3 * (H * W) := by
      have e : ((3 * (H * W) : Nat) : Int) = 3 * (W : Int) * H := by rw [Nat.mul_comm H W, Int.natCast_mul, Int.natCast_mul]; exact (Int.mul_assoc _ _ _).symm
      omega
    have hpos : 1 ≤ H * W := Nat.mul_pos (by omega) (by omega)
    obtain ⟨ad, rfl, -⟩ := Kd.at_int hr2 0 (by omega) (by omega)
    have hWH' : W * H ≤ 65536 := by rw [Nat.mul_comm]; exact hWH
    have hlen' : l2.length = 3 * (W * H) := by rw [hlen, Nat.mul_comm H W]
    rw [c] at HCk
    have HFR := Aside0.mk (fun (V : World) (hV : Below ((w.alloc (.cells #[.int .i64 (W : Int)] 3)).alloc (.cells #[.int .i64 (H : Int)] 3)).heap.size ((w.alloc (.cells #[.int .i64 (W : Int)] 3)).alloc (.cells #[.int .i64 (H : Int)] 3)) V) => from_turn (fun x y => (H - 1 - x) * W + y) H W l2 ad c2 ⟨w.heap.size + 1, 0, none⟩ ⟨w.heap.size, 0, none⟩ V (by omega) (by omega) hWH' (by omega) hc2 (Kd.C_below (Kd.C_below hr2 hB) hV)
      (fun x y hx hy => place_lt (x := y) (y := H - 1 - x) (W := W) (H := H) hy (by omega) hlen _ (by omega) (by omega))
      (fun V2 x y hx hy hb => turnc_any x y W H _ _ V2 ((blk_cell (blk_below (blk_below b2 hV) hb) 0).trans rfl) ((blk_cell (blk_below (blk_below b1 hV) hb) 0).trans rfl) hx hy (by omega) (by omega)))
    rw [← hlen'] at HFR
    rw [Int.toNat_natCast, Int.toNat_natCast]
    generalize frTo l2 H (fun x y => (H - 1 - x) * W + y) l2.length = res at *
    clear hr2 g1 g2 g3 g4 g5 g6 hWH hlen hWH' hlen' hpos c h hB b1 b2 hB0 hA
    go_enter Try.func15, Try.ntmps15
    go_wp2_with (first | (go_at_call 17; refine (HCk.out _).mono ?_; rintro e w1 ⟨rfl, hb1⟩; have HV := Aside0.mk hb1; have k1 := (blk_cell (blk_below HB1.out hb1) 0).trans rfl; have k1' := (blk_cell (blk_below HB2'.out hb1) 0).trans rfl; clear hb1) | (go_at_call 25; refine (HFR.out _ HV.out).mono ?_; rintro e w2 ⟨v, rfl, hv, hb2⟩; have HR2 := Aside0.mk hv; have HB2 := Aside0.mk hb2; clear hv hb2))
    go_ret2
    have q1 := below_then HBel.out HBel.out.size HV.out
    exact ⟨_, rfl, Kd.R_lower HR2.out q1.size, below_then q1 q1.size HB2.out⟩
  · rw [if_neg c] at h
    obtain ⟨rfl, rfl⟩ := Prod.mk.inj h
    have c1 : (chk a0 a1 l2.length == 0) = false := beq_eq_false_iff_ne.mpr c
    have c2 : (chk a0 a1 l2.length != 0) = true := bne_iff_ne.mpr c
    generalize chk a0 a1 l2.length = z at *
    clear hr2 c h hB b1 b2 hB0 hA
    go_enter Try.func15, Try.ntmps15
    go_wp2_with (first | (go_at_call 17; refine (HCk.out _).mono ?_; rintro e w1 ⟨rfl, hb1⟩; have HV := Aside0.mk hb1; have k1 := (blk_cell (blk_below HB1.out hb1) 0).trans rfl; have k1' := (blk_cell (blk_below HB2'.out hb1) 0).trans rfl; clear hb1))
    go_ret2
    exact ⟨_, rfl, Kd.R_nil _ _ _ _ _, below_then HBel.out HBel.out.size HV.out⟩
end Go.Proofs.Ytmpbjmjphapnoaa.Gv
