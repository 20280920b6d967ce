/- packages pcg and its document: Next, by hand. -/
import Derived.Test.YtkmdbidjdppdnaaHa
namespace Go.Proofs.Ytkmdbidjdppdnaa.Gv
open Go.RowKit Go.Proofs.Ytkmdbidjdppdnaa.X Go.Proofs.YtkmdbidjdppdnaaW.PrintWords Go.Proofs.YtkmdbidjdppdnaaW.PrintLast
/-- what the state s draws: the word, and how far it is turned -/
def wordOf (s : Int) : Int := bits .xor .u64 (s / 262144) s / 134217728 % 4294967296
theorem and31 (k : Nat) (hk : k < 32) : bits .and .u32 (-(k : Int) % 4294967296) 31 = (((32 - k) % 32 : Nat) : Int) := by
  rw [show (31 : Int) = 2 ^ 5 - 1 from rfl, bits_mask .u32 32 (by decide) (fun n h0 h1 => by rw [IntKind.wrap_u32]; omega) 5 (by decide) _ (by omega) (by omega)]
  omega
/-- turned right by one, i times -/
def rit (x : Nat) : Nat → Nat
  | 0 => x
  | i + 1 => rit x i / 2 + rit x i % 2 * 2147483648
theorem rit_is (x : Nat) : ∀ i, i ≤ 31 → rit x i = x / 2 ^ i + x % 2 ^ i * 2 ^ (32 - i)
  | 0, _ => by simp [rit, Nat.mod_one]
  | i + 1, h => by
    have ih := rit_is x i (by omega)
    have e1 : 32 - i = (31 - i) + 1 := by omega
    have e2 : 32 - (i + 1) = 31 - i := by omega
    have e3 : x / 2 ^ (i + 1) = x / 2 ^ i / 2 := by rw [Nat.pow_succ, Nat.div_div_eq_div_mul]
    have e4 : x % 2 ^ (i + 1) = x % 2 ^ i + 2 ^ i * (x / 2 ^ i % 2) := Nat.mod_pow_succ
    have e5 : 2 ^ i * 2 ^ (31 - i) = 2147483648 := by
      rw [← Nat.pow_add, show i + (31 - i) = 31 by omega]
    rw [e1, Nat.pow_succ] at ih
    rw [rit, ih, e2, e3, e4, Nat.add_mul]
    have e6 : 2 ^ i * (x / 2 ^ i % 2) * 2 ^ (31 - i) = x / 2 ^ i % 2 * 2147483648 := by
      rw [← e5, Nat.mul_comm (2 ^ i) (x / 2 ^ i % 2), Nat.mul_assoc]
    rw [e6, ← Nat.mul_assoc]
    generalize x / 2 ^ i = u
    generalize x % 2 ^ i * 2 ^ (31 - i) = v
    omega
theorem rit_lt {x : Nat} (hx : x < 4294967296) : ∀ i, rit x i < 4294967296
  | 0 => hx
  | i + 1 => by
    have := rit_lt hx i
    rw [rit]
    omega
theorem or_rit (x k : Nat) (hx : x < 4294967296) (hk : k < 32) : bits .or .u32 ((x : Int) / 2 ^ k) ((x : Int) * 2 ^ ((32 - k) % 32) % 4294967296) = (rit x k : Int) := by
  have hw : ∀ n : Int, 0 ≤ n → n < 2 ^ 32 → IntKind.u32.wrap n = n := fun n h0 h1 => by rw [IntKind.wrap_u32]; omega
  have e1 : (x : Int) / 2 ^ k = ((x / 2 ^ k : Nat) : Int) := by simp
  have e2 : (x : Int) * 2 ^ ((32 - k) % 32) % 4294967296 = ((x * 2 ^ ((32 - k) % 32) % 4294967296 : Nat) : Int) := by simp
  have l1 : x / 2 ^ k < 2 ^ 32 := Nat.lt_of_le_of_lt (Nat.div_le_self _ _) hx
  have l2 : x * 2 ^ ((32 - k) % 32) % 4294967296 < 2 ^ 32 := Nat.mod_lt _ (by decide)
  rw [e1, e2, (bits_nat .u32 32 (by decide) hw _ _ l1 l2).2, rit_is x k (by omega)]
  congr 1
  by_cases h0 : k = 0
  · subst h0
    simp [Nat.mod_one, Nat.mod_eq_of_lt hx]
  · have e3 : (32 - k) % 32 = 32 - k := Nat.mod_eq_of_lt (by omega)
    have e4 : x * 2 ^ (32 - k) % 4294967296 = x % 2 ^ k * 2 ^ (32 - k) := by
      rw [show (4294967296 : Nat) = 2 ^ k * 2 ^ (32 - k) by rw [← Nat.pow_add, show k + (32 - k) = 32 by omega], Nat.mul_mod_mul_right]
    have l3 : x / 2 ^ k < 2 ^ (32 - k) := by
      rw [Nat.div_lt_iff_lt_mul (Nat.two_pow_pos k), ← Nat.pow_add, show 32 - k + k = 32 by omega]
      exact hx
    rw [e3, e4, Nat.or_comm, Nat.mul_comm (x % 2 ^ k), ← Nat.two_pow_add_eq_or_of_lt l3, Nat.add_comm]
def nxt (s : Int) : Int := (rit (wordOf s).toNat (s / 576460752303423488).toNat : Int)
set_option maxHeartbeats 2000000 in
theorem next_walk (g : Nat) (s c : Int) (y : Int) (x k j : Nat) (hy : bits .xor .u64 (s / 262144) s = y) (hx : y / 134217728 % 4294967296 = (x : Int)) (hk : s / 576460752303423488 = (k : Int)) (hk2 : k < 32) (hj : bits .and .u32 (-(k : Int) % 4294967296) 31 = (j : Int)) (hj2 : j < 32) (w : World) (h : Gn w 55 g s c) :
    Calls Try.prog 33 #[.pointer (some ⟨g, 0, none⟩)] w fun e w' => e = .returned (.int .u32 (bits BinOp.or IntKind.u32 ((x : Int) / 2 ^ k) ((x : Int) * 2 ^ j % 4294967296))) ∧ Gn w' 55 g (stp s c) c ∧ w.grownBy w' (some g) := by
  obtain ⟨k0, k1, k2⟩ := h.cells
  have HG := Aside0.mk h
  have hkw : IntKind.u32.wrap (k : Int) = (k : Int) := IntWalk.u32_in _ (by omega)
  clear h
  go_enter Try.func33, Try.ntmps33
  go_wp2_with (go_at_call 24; refine (step_any g s c _ HG.out).mono ?_; rintro x w1 ⟨rfl, hG1, hg1⟩; have HG1 := Aside0.mk hG1; have Hg1 := Aside0.mk hg1; clear hg1 hG1)
  go_ret
  exact ⟨rfl, HG1.out, Hg1.out⟩
theorem word_lt (s : Int) : 0 ≤ wordOf s ∧ wordOf s < 4294967296 := by unfold wordOf; omega
theorem next_any (g : Nat) (s c : Int) (h0 : 0 ≤ s) (h1 : s < 18446744073709551616) (w : World) (h : Gn w 55 g s c) :
    Calls Try.prog 33 #[.pointer (some ⟨g, 0, none⟩)] w fun e w' => e = .returned (.int .u32 (nxt s)) ∧ Gn w' 55 g (stp s c) c ∧ w.grownBy w' (some g) := by
  obtain ⟨a, b⟩ := word_lt s
  have hx : (((wordOf s).toNat : Nat) : Int) = wordOf s := Int.toNat_of_nonneg a
  have hk : (((s / 576460752303423488).toNat : Nat) : Int) = s / 576460752303423488 := Int.toNat_of_nonneg (by omega)
  have hk2 : (s / 576460752303423488).toNat < 32 := by omega
  have hx2 : (wordOf s).toNat < 4294967296 := by omega
  refine (next_walk g s c _ (wordOf s).toNat (s / 576460752303423488).toNat ((32 - (s / 576460752303423488).toNat) % 32) rfl hx.symm hk.symm hk2 (and31 _ hk2) (Nat.mod_lt _ (by decide)) w h).mono ?_
  rintro e w' ⟨rfl, h3⟩
  rw [or_rit _ _ hx2 hk2]
  exact ⟨rfl, h3⟩
set_option maxHeartbeats 2000000 in
theorem rnext_walk (g : Nat) (s c : Int) (y : Int) (x k : Nat) (hy : bits .xor .u64 (s / 262144) s = y) (hx : y / 134217728 % 4294967296 = (x : Int)) (hk : s / 576460752303423488 = (k : Int)) (hk2 : k < 32) (hx2 : x < 4294967296) (hy0 : 0 ≤ y) (hy1 : y < 18446744073709551616) (h0 : 0 ≤ s) (h1 : s < 18446744073709551616) (w : World) (h : Gn w 60 g s c) :
    Calls Try.prog 26 #[.pointer (some ⟨g, 0, none⟩)] w fun e w' => e = .returned (.int .u32 (rit x k : Int)) ∧ Gn w' 60 g (stp s c) c ∧ w.grownBy w' (some g) := by
  obtain ⟨k0, k1, k2⟩ := h.cells
  have HG := Aside0.mk h
  clear h
  go_enter Try.func26, Try.ntmps26
  go_wp2_with (go_at_call 27; refine (rstep_any g s c _ HG.out).mono ?_; rintro x w1 ⟨rfl, hG1, hg1⟩; have HG1 := Aside0.mk hG1; have Hg1 := Aside0.mk hg1; clear hg1 hG1)
  go_loop [4, 6] (fun v i => ∃ j : Nat, j ≤ k ∧ i = .int .u64 (j : Int) ∧ v = .int .u64 (rit x j : Int)) (fun _ i => k - (intOf i).toNat)
  case atStart => exact ⟨0, Nat.zero_le _, rfl, by rw [rit]; congr 1⟩
  case round =>
    obtain ⟨j, hj, rfl, rfl⟩ := hrel
    have hlt := rit_lt hx2 j
    by_cases c : j < k
    · have HS := Aside0.mk (show rit x (j + 1) = rit x j / 2 + rit x j % 2 * 2147483648 from rfl)
      generalize hz : rit x j = z at *
      have Hz := Aside0.mk hz
      clear hz
      go_wp2
      go_round
      case rel => exact ⟨j + 1, by omega, by go_num, by rw [HS.out]; congr 1⟩
      case measure => simp [intOf]; omega
    · have e : j = k := by omega
      subst e
      generalize hz : rit x j = z at *
      go_wp2
      go_ret
      exact ⟨by congr 1, HG1.out, Hg1.out⟩
theorem xor_lt (s : Int) (h0 : 0 ≤ s) (h1 : s < 18446744073709551616) : 0 ≤ bits .xor .u64 (s / 262144) s ∧ bits .xor .u64 (s / 262144) s < 18446744073709551616 := by
  obtain ⟨a, rfl⟩ := Int.eq_ofNat_of_zero_le h0
  have e : (a : Int) / 262144 = ((a / 262144 : Nat) : Int) := by simp
  rw [e, bits_xor_u64_nat _ _ (by omega) (by omega)]
  have hx : a / 262144 ^^^ a < 2 ^ 64 := Nat.xor_lt_two_pow (by omega) (by omega)
  generalize a / 262144 ^^^ a = z at hx ⊢
  omega
theorem rnext_any (g : Nat) (s c : Int) (h0 : 0 ≤ s) (h1 : s < 18446744073709551616) (w : World) (h : Gn w 60 g s c) :
    Calls Try.prog 26 #[.pointer (some ⟨g, 0, none⟩)] w fun e w' => e = .returned (.int .u32 (nxt s)) ∧ Gn w' 60 g (stp s c) c ∧ w.grownBy w' (some g) := by
  obtain ⟨a, b⟩ := word_lt s
  obtain ⟨y0, y1⟩ := xor_lt s h0 h1
  have hx : (((wordOf s).toNat : Nat) : Int) = wordOf s := Int.toNat_of_nonneg a
  have hk : (((s / 576460752303423488).toNat : Nat) : Int) = s / 576460752303423488 := Int.toNat_of_nonneg (by omega)
  exact rnext_walk g s c _ (wordOf s).toNat (s / 576460752303423488).toNat rfl hx.symm hk.symm (by omega) (by omega) y0 y1 h0 h1 w h
theorem stp_in (s c : Int) : 0 ≤ stp s c ∧ stp s c < 18446744073709551616 := by
  unfold stp
  rw [IntKind.wrap_u64]
  omega
theorem nxt_in (s : Int) : 0 ≤ nxt s ∧ nxt s < 4294967296 := by
  have h := word_lt s
  have := rit_lt (show (wordOf s).toNat < 4294967296 by omega) (s / 576460752303423488).toNat
  unfold nxt
  omega
end Go.Proofs.Ytkmdbidjdppdnaa.Gv
