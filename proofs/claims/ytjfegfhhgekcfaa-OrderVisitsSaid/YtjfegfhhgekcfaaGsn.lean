/- slices.Reverse in the midst of a row, and order.Snake. -/
import Derived.Test.YtjfegfhhgekcfaaGo
import Derived.Deep.AppendLies
namespace Go.Proofs.Ytjfegfhhgekcfaa.Gv
open Go.RowKit Go.Proofs.Ytjfegfhhgekcfaa.X Go.Proofs.YtjfegfhhgekcfaaW.PrintWords Go.Proofs.YtjfegfhhgekcfaaW.PrintLast Go.Proofs.YtjfegfhhgekcfaaW.PrintMore

/-- n numbers from a on, turned about: the first k exchanges -/
def rvTo (l : List Int) (a n : Nat) : Nat → List Int
  | 0 => l
  | k + 1 => ((rvTo l a n k).set (a + k) ((rvTo l a n k).getD (a + n - 1 - k) 0)).set (a + n - 1 - k) ((rvTo l a n k).getD (a + k) 0)
theorem rvTo_length (l : List Int) (a n : Nat) : ∀ k, (rvTo l a n k).length = l.length
  | 0 => rfl
  | k + 1 => by rw [rvTo, List.length_set, List.length_set, rvTo_length l a n k]
theorem int_eq {a b : Int} (h : a = b) : Value.int .i64 a = Value.int .i64 b := by rw [h]
theorem grown_drew {a w : World} {row : Option Nat} (h : a.grownBy w row) : a.grownBy w.drew row := ⟨h.os, h.tape, h.output, h.size, h.block⟩
set_option maxHeartbeats 2000000 in
theorem rev_mid (l : List Int) (g cap base a n c : Nat) (ok : Nat → Prop) (w : World) (HO : Kd.R (Kd.int .i64) 3 w base ok (.slice (some ⟨g, 0, none⟩) l.length cap) l) (hn : a + n ≤ l.length) (hn2 : l.length ≤ 1000000) :
    Calls Try.prog 26 #[.slice (some ⟨g, a, none⟩) n c] w fun e w' => e = .returned (.tuple #[]) ∧ Kd.R (Kd.int .i64) 3 w' base ok (.slice (some ⟨g, 0, none⟩) l.length cap) (rvTo l a n (n / 2)) ∧ w.grownBy w' (some g) := by
  have HO' := Aside0.mk HO
  clear HO
  go_enter Try.func26, Try.ntmps26
  go_wp2
  go_loopw [2, 3] (fun i j wr => ∃ k : Nat, k ≤ n / 2 ∧ i = .int .i64 k ∧ j = .int .i64 ((n : Int) - 1 - k) ∧ Aside0 (Kd.R (Kd.int .i64) 3 wr base ok (.slice (some ⟨g, 0, none⟩) l.length cap) (rvTo l a n k)) ∧ Aside0 (w.grownBy wr (some g))) (fun i _ _ => n / 2 - (intOf i).toNat)
  case atStart => exact ⟨0, Nat.zero_le _, rfl, by go_num, HO', ⟨World.grownBy.refl _ _⟩⟩
  case round =>
    obtain ⟨k, hk, rfl, rfl, HR, HG⟩ := hrel
    by_cases hlt : k < n / 2
    · obtain ⟨m, hm⟩ : ∃ m : Nat, m + k + 1 = n := ⟨n - 1 - k, by omega⟩
      have hj : (n : Int) - 1 - k = (m : Int) := by omega
      have hkm : k < m := by omega
      rw [hj]
      obtain ⟨hx1, hf1⟩ := Kd.R_celln 0 HR.out ((a + k : Nat) : Int) (by omega) (by omega)
      obtain ⟨hy1, hf2⟩ := Kd.R_celln 0 HR.out ((a + m : Nat) : Int) (by omega) (by omega)
      rw [Int.toNat_natCast] at hx1 hf1 hy1 hf2
      have X : rdOf 0 (rvTo l a n k) ((a + k : Nat) : Int) = (rvTo l a n k).getD (a + k) 0 := rfl
      have Y : rdOf 0 (rvTo l a n k) ((a + m : Nat) : Int) = (rvTo l a n k).getD (a + m) 0 := rfl
      rw [X] at hx1
      rw [Y] at hy1
      have hp1 := Kd.R_putg HR.out ((a + k : Nat) : Int) ((rvTo l a n k).getD (a + m) 0)
      rw [Int.toNat_natCast] at hp1
      have hp2 := Kd.R_putg hp1.1 ((a + m : Nat) : Int) ((rvTo l a n k).getD (a + k) 0)
      rw [Int.toNat_natCast] at hp2
      have HS := Aside0.mk (show rvTo l a n (k + 1) = ((rvTo l a n k).set (a + k) ((rvTo l a n k).getD (a + m) 0)).set (a + m) ((rvTo l a n k).getD (a + k) 0) from by rw [rvTo, show a + n - 1 - k = a + m from by omega])
      clear X Y
      generalize (rvTo l a n k).getD (a + k) 0 = x at *
      generalize (rvTo l a n k).getD (a + m) 0 = y at *
      have HP1 := Aside0.mk hp1
      have HP2 := Aside0.mk hp2
      have hjm : 0 ≤ (m : Int) := by omega
      have hkn : (k : Int) < n := by omega
      have hmn : (m : Int) < n := by omega
      have hne1 : ¬ a + k = a + m := by omega
      have hne2 : ¬ a + m = a + k := by omega
      have hne3 : ¬ k = m := by omega
      have hne4 : ¬ m = k := by omega
      have hkm2 : (k : Int) < (m : Int) := by omega
      clear hp1 hp2 hj
      go_wp2
      go_region
      go_wp2
      go_roundw
      case rel => exact ⟨k + 1, by omega, by go_num, int_eq (by omega), ⟨by rw [HS.out]; exact Kd.R_drew HP2.out.1⟩, ⟨World.grownBy.trans HG.out (grown_drew (World.grownBy.trans HP1.out.2 HP2.out.2))⟩⟩
      case measure => simp [intOf]; omega
    · have hkn : k = n / 2 := by omega
      have H := Aside0.mk hkn
      have hge : ¬ (k : Int) < (n : Int) - 1 - k := by omega
      have hge2 : (n : Int) - 1 - k ≤ k := by omega
      clear hkn hlt
      go_wp2
      go_end0
      exact ⟨rfl, by have h := HR.out; rw [H.out] at h; exact h, HG.out⟩
/-- the rows 1, 3, .. of w numbers turned about: the first t of them -/
def snTo (l : List Int) (w : Nat) : Nat → List Int
  | 0 => l
  | t + 1 => rvTo (snTo l w t) ((2 * t + 1) * w) w (w / 2)
theorem snTo_length (l : List Int) (w : Nat) : ∀ t, (snTo l w t).length = l.length
  | 0 => rfl
  | t + 1 => by rw [snTo, rvTo_length, snTo_length l w t]
set_option maxHeartbeats 2000000 in
theorem snake_err (a b c : Int) (w : World) (hE : Ev (fun k => order_Rows.f k a b) ([], c)) (h0 : c ≠ 0) :
    Calls Try.prog 12 #[.int .i64 a, .int .i64 b] w fun e w' => e = .returned (.tuple #[.slice none 0 0, .int .i64 c]) ∧ Below w.heap.size w w' := by
  obtain ⟨k, hk⟩ := Ev.rounds hE
  have HK := Aside0.mk hk
  have hc := bne_iff_ne.mpr h0
  clear hE hk h0
  go_enter Try.func12, Try.ntmps12
  go_wp2_with (go_at_call 11; refine (order_Rows.calls k a b [] c _ HK.out).mono ?_; rintro e w1 ⟨v, rfl, hR, hb⟩)
  go_ret2
  exact ⟨rfl, hb⟩
set_option maxHeartbeats 4000000 in
theorem snake_ok (a b : Nat) (l : List Int) (w : World) (ha : 1 ≤ a) (hb : 1 ≤ b) (hab : l.length = a * b) (hl : l.length ≤ 65536) (ha2 : a ≤ 65536) (hb2 : b ≤ 65536) (hE : Ev (fun k => order_Rows.f k (a : Int) (b : Int)) (l, 0)) :
    Calls Try.prog 12 #[.int .i64 a, .int .i64 b] w fun e w' => ∃ v : Value, e = .returned (.tuple #[v, .int .i64 0]) ∧ Kd.R (Kd.int .i64) 3 w' w.heap.size (fun _ => True) v (snTo l a (b / 2)) ∧ Below w.heap.size w w' := by
  obtain ⟨k, hk⟩ := Ev.rounds hE
  have HK := Aside0.mk hk
  have HAB := Aside0.mk hab
  have hpos : 0 < l.length := by rw [hab]; exact Nat.mul_pos ha hb
  clear hE hk hab
  go_enter Try.func12, Try.ntmps12
  go_wp2_with (go_at_call 11; refine (order_Rows.calls k a b l 0 _ HK.out).mono ?_; rintro e w1 ⟨v, rfl, hR, hb1⟩; obtain ⟨g, cap, rfl, hbg, hgl, _⟩ := Kd.R_form hR hpos; have HR := Aside0.mk hR; have HB := Aside0.mk hb1; have hcap := (Kd.R_reads' hR).2.1; clear hR hb1)
  go_loopw [8] (fun y wr => ∃ t : Nat, t ≤ b / 2 ∧ y = .int .i64 ((2 * t + 1 : Nat) : Int) ∧ Aside0 (Kd.R (Kd.int .i64) 3 wr w.heap.size (fun _ => True) (.slice (some ⟨g, 0, none⟩) l.length cap) (snTo l a t)) ∧ Aside0 (Below w.heap.size w wr)) (fun y _ => b + 2 - (intOf y).toNat)
  case atStart => exact ⟨0, Nat.zero_le _, rfl, HR, HB⟩
  case round =>
    obtain ⟨t, ht, rfl, HRt, HBt⟩ := hrel
    obtain ⟨y, hy⟩ : ∃ y : Nat, 2 * t + 1 = y := ⟨_, rfl⟩
    rw [hy]
    by_cases hlt : y < b
    · have q1 : (y + 1) * a ≤ b * a := Nat.mul_le_mul_right a hlt
      have q2 : b * a = l.length := by rw [HAB.out, Nat.mul_comm]
      have q3 : (y + 1) * a = y * a + a := by rw [Nat.add_mul, Nat.one_mul]
      obtain ⟨p, hp⟩ : ∃ p : Nat, y * a = p := ⟨_, rfl⟩
      have hpl : p + a ≤ l.length := by omega
      have hya : (y : Int) * (a : Int) = (p : Int) := by rw [← hp]; simp
      have hrev := rev_mid (snTo l a t) g cap w.heap.size p a (cap - p) (fun _ => True) wr (by rw [snTo_length]; exact HRt.out) (by rw [snTo_length]; exact hpl) (by rw [snTo_length]; omega)
      have HRv := Aside0.mk hrev
      have HSn := Aside0.mk (show snTo l a (t + 1) = rvTo (snTo l a t) p a (a / 2) from by rw [snTo, hy, hp])
      have hlen := snTo_length l a t
      have HLn := Aside0.mk hlen
      clear q1 q2 q3 hp hrev hlen
      go_wp2_with (go_at_call 26; refine HRv.out.mono ?_; rintro e w5 ⟨rfl, hR5, hG5⟩)
      go_roundw
      case rel => exact ⟨t + 1, by omega, int_eq (by omega), ⟨by rw [HSn.out]; rw [HLn.out] at hR5; exact hR5⟩, ⟨Below.grown HBt.out hG5 HBt.out.size (fun j hj => by injection hj with hj; omega)⟩⟩
      case measure => simp [intOf]; omega
    · have htb : t = b / 2 := by omega
      have H := Aside0.mk htb
      have hge : (b : Int) ≤ (y : Int) := by omega
      clear htb hlt
      go_wp2
      go_ret2
      exact ⟨_, rfl, by have h := HRt.out; rw [H.out] at h; exact h, HBt.out⟩
end Go.Proofs.Ytjfegfhhgekcfaa.Gv
