/- Contracts of package matrix's functions that take or make function values. -/
import Derived.Test.YtpjfelbamcgnhaaGa
import Derived.Deep.RegionHeld3
import Derived.BigQuiet
import Derived.Handy
import Derived.RegionTactic
import Derived.OwnWalk
namespace Go.Proofs.Ytpjfelbamcgnhaa.Gv
open Go.RowKit Go.Proofs.YtpjfelbamcgnhaaW.PrintWords Pl


set_option maxHeartbeats 1000000 in
theorem subc_any (n i j la lb ca cb : Nat) (x y : Int) (pa pb ada adb : Addr) (w : World)
    (hpa : w.cell? pa = some (.slice (some ada) la ca)) (hpb : w.cell? pb = some (.slice (some adb) lb cb))
    (hx : w.cell? (ada.add (i * n + j)) = some (.int .i64 x)) (hy : w.cell? (adb.add (i * n + j)) = some (.int .i64 y))
    (hi0 : 0 ≤ (i : Int) * n) (hi1 : (i : Int) * n ≤ 1000) (hj : j ≤ 1000) (hla : (i : Int) * n + j < la) (hlb : (i : Int) * n + j < lb) :
    Calls Try.prog 43 #[.int .i64 n, .int .i64 i, .int .i64 j, .pointer (some pa), .pointer (some pb)] w fun e w' => e = .returned (.int .i64 (of (x - y))) ∧ Below w.heap.size w w' := by
  have e1 : IntKind.i64.wrap ((i : Int) * n) = (i : Int) * n := IntWalk.i64_in _ (by omega)
  have e2 : IntKind.i64.wrap ((i : Int) * n + j) = (i : Int) * n + j := IntWalk.i64_in _ (by omega)
  have e3 : ((i : Int) * n + j).toNat = i * n + j := by
    rw [show (i : Int) * n + j = ((i * n + j : Nat) : Int) from by simp]; rfl
  have e4 : 0 ≤ (i : Int) * n + j := by omega
  go_enter Try.func43, Try.ntmps43
  go_wp2
  go_region_held3 (fun w' => w'.cell? pa = some (.slice (some ada) la ca) ∧ w'.cell? pb = some (.slice (some adb) lb cb) ∧ w'.cell? (ada.add (i * n + j)) = some (.int .i64 x) ∧ w'.cell? (adb.add (i * n + j)) = some (.int .i64 y)) (go_keep)
    (first | (go_at_call 44; refine (sub_any x y _).mono ?_; rintro e w' ⟨rfl, rfl⟩))
  go_wp2
  go_ret
  exact ⟨rfl, (Below.refl _ _).drew⟩


/-- the side of a table of so many numbers; 0: it is none -/
def sideFrom (N : Nat) : Nat → Nat → Nat
  | 0, _ => 0
  | f + 1, m => if m * m = N then m else sideFrom N f (m + 1)
def sideOf (N : Nat) : Nat := sideFrom N 12 1
theorem sideOf_range (N : Nat) : sideOf N ≤ 12 := by
  have key : ∀ f m, f + m ≤ 13 → sideFrom N f m ≤ 12 := by
    intro f
    induction f with
    | zero => intro m _; simp [sideFrom]
    | succ f ih => intro m h; unfold sideFrom; split; omega; exact ih _ (by omega)
  exact key 12 1 (by omega)
theorem sideOf_sq (N : Nat) : sideOf N ≠ 0 → sideOf N * sideOf N = N := by
  have key : ∀ f m, sideFrom N f m ≠ 0 → sideFrom N f m * sideFrom N f m = N := by
    intro f
    induction f with
    | zero => intro m h; simp [sideFrom] at h
    | succ f ih => intro m; unfold sideFrom; split; · intro _; assumption
                   · exact ih _
  exact key 12 1
set_option maxHeartbeats 1000000 in
theorem Side_any (A : Option Addr) (c N : Nat) (w : World) : Calls Try.prog 24 #[.slice A N c] w fun e w' => e = .returned (.int .i64 (sideOf N)) ∧ w = w' := by
  go_enter Try.func24, Try.ntmps24
  go_wp2
  go_loop [3] (fun i => ∃ f m : Nat, f + m = 13 ∧ i = .int .i64 m ∧ Aside0 (sideOf N = sideFrom N f m)) (fun i => 13 - (intOf i).toNat)
  case atStart => exact ⟨12, 1, rfl, rfl, ⟨rfl⟩⟩
  case round =>
    obtain ⟨f, m, hfm, rfl, hs⟩ := hrel
    have hfm1 : f + m ≤ 13 := by omega
    have hfm2 : 13 ≤ f + m := by omega
    clear hfm
    have q0 : 0 ≤ (m : Int) * m := Int.mul_nonneg (by omega) (by omega)
    have q1 : (m : Int) * m ≤ 13 * 13 := Int.mul_le_mul (by omega) (by omega) (by omega) (by omega)
    have HS := hs.out
    cases f with
    | zero =>
      have hm : ¬ (m : Int) ≤ 12 := by omega
      have H := Aside0.mk (show sideOf N = 0 from HS)
      clear HS hs
      go_wp2
      go_ret
      exact ⟨ret_i (by rw [H.out]; rfl), rfl⟩
    | succ f =>
      have hm : (m : Int) ≤ 12 := by omega
      rw [sideFrom] at HS
      by_cases e : m * m = N
      · rw [if_pos e] at HS
        have H := Aside0.mk HS
        have e1 : ((m : Int) * m == N) = true := by simp; exact_mod_cast e
        clear HS hs e
        go_wp2
        go_ret
        exact ⟨ret_i (by rw [H.out]), rfl⟩
      · rw [if_neg e] at HS
        have H := Aside0.mk HS
        have e1 : ((m : Int) * m == N) = false := by simp; exact_mod_cast e
        clear HS hs e
        go_wp2
        go_round
        case rel => exact ⟨f, m + 1, by omega, by go_num, H⟩
        case measure => simp [intOf]; omega

theorem both_zero (A B : Option Addr) (ca cb la lb : Nat) (w : World) (h : sideOf la = 0) :
    Calls Try.prog 52 #[.slice A la ca, .slice B lb cb] w fun e w' => e = .returned (.tuple #[.int .i64 0, .int .i64 14]) ∧ Below w.heap.size w w' := by
  have c1 : ((sideOf la : Int) == 0) = true := by simp [h]
  clear h
  go_enter Try.func52, Try.ntmps52
  go_wp2_with (first | (go_at_call 24; refine (Side_any _ _ _ _).mono ?_; rintro e w' ⟨rfl, rfl⟩))
  go_ret2
  exact ⟨rfl, by go_grown⟩
theorem both_ne (A B : Option Addr) (ca cb la lb : Nat) (w : World) (h : sideOf la ≠ 0) (h2 : sideOf la ≠ sideOf lb) :
    Calls Try.prog 52 #[.slice A la ca, .slice B lb cb] w fun e w' => e = .returned (.tuple #[.int .i64 0, .int .i64 14]) ∧ Below w.heap.size w w' := by
  have c1 : ((sideOf la : Int) == 0) = false := by simp [h]
  have c2 : ((sideOf la : Int) != (sideOf lb : Int)) = true := by simp; exact_mod_cast h2
  clear h h2
  go_enter Try.func52, Try.ntmps52
  go_wp2_with (first | (go_at_call 24; refine (Side_any _ _ _ _).mono ?_; rintro e w' ⟨rfl, rfl⟩))
  go_ret2
  exact ⟨rfl, by go_grown⟩
theorem both_yes (A B : Option Addr) (ca cb la lb : Nat) (w : World) (h : sideOf la ≠ 0) (h2 : sideOf la = sideOf lb) :
    Calls Try.prog 52 #[.slice A la ca, .slice B lb cb] w fun e w' => e = .returned (.tuple #[.int .i64 (sideOf la), .int .i64 0]) ∧ Below w.heap.size w w' := by
  have c1 : ((sideOf la : Int) == 0) = false := by simp [h]
  have c2 : ((sideOf la : Int) != (sideOf lb : Int)) = false := by simp; exact_mod_cast h2
  clear h h2
  go_enter Try.func52, Try.ntmps52
  go_wp2_with (first | (go_at_call 24; refine (Side_any _ _ _ _).mono ?_; rintro e w' ⟨rfl, rfl⟩))
  go_ret2
  exact ⟨rfl, by go_grown⟩
def mulTo (a b : List Int) (n i j : Nat) : Nat → Int
  | 0 => 0
  | k + 1 => of (mulTo a b n i j k + of (a.getD (i * n + k) 0 * b.getD (k * n + j) 0))
theorem lt_sq {n i j : Nat} (hi : i < n) (hj : j < n) : i * n + j < n * n := by
  have : i * n + n ≤ n * n := by rw [← Nat.succ_mul]; exact Nat.mul_le_mul_right n hi
  omega
theorem info3 : (Try.prog.info? 3).map (fun i => (i.zero, i.size, i.bytes)) = some (some (.int .i64 0), 1, 8) := by kernel_rfl
/-- the first m of a table's numbers -/
def tabTo (F : Nat → Int) (m : Nat) : List Int := (List.range m).map F
theorem tabTo_length (F : Nat → Int) (m : Nat) : (tabTo F m).length = m := by simp [tabTo]
theorem tabTo_succ (F : Nat → Int) (m : Nat) : tabTo F (m + 1) = tabTo F m ++ [F m] := by simp [tabTo, List.range_succ]



set_option maxHeartbeats 4000000 in
theorem each_97 (F : Nat → Int) (n : Nat) (A B : Option Addr) (la lb ca cb : Nat) (pa pb : Addr) (w : World)
    (hs1 : sideOf la = n) (hs2 : sideOf lb = n) (hn : 0 < n)
    (hclos : ∀ (W : World) (i j : Nat), i < n → j < n → Below w.heap.size w W → Calls Try.prog 43 #[.int .i64 n, .int .i64 i, .int .i64 j, .pointer (some pa), .pointer (some pb)] W fun e W' => e = .returned (.int .i64 (F (i * n + j))) ∧ Below W.heap.size W W') :
    Calls Try.prog 42 #[.slice A la ca, .slice B lb cb, .func (.func 43) #[] #[.pointer (some pa), .pointer (some pb)]] w fun e w' => ∃ v : Value, e = .returned (.tuple #[v, .int .i64 0]) ∧ w'.ownsRow w.heap.size 3 1 v (tabTo F (n * n)).length (nums .i64 (tabTo F (n * n))) ∧ Below w.heap.size w w' := by
  have hn12 : n ≤ 12 := by rw [← hs1]; exact sideOf_range la
  have HC := Aside0.mk hclos
  clear hclos
  have hb0 := both_yes A B ca cb la lb w (by omega) (by omega)
  rw [hs1] at hb0
  have HB0 := Aside0.mk hb0
  clear hb0
  clear hs1 hs2
  go_enter Try.func42, Try.ntmps42
  go_wp2_with (first | (go_at_call 52; refine HB0.out.mono ?_; rintro e w1 ⟨rfl, hb1⟩))
  have hz1 := hb1.size
  go_loopw [10, 23] (fun v c wr => ∃ k : Nat, k ≤ n ∧ c = .int .i64 k ∧ Aside0 (wr.ownsRow w.heap.size 3 1 v (tabTo F (k * n)).length (nums .i64 (tabTo F (k * n)))) ∧ Below w.heap.size w wr) (fun _ c _ => n - (intOf c).toNat)
  case atStart => exact ⟨0, Nat.zero_le _, rfl, ⟨by simpa [tabTo, nums] using own_nil _ _ _ _⟩, hb1⟩
  case round =>
    obtain ⟨k, hk, rfl, ho, hb⟩ := hrel
    obtain ⟨wo, rfl⟩ : ∃ wo : World, wo = wr := ⟨_, rfl⟩
    by_cases hlt : k < n
    · go_wp2
      go_loopw [10, 27] (fun v c wr => ∃ m : Nat, m ≤ n ∧ c = .int .i64 m ∧ Aside0 (wr.ownsRow w.heap.size 3 1 v (tabTo F (k * n + m)).length (nums .i64 (tabTo F (k * n + m)))) ∧ Below w.heap.size w wr) (fun _ c _ => n - (intOf c).toNat)
      case atStart => exact ⟨0, Nat.zero_le _, rfl, ho, hb⟩
      case round =>
        obtain ⟨m, hm, rfl, ho2, hb2⟩ := hrel
        by_cases hlt2 : m < n
        · have q1 : k * n + m ≤ 1000 := by
            have : k * n ≤ 12 * 12 := Nat.mul_le_mul (by omega) (by omega)
            omega
          go_wp2_with (first | (go_at_call 43; refine (HC.out _ k m hlt hlt2 hb2).mono ?_; rintro e w3 ⟨rfl, hb3⟩) | (at_builtin; refine print_append_num (w0 := w) w.heap.size rfl (.tmp 30) (.tmp 36) 22 3 .i64 8 rfl Try.underlying22 info3 (by decide) u10 (tabTo F (k * n + m)) (F (k * n + m)) rfl rfl ?aO ?aB ?aS ?aL ?_))
          case aO => exact pw_own_below ho2.out hb3
          case aB => exact below_then hb2 hb2.size hb3
          case aS => have := hb2.size; have := hb3.size; omega
          case aL => rw [tabTo_length]; omega
          intro v1 w4 ho4 hb4 hg4 hat4
          clear hg4 hat4
          go_wp2
          go_roundw
          case rel => exact ⟨m + 1, by omega, by go_num, ⟨by rw [← Nat.add_assoc, tabTo_succ, List.length_append]; exact ho4⟩, hb4⟩
          case measure => simp [intOf]; omega
        · have hmn : m = n := by omega
          have H := Aside0.mk hmn
          clear hmn
          go_wp2
          go_roundw
          case rel => exact ⟨k + 1, by omega, by go_num, ⟨by rw [Nat.succ_mul]; rw [H.out] at ho2; exact ho2.out⟩, hb2⟩
          case measure => simp [intOf]; omega
    · have hkn : k = n := by omega
      have H := Aside0.mk hkn
      clear hkn
      go_wp2
      go_ret2
      exact ⟨_, rfl, by have h := ho.out; rw [H.out] at h; exact h, hb⟩
theorem each_err (G : Value) (A B : Option Addr) (la lb ca cb : Nat) (w : World) (h : sideOf la = 0 ∨ sideOf la ≠ sideOf lb) :
    Calls Try.prog 42 #[.slice A la ca, .slice B lb cb, G] w fun e w' => e = .returned (.tuple #[.slice none 0 0, .int .i64 14]) ∧ Below w.heap.size w w' := by
  have hb0 : Calls Try.prog 52 #[.slice A la ca, .slice B lb cb] w fun e w' => e = .returned (.tuple #[.int .i64 0, .int .i64 14]) ∧ Below w.heap.size w w' := by
    by_cases h0 : sideOf la = 0
    · exact both_zero A B ca cb la lb w h0
    · exact both_ne A B ca cb la lb w h0 (h.resolve_left h0)
  have HB0 := Aside0.mk hb0
  clear hb0 h
  go_enter Try.func42, Try.ntmps42
  go_wp2_with (first | (go_at_call 52; refine HB0.out.mono ?_; rintro e w1 ⟨rfl, hb1⟩))
  go_ret2
  exact ⟨rfl, hb1⟩
end Go.Proofs.Ytpjfelbamcgnhaa.Gv
