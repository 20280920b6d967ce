/- package pcg: Fill, by hand. -/
import Derived.Test.YtnliiljnddjbcaaHe
namespace Go.Proofs.Ytnliiljnddjbcaa.Gv
open Go.RowKit Go.Proofs.Ytnliiljnddjbcaa.X Go.Proofs.YtnliiljnddjbcaaW.PrintWords Go.Proofs.YtnliiljnddjbcaaW.PrintLast
theorem infoF : (Try.prog.info? 37).map (fun i => (i.zero, i.size, i.bytes)) = some (some (.float .f64 0), 1, 8) := by kernel_rfl
/-- the first k draws -/
def drs (s c : Int) : Nat → List Nat
  | 0 => []
  | k + 1 => drs s c k ++ [dr (nxt (its s c k))]
theorem drs_length (s c : Int) : ∀ k, (drs s c k).length = k
  | 0 => rfl
  | k + 1 => by rw [drs, List.length_append, drs_length s c k]; rfl
theorem drs_getD (s c : Int) (i : Nat) : ∀ k, i < k → (drs s c k).getD i 0 = dr (nxt (its s c i))
  | k + 1, h => by
    have hl := drs_length s c k
    rw [drs]
    by_cases e : i = k
    · subst e
      simp [List.getD_eq_getElem?_getD, hl]
    · rw [← drs_getD s c i k (by omega)]
      simp only [List.getD_eq_getElem?_getD]
      rw [List.getElem?_append_left (by omega)]
set_option maxHeartbeats 2000000 in
theorem fill_range (a d n : Int) (w : World) (hn : n < 0 ∨ 4194304 < n) :
    Calls Try.prog 10 #[.int .u64 a, .int .u64 d, .int .i64 n] w fun e w' => e = .returned (.tuple #[.slice none 0 0, .int .i64 3]) ∧ w = w' := by
  by_cases c : n < 0
  · clear hn
    go_enter Try.func10, Try.ntmps10
    go_wp2
    go_ret2
    exact ⟨rfl, rfl⟩
  · have h : 4194304 < n := by omega
    clear hn
    go_enter Try.func10, Try.ntmps10
    go_wp2
    go_ret2
    exact ⟨rfl, rfl⟩
set_option maxHeartbeats 8000000 in
set_option maxRecDepth 100000 in
theorem fill_ok (a d : Int) (n : Nat) (s c : Int) (hs : sst a d = s) (hc : cst d = c) (w : World) (hn : n ≤ 4194304) :
    Calls Try.prog 10 #[.int .u64 a, .int .u64 d, .int .i64 n] w fun e w' => ∃ v : Value, e = .returned (.tuple #[v, .int .i64 0]) ∧ FK.R 37 w' w.heap.size (fun _ => True) v (drs s c n) ∧ Below w.heap.size w w' := by
  have hsr : 0 ≤ s ∧ s < 18446744073709551616 := by rw [← hs]; exact sst_in _ _
  have Hs := Aside0.mk hs
  have Hc := Aside0.mk hc
  have z0 : (n : Int) ≤ 4194304 := by omega
  clear hs hc
  go_enter Try.func10, Try.ntmps10
  go_wp2_with (go_at_call 5; refine (new_any a d _).mono ?_; rintro x w1 ⟨g, rfl, hg0, hG1, hb1⟩; rw [Hs.out, Hc.out] at hG1; have HG1 := Aside0.mk hG1; have HB1 := Aside0.mk hb1; clear hG1 hb1)
  have hgl : g < w1.heap.size := HG1.out.lt
  go_loopw [9, 20] (fun y i wr => ∃ (k : Nat) (v : Value), k ≤ n ∧ v = y ∧ i = .int .i64 (k : Int) ∧ Aside0 (FK.R 37 wr w1.heap.size (fun q => q ≠ g) v (drs s c k)) ∧ Aside0 (Gn wr 45 g (its s c k) c) ∧ Aside0 (Below w.heap.size w wr) ∧ Aside0 (w1.heap.size ≤ wr.heap.size)) (fun _ i _ => n - (intOf i).toNat)
  case atStart => exact ⟨0, _, Nat.zero_le _, rfl, rfl, ⟨Kd.R_nil _ _ _ _ _⟩, HG1, HB1, ⟨Nat.le_refl _⟩⟩
  case round =>
    obtain ⟨k, v, hk, rfl, rfl, HO, HG, HB, HS⟩ := hrel
    by_cases hkn : k < n
    · have z1 : (k : Int) < (n : Int) := by omega
      obtain ⟨m0, m1⟩ := its_in (c := c) hsr.1 hsr.2 k
      have HD := Aside0.mk (show drs s c (k + 1) = drs s c k ++ [dr (nxt (its s c k))] from rfl)
      have HF := Aside0.mk (fun W hW => float_any g (its s c k) c m0 m1 W hW)
      have HSt := Aside0.mk (show its s c (k + 1) = stp (its s c k) c from rfl)
      have HLn := Aside0.mk (drs_length s c k)
      generalize dr (nxt (its s c k)) = y at *
      generalize drs s c k = ys at *
      go_wp2_with (first
        | (go_at_call 14; refine (HF.out _ HG.out).mono ?_; rintro x w3 ⟨rfl, hG3, hg3⟩; have HG3 := Aside0.mk hG3; have HO3 := Aside0.mk (Kd.R_grown HO.out hg3 (fun q hq e0 => by injection e0 with e0; exact hq e0)); have HB3 := Aside0.mk (grown_below HB.out hg3 HB.out.size hg0); have HS3 := Aside0.mk (Nat.le_trans HS.out hg3.size); clear hG3 hg3)
        | ((with_reducible refine gate_builtin (b := .append) (xs := #[.tmp 22, .tmp 25]) rfl ?_); at_builtin; refine Kd.R_append FK (w0 := w3) w1.heap.size rfl (.tmp 22) (.tmp 25) 33 37 (.float .f64 0) 8 rfl Try.underlying33 infoF rfl (by decide) (by omega) v ys y [.float .f64 y] (fun q => q ≠ g) (fun _ => False) rfl rfl ?aP (fun _ hk => hk.elim) ?aF ?aO ?aB ?aS ?aL ?_; (case aP => exact rfl); (case aF => exact fun q hq => by have h := HS3.out; omega); (case aO => exact HO3.out); (case aB => exact Below.refl _ _); (case aS => exact HS3.out); (case aL => have h := HLn.out; omega); intro v1 w5 ho5 hb5 hg5 hat5; have HO5 := Aside0.mk ho5; have HG5 := Aside0.mk ((hb5.block g hgl).trans HG3.out); have HB5 := Aside0.mk (Below.trans HB3.out (Below.mono hb5 HB1.out.size)); have HS5 := Aside0.mk (Nat.le_trans HS3.out hb5.size); clear ho5 hb5 hg5 hat5))
      go_roundw
      case rel => exact ⟨k + 1, v1, by omega, rfl, by go_num, ⟨by rw [HD.out]; exact HO5.out⟩, ⟨by rw [HSt.out]; exact HG5.out⟩, HB5, HS5⟩
      case measure => simp [intOf]; omega
    · have hke : k = n := by omega
      have HK := Aside0.mk (show drs s c k = drs s c n by rw [hke])
      clear hke
      go_wp2
      go_ret2
      exact ⟨_, rfl, by have h := HO.out; rw [HK.out] at h; exact Kd.R_mono (Kd.R_lower h HB1.out.size) (fun _ _ => trivial), HB.out⟩
end Go.Proofs.Ytnliiljnddjbcaa.Gv
