/- package solve: a line of equations, and determinants. -/
import Derived.Test.YtpjfelbamcgnhaaOd
namespace Go.Proofs.Ytpjfelbamcgnhaa.Gv
open Go.RowKit Go.Proofs.Ytpjfelbamcgnhaa.X Go.Proofs.YtpjfelbamcgnhaaW.PrintWords Go.Proofs.YtpjfelbamcgnhaaW.PrintLast Pl Pa De
set_option linter.unusedVariables false
/-- a line of equations solved -/
def lineF (a b : List Int) : List Int × Int :=
  if sideOf a.length = 0 ∨ sideOf a.length ≠ b.length then ([], 14) else
  match elim invP (sideOf a.length) (sideOf a.length) 0 (ini (sideOf a.length) a b) 1 with
  | none => ([], 13)
  | some (F, _) => (tabTo (fun i => F i (sideOf a.length)) (sideOf a.length), 0)
theorem in_ini (n : Nat) (a b : List Int) : In n (ini n a b) := by
  intro i k _ _
  unfold ini
  split
  · exact ⟨of_nonneg _, of_lt _⟩
  · exact ⟨of_nonneg _, of_lt _⟩
set_option maxHeartbeats 8000000 in
theorem line_any (A0 : Option Addr) (c0 : Nat) (l0 : List Int) (A1 : Option Addr) (c1 : Nat) (l1 : List Int) (r1 : List Int) (r2 : Int) (w : World) (hr0 : (Kd.int .i64).C w A0 l0.length l0) (hc0 : l0.length ≤ c0) (hr1 : (Kd.int .i64).C w A1 l1.length l1) (hc1 : l1.length ≤ c1) (h : lineF l0 l1 = (r1, r2)) :
    Calls Try.prog 7 #[.slice A0 l0.length c0, .slice A1 l1.length c1] w fun e w' => ∃ v0_ : Value, e = .returned (.tuple #[v0_, .int .i64 r2]) ∧ (Kd.int .i64).R 3 w' w.heap.size (fun _ => True) v0_ r1 ∧ Below w.heap.size w w' := by
  unfold lineF at h
  obtain ⟨n, hn⟩ : ∃ n, sideOf l0.length = n := ⟨_, rfl⟩
  have HSd := Aside0.mk (Side_any A0 c0 l0.length w)
  rw [hn] at h HSd
  by_cases c : n = 0 ∨ n ≠ l1.length
  · rw [if_pos c] at h
    obtain ⟨rfl, rfl⟩ := Prod.mk.inj h
    clear h hr0 hr1 hn
    by_cases c2 : n = 0
    · have e1 : ((n : Int) == 0) = true := by rw [beq_iff_eq]; omega
      clear c c2
      go_enter Try.func7, Try.ntmps7
      go_wp2_with (go_at_call 24; refine HSd.out.mono ?_; rintro e w' ⟨rfl, rfl⟩)
      go_ret2
      exact ⟨_, rfl, Kd.R_nil _ _ _ _ _, Below.refl _ _⟩
    · have e1 : ((n : Int) == 0) = false := by rw [beq_eq_false_iff_ne]; omega
      have e2 : ((n : Int) == (l1.length : Int)) = false := by rw [beq_eq_false_iff_ne]; have := c.resolve_left c2; omega
      have e3 : ((n : Int) != (l1.length : Int)) = true := by rw [bne_iff_ne]; have := c.resolve_left c2; omega
      clear c c2
      go_enter Try.func7, Try.ntmps7
      go_wp2_with (go_at_call 24; refine HSd.out.mono ?_; rintro e w' ⟨rfl, rfl⟩)
      go_ret2
      exact ⟨_, rfl, Kd.R_nil _ _ _ _ _, Below.refl _ _⟩
  · rw [if_neg c] at h
    have hn1 : 1 ≤ n := by omega
    have hl1 : l1.length = n := by omega
    have hn12 : n ≤ 12 := by rw [← hn]; exact sideOf_range _
    have hsq : n * n = l0.length := by rw [← hn]; exact sideOf_sq _ (by omega)
    have hpos : 1 ≤ n * n := Nat.mul_pos hn1 hn1
    obtain ⟨ada, rfl, -⟩ := Kd.at_int hr0 0 (by omega) (by omega)
    have HLy := Aside0.mk (lay_any ada c0 l0 A1 c1 l1 n w hr0 hc0 hr1 hn hl1 hn1)
    have HIn := Aside0.mk (in_ini n l0 l1)
    have e1 : ((n : Int) == 0) = false := by rw [beq_eq_false_iff_ne]; omega
    have e2 : ((n : Int) == (l1.length : Int)) = true := by rw [beq_iff_eq]; omega
    have e3 : ((n : Int) != (l1.length : Int)) = false := by rw [bne_eq_false_iff_eq]; omega
    clear c hr0 hr1 hn hsq hpos hc0 hc1 hl1
    obtain ⟨o, ho⟩ : ∃ o, elim invP n n 0 (ini n l0 l1) 1 = o := ⟨_, rfl⟩
    rw [ho] at h
    have HO := Aside0.mk ho
    clear ho
    cases o with
    | none =>
      obtain ⟨rfl, rfl⟩ := Prod.mk.inj h
      clear h
      go_enter Try.func7, Try.ntmps7
      go_wp2_with (first
        | (go_at_call 24; refine HSd.out.mono ?_; rintro e w' ⟨rfl, rfl⟩)
        | (go_at_call 25; refine HLy.out.mono ?_; rintro e w1 ⟨g, L, rs, cp, rfl, hT, hb⟩; have HT := Aside0.mk hT; have HB := Aside0.mk hb; clear hT hb)
        | (go_at_call 26; refine (eliminate_any _ g L n (n + 1) rs cp _ 1 w w1 (Nat.le_refl _) HT.out HB.out hn12 HIn.out).mono ?_; rw [HO.out]; rintro e w2 ⟨rfl, -, hb2⟩; have HB2 := Aside0.mk hb2; clear hb2))
      go_ret2
      exact ⟨_, rfl, Kd.R_nil _ _ _ _ _, HB2.out⟩
    | some Fe =>
      obtain ⟨F, e0⟩ := Fe
      obtain ⟨rfl, rfl⟩ := Prod.mk.inj h
      clear h
      go_enter Try.func7, Try.ntmps7
      go_wp2_with (first
        | (go_at_call 24; refine HSd.out.mono ?_; rintro e w' ⟨rfl, rfl⟩)
        | (go_at_call 25; refine HLy.out.mono ?_; rintro e w1 ⟨g, L, rs, cp, rfl, hT, hb⟩; have HT := Aside0.mk hT; have HB := Aside0.mk hb; clear hT hb)
        | (go_at_call 26; refine (eliminate_any _ g L n (n + 1) rs cp _ 1 w w1 (Nat.le_refl _) HT.out HB.out hn12 HIn.out).mono ?_; rw [HO.out]; rintro e w2 ⟨rfl, hex, hb2⟩; obtain ⟨rs2, cp2, hT2⟩ := hex F e0 rfl; have HT2 := Aside0.mk hT2; have HB2 := Aside0.mk hb2; obtain ⟨cap2, d0, d1, -, -⟩ := hT2.cells; clear hb2 hex hT2))
      go_loopw [8, 32] (fun v c' wr => ∃ k : Nat, k ≤ n ∧ .int .i64 (k : Int) = c' ∧ Aside0 (wr.ownsRow w2.heap.size 3 1 v (tabTo (fun j => F j n) k).length (nums .i64 (tabTo (fun j => F j n) k))) ∧ Aside0 (Below w2.heap.size w2 wr)) (fun _ c' _ => n - (intOf c').toNat)
      case atStart => exact ⟨0, Nat.zero_le _, rfl, ⟨by simpa [tabTo, nums] using own_nil _ _ _ _⟩, ⟨Below.refl _ _⟩⟩
      case round =>
        obtain ⟨k, hk, rfl, ho, hb⟩ := hrel
        by_cases hlt : k < n
        · have hT3 := HT2.out.below hb.out
          obtain ⟨cap3, g0, g1, -, -⟩ := hT3.cells
          obtain ⟨l0', -⟩ := hT3.rowCell k hlt
          have l1' := hT3.num k n hlt (Nat.lt_succ_self n)
          have z0 : (0 : Int) ≤ (k : Int) := by omega
          have z1 : (k : Int) < (n : Int) := by omega
          have y0 : (0 : Int) ≤ (n : Int) := by omega
          have HTS := Aside0.mk (tabTo_succ (fun j => F j n) k)
          obtain ⟨x, hx⟩ : ∃ x, F k n = x := ⟨_, rfl⟩
          rw [hx] at l1'
          have HX := Aside0.mk hx
          clear hx hT3
          go_wp2_with (at_builtin; refine print_append_num (w0 := w2) w2.heap.size rfl (.tmp 36) (.tmp 44) 22 3 .i64 8 rfl Try.underlying22 info3 (by decide) _ (tabTo (fun j => F j n) k) x rfl rfl ho.out hb.out hb.out.size (by rw [tabTo_length]; omega) ?_; intro v1 w4 ho4 hb4 hg4 hat4; have HO4 := Aside0.mk ho4; have HB4 := Aside0.mk hb4; clear ho4 hb4 hg4 hat4)
          go_roundw
          case rel => exact ⟨k + 1, by omega, by go_num, ⟨by rw [HTS.out, HX.out]; exact HO4.out⟩, HB4⟩
          case measure => simp [intOf]; omega
        · have hkn : k = n := by omega
          have HE := Aside0.mk hkn
          clear hkn
          go_wp2
          go_ret2
          have h9 := ho.out
          rw [HE.out] at h9
          exact ⟨_, rfl, Kd.R_of_own (own_weaken h9 HB2.out.size) (fun _ _ => trivial), below_then HB2.out HB2.out.size hb.out⟩
theorem madeD_ints (n : Nat) (hn : n ≤ 1000000) (W : World) :
    (Instr.makeSlice 22 (.int .i64 (n : Int)) (.int .i64 (n : Int))).run Try.prog W = .ok (.slice (some ⟨W.heap.size, 0, none⟩) n n) (W.alloc (.cells (madeCells #[.int .i64 0] n) 3)) :=
  run_make_row' (P := Try.prog) 22 3 (.int .i64 0) 8 Try.underlying22 info3 rfl .i64 .i64 n (by omega) (by omega) W
theorem madeD_owns (n : Nat) (hn : n ≤ 1000000) (W : World) (base : Nat) (hb : base ≤ W.heap.size) :
    Kd.R (Kd.int .i64) 3 (W.alloc (.cells (madeCells #[.int .i64 0] n) 3)) base (fun _ => True) (.slice (some ⟨W.heap.size, 0, none⟩) n n) (List.replicate n 0) := by
  obtain ⟨i0, hi, hzz⟩ := Option.map_eq_some_iff.1 info3
  simp only [Prod.mk.injEq] at hzz
  obtain ⟨hz0, hz1, hz2⟩ := hzz
  obtain ⟨w', hr, ho, _⟩ := run_make_full (P := Try.prog) W base 22 3 i0 (.int .i64 0) 1 Try.underlying22 hi hz0 hz1 .i64 .i64 n (by rw [hz2]; omega) (by unfold maxLen; omega) hb
  rw [madeD_ints n hn W] at hr
  injection hr with _ hw
  subst hw
  refine Kd.R_of_own ?_ (fun _ _ => trivial)
  rw [List.length_replicate]
  have e : (madeCells (Value.int .i64 0).cells (n * 1)).toList = encs (Value.int .i64) (List.replicate n 0) := by
    apply List.ext_getElem
    · simp [madeCells, encs]
    · intro i h1 h2
      simp [madeCells, encs, Value.cells, Nat.mod_one]
  rw [← e]
  exact ho
/-- a determinant, by elimination -/
def detF (a : List Int) : Int × Int :=
  if sideOf a.length = 0 then (0, 14) else
  match elim invP (sideOf a.length) (sideOf a.length) 0 (ini (sideOf a.length) a (List.replicate (sideOf a.length) 0)) 1 with
  | none => (0, 0)
  | some (_, e) => (e, 0)
set_option maxHeartbeats 8000000 in
theorem det_any (A0 : Option Addr) (c0 : Nat) (l0 : List Int) (r1 : Int) (r2 : Int) (w : World) (hr0 : (Kd.int .i64).C w A0 l0.length l0) (hc0 : l0.length ≤ c0) (h : detF l0 = (r1, r2)) :
    Calls Try.prog 8 #[.slice A0 l0.length c0] w fun e w' => e = .returned (.tuple #[.int .i64 r1, .int .i64 r2]) ∧ Below w.heap.size w w' := by
  unfold detF at h
  obtain ⟨n, hn⟩ : ∃ n, sideOf l0.length = n := ⟨_, rfl⟩
  have HSd := Aside0.mk (Side_any A0 c0 l0.length w)
  rw [hn] at h HSd
  by_cases c : n = 0
  · rw [if_pos c] at h
    obtain ⟨rfl, rfl⟩ := Prod.mk.inj h
    have e1 : ((n : Int) == 0) = true := by rw [beq_iff_eq]; omega
    clear h hr0 hn c
    go_enter Try.func8, Try.ntmps8
    go_wp2_with (go_at_call 24; refine HSd.out.mono ?_; rintro e w' ⟨rfl, rfl⟩)
    go_ret2
    exact ⟨rfl, Below.refl _ _⟩
  · rw [if_neg c] at h
    have hn1 : 1 ≤ n := by omega
    have hn12 : n ≤ 12 := by rw [← hn]; exact sideOf_range _
    have hsq : n * n = l0.length := by rw [← hn]; exact sideOf_sq _ (by omega)
    have hpos : 1 ≤ n * n := Nat.mul_pos hn1 hn1
    obtain ⟨ada, rfl, -⟩ := Kd.at_int hr0 0 (by omega) (by omega)
    have hA := alloc_b w (.cells (madeCells #[.int .i64 0] n) 3)
    have hZ := (Kd.R_reads' (madeD_owns n (by omega) w w.heap.size (Nat.le_refl _))).2.2
    have hly := lay_any ada c0 l0 (some ⟨w.heap.size, 0, none⟩) n (List.replicate n 0) n _ (Kd.C_below hr0 hA) hc0 hZ hn List.length_replicate hn1
    rw [List.length_replicate] at hly
    have HLy := Aside0.mk hly
    have HA := Aside0.mk hA
    have HIn := Aside0.mk (in_ini n l0 (List.replicate n 0))
    have hmk := madeD_ints n (by omega)
    have e1 : ((n : Int) == 0) = false := by rw [beq_eq_false_iff_ne]; omega
    clear c hr0 hn hsq hpos hc0 hA hZ hly
    obtain ⟨o, ho⟩ : ∃ o, elim invP n n 0 (ini n l0 (List.replicate n 0)) 1 = o := ⟨_, rfl⟩
    rw [ho] at h
    have HO := Aside0.mk ho
    clear ho
    cases o with
    | none =>
      obtain ⟨rfl, rfl⟩ := Prod.mk.inj h
      clear h
      go_enter Try.func8, Try.ntmps8
      go_wp2_with (first
        | (go_at_call 24; refine HSd.out.mono ?_; rintro e w' ⟨rfl, rfl⟩)
        | (go_at_call 25; refine HLy.out.mono ?_; rintro e w1 ⟨g, L, rs, cp, rfl, hT, hb⟩; have HT := Aside0.mk hT; have HB := Aside0.mk hb; clear hT hb)
        | (go_at_call 26; refine (eliminate_any _ g L n (n + 1) rs cp _ 1 _ w1 (Nat.le_refl _) HT.out HB.out hn12 HIn.out).mono ?_; rw [HO.out]; rintro e w2 ⟨rfl, -, hb2⟩; have HB2 := Aside0.mk hb2; clear hb2))
      go_ret2
      exact ⟨rfl, below_then HA.out HA.out.size HB2.out⟩
    | some Fe =>
      obtain ⟨F, e0⟩ := Fe
      obtain ⟨rfl, rfl⟩ := Prod.mk.inj h
      clear h
      go_enter Try.func8, Try.ntmps8
      go_wp2_with (first
        | (go_at_call 24; refine HSd.out.mono ?_; rintro e w' ⟨rfl, rfl⟩)
        | (go_at_call 25; refine HLy.out.mono ?_; rintro e w1 ⟨g, L, rs, cp, rfl, hT, hb⟩; have HT := Aside0.mk hT; have HB := Aside0.mk hb; clear hT hb)
        | (go_at_call 26; refine (eliminate_any _ g L n (n + 1) rs cp _ 1 _ w1 (Nat.le_refl _) HT.out HB.out hn12 HIn.out).mono ?_; rw [HO.out]; rintro e w2 ⟨rfl, hex, hb2⟩; obtain ⟨rs2, cp2, hT2⟩ := hex F e0 rfl; have HB2 := Aside0.mk hb2; obtain ⟨cap2, d0, d1, d2, -⟩ := hT2.cells; clear hb2 hex hT2))
      go_ret2
      exact ⟨rfl, below_then HA.out HA.out.size HB2.out⟩
end Go.Proofs.Ytpjfelbamcgnhaa.Gv
