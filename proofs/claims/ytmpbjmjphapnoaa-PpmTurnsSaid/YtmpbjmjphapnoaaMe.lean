/- Encoding told and read back: plain. -/
import Derived.Test.YtmpbjmjphapnoaaMd
namespace Go.Proofs.Ytmpbjmjphapnoaa.Gv
open Go.RowKit Go.Proofs.Ytmpbjmjphapnoaa.X Go.Proofs.YtmpbjmjphapnoaaW.PrintWords Go.Proofs.YtmpbjmjphapnoaaW.PrintLast Go.Proofs.YtmpbjmjphapnoaaW.PrintMore Pe
set_option linter.unusedVariables false
/-- a raster's bytes -/
def encL (w h : Nat) (r : List UInt8) : List UInt8 := [80, 54, 10] ++ (dg w ++ 32 :: (dg h ++ 10 :: ([50, 53, 53] ++ 10 :: r)))
def byt (l : List Int) : List UInt8 := l.map fun n => UInt8.ofNat n.toNat
theorem str_byt (l : List Int) : strOfNums l = B (byt l) := rfl
theorem awake_ev : Ev (fun k => penumbralaw44_awake.f k) true := Ev.of (fun k => penumbralaw44_awake.mono k) (k := 12) (by decide +kernel)
theorem B_lit (l : List UInt8) : (⟨l.toArray⟩ : ByteArray) = B l := rfl
theorem renc_ev (w h : Nat) (hw : w < 1000000) (hh : h < 1000000) (l2 : List Int) (hl : l2.length ≤ 1000000) : Ev (fun k => penumbraref44_Encode.f k (w : Int) (h : Int) l2) (B (encL w h (byt l2))) := by
  have lw := dg_len 5 w hw
  have lh := dg_len 5 h hh
  unfold penumbraref44_Encode.f
  refine Ev.bind (rdigits_ev w (by omega)) ?_
  have e1 : (⟨#[80, 54, 10]⟩ : ByteArray) = B [80, 54, 10] := rfl
  have e2 : (⟨#[32]⟩ : ByteArray) = B [32] := rfl
  have e3 : (⟨#[10, 50, 53, 53, 10]⟩ : ByteArray) = B [10, 50, 53, 53, 10] := rfl
  simp only [e1, e2, e3, B_append, str_byt, B_size, List.length_append, List.length_cons, List.length_nil]
  have lb : (byt l2).length = l2.length := by simp [byt]
  refine ev_pos (by omega) (ev_pos (by omega) ?_)
  refine Ev.bind (rdigits_ev h (by omega)) ?_
  simp only [B_append, B_size, List.length_append, List.length_cons, List.length_nil]
  refine ev_pos (by omega) (ev_pos (by omega) (ev_pos (by omega) ?_))
  have e : [80, 54, 10] ++ dg w ++ [32] ++ dg h ++ [10, 50, 53, 53, 10] ++ byt l2 = encL w h (byt l2) := by simp [encL]
  rw [e]
  exact Ev.now _
theorem enc_ev (a b : Int) (l2 : List Int) (hl : l2.length ≤ 1000000) : Ev (fun k => ppm_Encode.f k a b l2) (if chk a b l2.length = 0 then (B (encL a.toNat b.toNat (byt l2)), 0) else (B [], chk a b l2.length)) := by
  unfold ppm_Encode.f
  refine Ev.bind (chk_ev a b l2.length) ?_
  by_cases c : chk a b l2.length = 0
  · rw [if_pos c]
    refine ev_pos c ?_
    have hc : 1 ≤ a ∧ 1 ≤ b ∧ a ≤ 8192 ∧ b ≤ 8192 := by unfold chk at c; split at c <;> omega
    obtain ⟨w, rfl⟩ : ∃ w : Nat, a = w := ⟨a.toNat, by omega⟩
    obtain ⟨h, rfl⟩ : ∃ h : Nat, b = h := ⟨b.toNat, by omega⟩
    rw [Int.toNat_natCast, Int.toNat_natCast]
    have lw := dg_len 5 w (by omega)
    have lh := dg_len 5 h (by omega)
    refine Ev.bind (digits_ev w (by omega)) ?_
    have e1 : (⟨#[80, 54, 10]⟩ : ByteArray) = B [80, 54, 10] := rfl
    have e2 : (⟨#[32]⟩ : ByteArray) = B [32] := rfl
    have e3 : (⟨#[10]⟩ : ByteArray) = B [10] := rfl
    have e4 : (⟨#[50, 53, 53]⟩ : ByteArray) = B [50, 53, 53] := rfl
    simp only [e1, e2, e3, e4, B_append, str_byt, B_size, List.length_append, List.length_cons, List.length_nil]
    have lb : (byt l2).length = l2.length := by simp [byt]
    refine ev_pos (by omega) (ev_pos (by omega) ?_)
    refine Ev.bind (digits_ev h (by omega)) ?_
    simp only [B_append, B_size, List.length_append, List.length_cons, List.length_nil]
    refine ev_pos (by omega) (ev_pos (by omega) (ev_pos (by omega) (ev_pos (by omega) (ev_pos (by omega) ?_))))
    have e : [80, 54, 10] ++ dg w ++ [32] ++ dg h ++ [10] ++ [50, 53, 53] ++ [10] ++ byt l2 = encL w h (byt l2) := by simp [encL]
    rw [e]
    exact Ev.now _
  · rw [if_neg c]
    exact ev_neg c (Ev.now _)
/-- how many bytes a raster has -/
def szF (a b : Int) : Int := if chk a b 0 = 14 then ((encL a.toNat b.toNat []).length : Int) + 3 * a * b else 0
theorem size_ev (a b : Int) : Ev (fun k => ppm_Size.f k a b) (szF a b) := by
  unfold ppm_Size.f szF
  refine Ev.bind (chk_ev a b 0) ?_
  by_cases c : chk a b 0 = 14
  · rw [if_pos c]
    refine ev_pos c ?_
    have hc : 1 ≤ a ∧ 1 ≤ b ∧ a ≤ 8192 ∧ b ≤ 8192 ∧ a * b ≤ 65536 := by unfold chk at c; split at c <;> (try split at c) <;> omega
    obtain ⟨w, rfl⟩ : ∃ w : Nat, a = w := ⟨a.toNat, by omega⟩
    obtain ⟨h, rfl⟩ : ∃ h : Nat, b = h := ⟨b.toNat, by omega⟩
    obtain ⟨m1, m2⟩ := mul_range hc.1 hc.2.2.1 hc.2.1 hc.2.2.2.1
    have e9 : 3 * (w : Int) * (h : Int) = 3 * ((w : Int) * (h : Int)) := Int.mul_assoc _ _ _
    rw [Int.toNat_natCast, Int.toNat_natCast]
    have lw := dg_len 5 w (by omega)
    have lh := dg_len 5 h (by omega)
    refine Ev.bind (digits_ev w (by omega)) ?_
    have e1 : (⟨#[80, 54, 10]⟩ : ByteArray) = B [80, 54, 10] := rfl
    have e2 : (⟨#[32]⟩ : ByteArray) = B [32] := rfl
    have e3 : (⟨#[10]⟩ : ByteArray) = B [10] := rfl
    have e4 : (⟨#[50, 53, 53]⟩ : ByteArray) = B [50, 53, 53] := rfl
    simp only [e1, e2, e3, e4, B_append, B_size, List.length_append, List.length_cons, List.length_nil]
    refine ev_pos (by omega) (ev_pos (by omega) ?_)
    refine Ev.bind (digits_ev h (by omega)) ?_
    simp only [B_append, B_size, List.length_append, List.length_cons, List.length_nil]
    refine ev_pos (by omega) (ev_pos (by omega) (ev_pos (by omega) (ev_pos (by omega) ?_)))
    rw [wrap_id (n := 3 * (w : Int)) (by omega) (by omega), wrap_id (n := 3 * (w : Int) * (h : Int)) (by omega) (by omega), wrap_id (by omega) (by omega)]
    have e : (encL w h []).length = 0 + 1 + 1 + 1 + (dg w).length + (0 + 1) + (dg h).length + (0 + 1) + (0 + 1 + 1 + 1) + (0 + 1) := by simp [encL]; omega
    rw [e]
    exact Ev.now _
  · rw [if_neg c]
    exact ev_neg c (Ev.now _)
theorem rchk_ev (a b : Int) (l2 : List Int) : Ev (fun k => penumbraref44_Check.f k a b l2) (chk a b l2.length) := by
  have hT : Ev (fun k => penumbraref44_Check.j0 k a b l2 true) 12 := Ev.step (fun k => by rw [penumbraref44_Check.j0]) (ev_pos rfl (Ev.now _))
  unfold penumbraref44_Check.f chk
  by_cases w1 : a < 1
  · rw [if_pos (.inl w1)]
    exact ev_pos w1 hT
  refine ev_neg w1 ?_
  by_cases w2 : b < 1
  · rw [if_pos (.inr (.inl w2))]
    exact ev_pos w2 hT
  refine ev_neg w2 ?_
  by_cases w3 : 8192 < a
  · rw [if_pos (.inr (.inr (.inl w3)))]
    exact ev_pos w3 hT
  refine ev_neg w3 ?_
  by_cases w4 : 8192 < b
  · rw [if_pos (.inr (.inr (.inr w4))), show decide (b > 8192) = true from decide_eq_true w4]
    exact hT
  rw [if_neg (show ¬ (a < 1 ∨ b < 1 ∨ 8192 < a ∨ 8192 < b) by omega), show decide (b > 8192) = false from decide_eq_false w4]
  refine Ev.step (fun k => by rw [penumbraref44_Check.j0]) (ev_neg (by decide) ?_)
  obtain ⟨m1, m2⟩ := mul_range (a := a) (b := b) (by omega) (by omega) (by omega) (by omega)
  have e3 : 3 * a * b = 3 * (a * b) := Int.mul_assoc _ _ _
  rw [wrap_id (n := a * b) (by omega) (by omega), wrap_id (n := 3 * a) (by omega) (by omega), wrap_id (n := 3 * a * b) (by omega) (by omega)]
  by_cases c3 : 65536 < a * b
  · simp only [gt_iff_lt, if_pos c3]
    exact Ev.now _
  · simp only [gt_iff_lt, if_neg c3]
    by_cases c4 : (l2.length : Int) = 3 * a * b
    · simp only [if_pos c4]
      exact Ev.now _
    · simp only [if_neg c4]
      exact Ev.now _
theorem dg_not (n : Nat) (c : UInt8) (hc : c.toNat < 48) : ∀ b ∈ dg n, b ≠ c := by
  intro b hb e
  have h := dg_digits n b hb
  unfold isD at h
  rw [e] at h
  omega
/-- what was encoded is decoded -/
theorem dec_enc (w h : Nat) (r : List UInt8) (hc : chk w h (3 * (w : Int) * (h : Int)) = 0) (hr : r.length = 3 * w * h) : decL (encL w h r) = ((w : Int), (h : Int), nb r, (0 : Int)) := by
  have hb : w < 1000000 ∧ h < 1000000 := by unfold chk at hc; split at hc <;> omega
  have d3 : (encL w h r).drop 3 = dg w ++ 32 :: (dg h ++ 10 :: ([50, 53, 53] ++ 10 :: r)) := rfl
  have t3 : (encL w h r).take 3 = [80, 54, 10] := rfl
  unfold decL
  rw [d3, t3, cutL_here 32 (dg w) _ (dg_not w 32 (by decide))]
  simp only []
  rw [cutL_here 10 (dg h) _ (dg_not h 10 (by decide))]
  simp only []
  rw [cutL_here 10 [50, 53, 53] r (by decide)]
  simp only []
  rw [numL_dg w hb.1, numL_dg h hb.2, numL_255]
  simp only []
  rw [if_neg (by simp [encL]), if_neg (by simp), if_neg (by simp), if_neg (by simp), if_neg (by decide), if_neg (by rw [hc]; decide), if_neg (by omega), if_neg (by omega)]
/-- what is decoded was encoded -/
theorem dec_cases (l : List UInt8) : (∃ e, e ≠ 0 ∧ decL l = (0, 0, [], e)) ∨ ∃ (w h : Nat) (r : List UInt8), decL l = ((w : Int), (h : Int), nb r, (0 : Int)) ∧ l = encL w h r ∧ w < 1000000 ∧ h < 1000000 := by
  unfold decL
  by_cases c0 : l.length < 3
  · exact .inl ⟨5, by decide, by rw [if_pos c0]⟩
  rw [if_neg c0]
  by_cases c1 : l.take 3 = [80, 54, 10]
  rotate_left
  · exact .inl ⟨6, by decide, by rw [if_pos c1]⟩
  rw [if_neg (not_not_intro c1)]
  have f1 := cutL_found 32 (l.drop 3)
  generalize cutL 32 (l.drop 3) = x1 at *
  obtain ⟨a1, r1, j1⟩ := x1
  simp only [] at *
  have f2 := cutL_found 10 r1
  generalize cutL 10 r1 = x2 at *
  obtain ⟨a2, r2, j2⟩ := x2
  simp only [] at *
  have f3 := cutL_found 10 r2
  generalize cutL 10 r2 = x3 at *
  obtain ⟨a3, r3, j3⟩ := x3
  simp only [] at *
  by_cases c2 : j1 = true ∧ j2 = true ∧ j3 = true
  rotate_left
  · exact .inl ⟨5, by decide, by rw [if_pos c2]⟩
  rw [if_neg (not_not_intro c2)]
  by_cases c3 : (numL a1).2 = true ∧ (numL a2).2 = true ∧ (numL a3).2 = true
  rotate_left
  · exact .inl ⟨6, by decide, by rw [if_pos c3]⟩
  rw [if_neg (not_not_intro c3)]
  by_cases c4 : dg (numL a3).1 = [50, 53, 53]
  rotate_left
  · exact .inl ⟨6, by decide, by rw [if_pos c4]⟩
  rw [if_neg (not_not_intro c4)]
  split
  · exact .inl ⟨3, by decide, rfl⟩
  split
  · exact .inl ⟨5, by decide, rfl⟩
  split
  · exact .inl ⟨6, by decide, rfl⟩
  refine .inr ⟨_, _, r3, rfl, ?_, numL_lt a1, numL_lt a2⟩
  unfold encL
  rw [(numL_val a1 c3.1).2, (numL_val a2 c3.2.1).2, ← c4, (numL_val a3 c3.2.2).2, ← f3 c2.2.2, ← f2 c2.2.1, ← f1 c2.1, ← c1, List.take_append_drop]
end Go.Proofs.Ytmpbjmjphapnoaa.Gv
