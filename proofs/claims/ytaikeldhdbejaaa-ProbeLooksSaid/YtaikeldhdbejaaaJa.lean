/- package probe and its document: small functions of pictures, by hand. -/
import Derived.Test.YtaikeldhdbejaaaIb
import Derived.Test.YtaikeldhdbejaaaWMore
namespace Go.Proofs.Ytaikeldhdbejaaa.Gv
open Go.RowKit Go.Proofs.YtaikeldhdbejaaaW.PrintWords Go.Proofs.YtaikeldhdbejaaaW.PrintLast Go.Proofs.YtaikeldhdbejaaaW.PrintMore
attribute [local go_sem] max2_int min2_int max_two min_two
/-- a row of floats, by their bits -/
def FK : Kd Nat := Kd.scalar (Value.float .f64) (fun _ => rfl)
/-- a picture's cells -/
def pcs (W H : Int) (AL : Option Addr) (nL cL : Nat) (AD : Option Addr) (nD cD : Nat) : Array Value := #[.int .i64 W, .int .i64 H, .slice AL nL cL, .slice AD nD cD]
def sidesB (W H : Int) : Bool := decide (1 ≤ W ∧ 1 ≤ H ∧ W ≤ 8192 ∧ H ≤ 8192)
theorem pic_cells {w : World} {g : Nat} {t : TypeId} {a b c d : Value} (h : w.heap[g]? = some (.cells #[a, b, c, d] t (0, 0))) : w.cell? ⟨g, 0, none⟩ = some a ∧ w.cell? ⟨g, 1, none⟩ = some b ∧ w.cell? ⟨g, 2, none⟩ = some c ∧ w.cell? ⟨g, 3, none⟩ = some d :=
  ⟨(blk_cell h 0).trans rfl, (blk_cell h 1).trans rfl, (blk_cell h 2).trans rfl, (blk_cell h 3).trans rfl⟩
section
variable (W H : Int) (AL : Option Addr) (nL cL : Nat) (AD : Option Addr) (nD cD : Nat) (w : World)
theorem few_any : Calls Try.prog 6 #[.agg #[.int .i64 W, .int .i64 H, .slice AL nL cL, .slice AD nD cD]] w fun e w' => e = .returned (.bool (decide (nL ≤ 300 ∧ nD ≤ 100))) ∧ Below w.heap.size w w' := by
  obtain ⟨k0, k1, k2, k3⟩ := pic_cells (blk_new w (.cells #[.int .i64 W, .int .i64 H, .slice AL nL cL, .slice AD nD cD] 25))
  have hB := Below.alloc (Below.refl w.heap.size w) (Nat.le_refl _) (.cells #[.int .i64 W, .int .i64 H, .slice AL nL cL, .slice AD nD cD] 25)
  by_cases c1 : (nL : Int) ≤ 300
  · go_enter Try.func6, Try.ntmps6
    go_wp2
    go_ret
    refine ⟨congrArg Ending.returned (congrArg Value.bool ?_), hB⟩
    first | rfl | (rw [decide_eq_decide]; omega)
  · go_enter Try.func6, Try.ntmps6
    go_wp2
    go_ret
    refine ⟨congrArg Ending.returned (congrArg Value.bool ?_), hB⟩
    rw [decide_eq_false (show ¬ nL ≤ 300 by omega)]
    rfl
theorem rsides_any : Calls Try.prog 9 #[.agg #[.int .i64 W, .int .i64 H, .slice AL nL cL, .slice AD nD cD]] w fun e w' => e = .returned (.bool (sidesB W H)) ∧ Below w.heap.size w w' := by
  obtain ⟨k0, k1, k2, k3⟩ := pic_cells (blk_new w (.cells #[.int .i64 W, .int .i64 H, .slice AL nL cL, .slice AD nD cD] 25))
  have hB := Below.alloc (Below.refl w.heap.size w) (Nat.le_refl _) (.cells #[.int .i64 W, .int .i64 H, .slice AL nL cL, .slice AD nD cD] 25)
  have hcase : (W < 1 ∧ sidesB W H = false) ∨ (1 ≤ W ∧ H < 1 ∧ sidesB W H = false) ∨ (1 ≤ W ∧ 1 ≤ H ∧ 8192 < W ∧ sidesB W H = false) ∨ (1 ≤ W ∧ 1 ≤ H ∧ W ≤ 8192 ∧ 8192 < H ∧ sidesB W H = false) ∨ (1 ≤ W ∧ 1 ≤ H ∧ W ≤ 8192 ∧ H ≤ 8192 ∧ sidesB W H = true) := by
    unfold sidesB
    by_cases a : W < 1
    · exact .inl ⟨a, decide_eq_false (by omega)⟩
    · by_cases b : H < 1
      · exact .inr (.inl ⟨by omega, b, decide_eq_false (by omega)⟩)
      · by_cases c : 8192 < W
        · exact .inr (.inr (.inl ⟨by omega, by omega, c, decide_eq_false (by omega)⟩))
        · by_cases d : 8192 < H
          · exact .inr (.inr (.inr (.inl ⟨by omega, by omega, by omega, d, decide_eq_false (by omega)⟩)))
          · exact .inr (.inr (.inr (.inr ⟨by omega, by omega, by omega, by omega, decide_eq_true (by omega)⟩)))
  rcases hcase with ⟨g1, e⟩ | ⟨g1, g2, e⟩ | ⟨g1, g2, g3, e⟩ | ⟨g1, g2, g3, g4, e⟩ | ⟨g1, g2, g3, g4, e⟩
  all_goals rw [e]
  all_goals clear e
  all_goals go_enter Try.func9, Try.ntmps9
  all_goals go_wp2
  all_goals
    go_ret
    exact ⟨by first | rfl | (refine congrArg Ending.returned (congrArg Value.bool ?_); first | exact decide_eq_true (by omega) | exact decide_eq_false (by omega)), hB⟩
theorem sides_any : Calls Try.prog 22 #[.agg #[.int .i64 W, .int .i64 H, .slice AL nL cL, .slice AD nD cD]] w fun e w' => e = .returned (.bool (sidesB W H)) ∧ Below w.heap.size w w' := by
  obtain ⟨k0, k1, k2, k3⟩ := pic_cells (blk_new w (.cells #[.int .i64 W, .int .i64 H, .slice AL nL cL, .slice AD nD cD] 25))
  have hB := Below.alloc (Below.refl w.heap.size w) (Nat.le_refl _) (.cells #[.int .i64 W, .int .i64 H, .slice AL nL cL, .slice AD nD cD] 25)
  obtain ⟨mn, hmn⟩ : ∃ mn : Int, (if H < W then H else W) = mn := ⟨_, rfl⟩
  obtain ⟨mx, hmx⟩ : ∃ mx : Int, (if W < H then H else W) = mx := ⟨_, rfl⟩
  have hcase : (mn < 1 ∧ sidesB W H = false) ∨ (1 ≤ mn ∧ 8192 < mx ∧ sidesB W H = false) ∨ (1 ≤ mn ∧ mx ≤ 8192 ∧ sidesB W H = true) := by
    have h1 : (1 ≤ mn ↔ 1 ≤ W ∧ 1 ≤ H) ∧ (mx ≤ 8192 ↔ W ≤ 8192 ∧ H ≤ 8192) := by
      rw [← hmn, ← hmx]
      constructor <;> split <;> omega
    unfold sidesB
    by_cases a : mn < 1
    · exact .inl ⟨a, decide_eq_false (by omega)⟩
    · by_cases b : 8192 < mx
      · exact .inr (.inl ⟨by omega, b, decide_eq_false (by omega)⟩)
      · exact .inr (.inr ⟨by omega, by omega, decide_eq_true (by omega)⟩)
  rcases hcase with ⟨g1, e⟩ | ⟨g1, g2, e⟩ | ⟨g1, g2, e⟩
  all_goals rw [e]
  all_goals clear e
  all_goals go_enter Try.func22, Try.ntmps22
  all_goals go_wp2
  all_goals
    go_ret
    exact ⟨by first | rfl | (refine congrArg Ending.returned (congrArg Value.bool ?_); first | exact decide_eq_true (by omega) | exact decide_eq_false (by omega)), hB⟩
end
theorem alike_any (W H : Int) (AL : Option Addr) (nL cL : Nat) (AD : Option Addr) (nD cD : Nat) (W2 H2 : Int) (AL2 : Option Addr) (nL2 cL2 : Nat) (AD2 : Option Addr) (nD2 cD2 : Nat) (w : World) : Calls Try.prog 27 #[.agg #[.int .i64 W, .int .i64 H, .slice AL nL cL, .slice AD nD cD], .agg #[.int .i64 W2, .int .i64 H2, .slice AL2 nL2 cL2, .slice AD2 nD2 cD2]] w fun e w' => e = .returned (.bool (decide (W = W2 ∧ H = H2 ∧ nL = nL2))) ∧ Below w.heap.size w w' := by
  have b1 := blk_new w (.cells #[.int .i64 W, .int .i64 H, .slice AL nL cL, .slice AD nD cD] 25)
  have hB := Below.alloc (Below.refl w.heap.size w) (Nat.le_refl _) (.cells #[.int .i64 W, .int .i64 H, .slice AL nL cL, .slice AD nD cD] 25)
  have b2 := blk_new (w.alloc (.cells #[.int .i64 W, .int .i64 H, .slice AL nL cL, .slice AD nD cD] 25)) (.cells #[.int .i64 W2, .int .i64 H2, .slice AL2 nL2 cL2, .slice AD2 nD2 cD2] 25)
  have b3 := blk_alloc b1 (.cells #[.int .i64 W2, .int .i64 H2, .slice AL2 nL2 cL2, .slice AD2 nD2 cD2] 25)
  have hB2 := Below.alloc hB hB.size (.cells #[.int .i64 W2, .int .i64 H2, .slice AL2 nL2 cL2, .slice AD2 nD2 cD2] 25)
  obtain ⟨k0, k1, k2, k3⟩ := pic_cells b3
  obtain ⟨j0, j1, j2, j3⟩ := pic_cells b2
  have hsz : (w.alloc (.cells #[.int .i64 W, .int .i64 H, .slice AL nL cL, .slice AD nD cD] 25)).heap.size = w.heap.size + 1 := by simp
  rw [hsz] at j0 j1 j2 j3
  clear b1 b2 b3 hB hsz
  have hcase : ((W == W2) = false ∧ decide (W = W2 ∧ H = H2 ∧ nL = nL2) = false) ∨ ((W == W2) = true ∧ (H == H2) = false ∧ decide (W = W2 ∧ H = H2 ∧ nL = nL2) = false) ∨ ((W == W2) = true ∧ (H == H2) = true ∧ ((nL : Int) == (nL2 : Int)) = false ∧ decide (W = W2 ∧ H = H2 ∧ nL = nL2) = false) ∨ ((W == W2) = true ∧ (H == H2) = true ∧ ((nL : Int) == (nL2 : Int)) = true ∧ decide (W = W2 ∧ H = H2 ∧ nL = nL2) = true) := by
    by_cases a : W = W2
    · by_cases b : H = H2
      · by_cases c : nL = nL2
        · exact .inr (.inr (.inr ⟨beq_iff_eq.mpr a, beq_iff_eq.mpr b, by rw [beq_iff_eq]; omega, decide_eq_true ⟨a, b, c⟩⟩))
        · exact .inr (.inr (.inl ⟨beq_iff_eq.mpr a, beq_iff_eq.mpr b, by rw [beq_eq_false_iff_ne]; omega, decide_eq_false (fun h => c h.2.2)⟩))
      · exact .inr (.inl ⟨beq_iff_eq.mpr a, beq_eq_false_iff_ne.mpr b, decide_eq_false (fun h => b h.2.1)⟩)
    · exact .inl ⟨beq_eq_false_iff_ne.mpr a, decide_eq_false (fun h => a h.1)⟩
  rcases hcase with ⟨g1, e⟩ | ⟨g1, g2, e⟩ | ⟨g1, g2, g3, e⟩ | ⟨g1, g2, g3, e⟩
  all_goals rw [e]
  all_goals clear e
  all_goals go_enter Try.func27, Try.ntmps27
  all_goals go_wp2
  all_goals
    go_ret
    exact ⟨rfl, hB2⟩
end Go.Proofs.Ytaikeldhdbejaaa.Gv
