/- OrderCodes: plain. -/
import Derived.Test.YtjfegfhhgekcfaaGo
import Derived.Test.YtjfegfhhgekcfaaXxL41OrderCodes
import Derived.Laws.BitsLemmas
import Derived.IntWalk
namespace Go.Proofs.Ytjfegfhhgekcfaa.Pure
open Go.RowKit Go.Proofs.Ytjfegfhhgekcfaa.X Go.Proofs.YtjfegfhhgekcfaaW.PrintWords Go.Proofs.YtjfegfhhgekcfaaW.PrintLast Go.Proofs.YtjfegfhhgekcfaaW.PrintMore Gv
theorem pos {α : Type} {c : Prop} [Decidable c] {f g : Nat → Option α} {r : α} (h : c) (e : Ev f r) : Ev (fun k => if c then f k else g k) r := Ev.congr (fun _ => if_pos h) e
theorem neg {α : Type} {c : Prop} [Decidable c] {f g : Nat → Option α} {r : α} (h : ¬ c) (e : Ev g r) : Ev (fun k => if c then f k else g k) r := Ev.congr (fun _ => if_neg h) e
theorem suc {i : Nat} (h : i ≤ 1000000) : wrap64 ((i : Int) + 1) = ((i + 1 : Nat) : Int) := by unfold wrap64; omega
theorem fit62 (n : Int) (h0 : 0 ≤ n) (h1 : n < 2 ^ 62) : IntKind.i64.wrap n = n := IntWalk.i64_in n (by omega)
theorem orN {a b : Nat} (ha : a < 2 ^ 62) (hb : b < 2 ^ 62) : Go.bits .or .i64 (a : Int) (b : Int) = ((a ||| b : Nat) : Int) := (bits_nat .i64 62 (by decide) fit62 a b ha hb).2
theorem and1 {a : Nat} (ha : a < 2 ^ 62) : Go.bits .and .i64 (a : Int) 1 = ((a % 2 : Nat) : Int) := by
  have h := bits_mask .i64 62 (by decide) fit62 1 (by decide) (a : Int) (by omega) (by exact_mod_cast ha)
  simpa using h
theorem or_hi {m p q : Nat} (hq : q < 2 ^ m) : q ||| (p * 2 ^ m) = q + p * 2 ^ m := by
  rw [Nat.or_comm, Nat.mul_comm, ← Nat.two_pow_add_eq_or_of_lt hq p, Nat.add_comm]
/-- the bits of n, spread -/
def sp (n f : Nat) : Nat → Nat
  | 0 => 0
  | k + 1 => sp n f k + (n / 2 ^ k % 2) * 2 ^ (2 * k + f)
theorem sp_lt (n f : Nat) : ∀ k, sp n f k < 2 ^ (2 * k + f)
  | 0 => by simp only [sp]; exact Nat.two_pow_pos _
  | k + 1 => by
    have h := sp_lt n f k
    have e : 2 ^ (2 * (k + 1) + f) = 4 * 2 ^ (2 * k + f) := by rw [show 2 * (k + 1) + f = (2 * k + f) + 2 from by omega, Nat.pow_add]; omega
    simp only [sp]
    rw [e]
    have : n / 2 ^ k % 2 ≤ 1 := by omega
    have h2 : n / 2 ^ k % 2 * 2 ^ (2 * k + f) ≤ 1 * 2 ^ (2 * k + f) := Nat.mul_le_mul_right _ this
    omega
theorem sp_low (f : Nat) : ∀ n x, sp x f (n + 1) = 4 * sp (x / 2) f n + (x % 2) * 2 ^ f
  | 0, x => by simp [sp]
  | n + 1, x => by
    rw [sp, sp_low f n x, sp]
    have e1 : x / 2 ^ (n + 1) = x / 2 / 2 ^ n := by rw [Nat.pow_succ, Nat.mul_comm, Nat.div_div_eq_div_mul]
    have e2 : 2 ^ (2 * (n + 1) + f) = 4 * 2 ^ (2 * n + f) := by rw [show 2 * (n + 1) + f = (2 * n + f) + 2 from by omega, Nat.pow_add]; omega
    rw [e1, e2, Nat.mul_add, ← Nat.mul_assoc, Nat.mul_comm _ 4, Nat.mul_assoc]
    omega
theorem spr_sp (n f : Nat) (hn : n < 65536) (hf : f ≤ 1) : ∀ k, k ≤ 16 → spr (n : Int) (f : Int) k = (sp n f k : Int)
  | 0, _ => rfl
  | k + 1, hk => by
    rw [spr, spr_sp n f hn hf k (by omega), sp]
    have hp : 2 ^ (2 * k + f) ≤ 2 ^ 33 := Nat.pow_le_pow_right (by decide) (by omega)
    have h33 : (2 : Nat) ^ 33 = 8589934592 := by decide
    have h62 : (2 : Nat) ^ 62 = 4611686018427387904 := by decide
    have e1 : (n : Int) / 2 ^ k = ((n / 2 ^ k : Nat) : Int) := by simp
    have hd : n / 2 ^ k ≤ n := Nat.div_le_self _ _
    have e2 : (2 * (k : Int) + (f : Int)).toNat = 2 * k + f := by omega
    have hb : n / 2 ^ k % 2 * 2 ^ (2 * k + f) ≤ 1 * 2 ^ (2 * k + f) := Nat.mul_le_mul_right _ (by omega)
    have e3 : ((n / 2 ^ k % 2 : Nat) : Int) * 2 ^ (2 * k + f) = ((n / 2 ^ k % 2 * 2 ^ (2 * k + f) : Nat) : Int) := by simp
    rw [e1, and1 (by omega), e2, e3, IntWalk.i64_in _ (by omega), orN (by have := sp_lt n f k; omega) (by omega), or_hi (sp_lt n f k)]
theorem join : ∀ k x y, sp x 0 k ||| sp y 1 k = sp x 0 k + sp y 1 k := by
  intro k
  induction k with
  | zero => intro x y; simp [sp]
  | succ k ih =>
    intro x y
    have h := ih x y
    have ha : sp x 0 k < 2 ^ (2 * k) := sp_lt x 0 k
    have hb0 : sp y 1 k < 2 ^ (2 * k) := by
      have h1 : ∀ k, sp y 1 k = 2 * sp y 0 k := by
        intro k
        induction k with
        | zero => rfl
        | succ k ih => simp only [sp]; rw [ih, Nat.pow_succ, Nat.mul_add, Nat.add_zero, ← Nat.mul_assoc]; omega
      have h2 : ∀ k, 3 * sp y 0 k + 1 ≤ 2 ^ (2 * k) := by
        intro k
        induction k with
        | zero => simp [sp]
        | succ k ih =>
          have e : 2 ^ (2 * (k + 1)) = 4 * 2 ^ (2 * k) := by rw [show 2 * (k + 1) = 2 * k + 2 from by omega, Nat.pow_add]; omega
          simp only [sp]
          have h2 : y / 2 ^ k % 2 * 2 ^ (2 * k + 0) ≤ 1 * 2 ^ (2 * k + 0) := Nat.mul_le_mul_right _ (by omega)
          simp only [Nat.add_zero] at h2 ⊢
          rw [e]
          omega
      have := h1 k
      have := h2 k
      omega
    have hq : sp x 0 k ||| sp y 1 k < 2 ^ (2 * k) := Nat.or_lt_two_pow ha hb0
    simp only [sp, Nat.add_zero]
    have e1 : ∀ a b : Nat, a ≤ 1 → b ≤ 1 → (a * 2 ^ (2 * k)) ||| (b * 2 ^ (2 * k + 1)) = a * 2 ^ (2 * k) + b * 2 ^ (2 * k + 1) := by
      intro a b ha1 _
      refine or_hi (m := 2 * k + 1) ?_
      rw [Nat.pow_succ]
      have := Nat.two_pow_pos (2 * k)
      have := Nat.mul_le_mul_right (2 ^ (2 * k)) ha1
      omega
    have hA := or_hi (m := 2 * k) (p := x / 2 ^ k % 2) ha
    have hB : sp y 1 k ||| (y / 2 ^ k % 2) * 2 ^ (2 * k + 1) = sp y 1 k + (y / 2 ^ k % 2) * 2 ^ (2 * k + 1) := or_hi (m := 2 * k + 1) (sp_lt y 1 k)
    rw [← hA, ← hB]
    have e2 : (sp x 0 k ||| x / 2 ^ k % 2 * 2 ^ (2 * k)) ||| (sp y 1 k ||| y / 2 ^ k % 2 * 2 ^ (2 * k + 1)) = (sp x 0 k ||| sp y 1 k) ||| ((x / 2 ^ k % 2 * 2 ^ (2 * k)) ||| (y / 2 ^ k % 2 * 2 ^ (2 * k + 1))) := by
      rw [Nat.or_assoc, Nat.or_assoc]
      congr 1
      rw [← Nat.or_assoc, ← Nat.or_assoc, Nat.or_comm (sp y 1 k)]
    rw [e2, e1 _ _ (by omega) (by omega), h]
    have e3 : x / 2 ^ k % 2 * 2 ^ (2 * k) + y / 2 ^ k % 2 * 2 ^ (2 * k + 1) = (x / 2 ^ k % 2 + 2 * (y / 2 ^ k % 2)) * 2 ^ (2 * k) := by
      rw [Nat.pow_succ, Nat.add_mul, Nat.mul_comm 2 (y / 2 ^ k % 2), Nat.mul_assoc, Nat.mul_comm 2 (2 ^ (2 * k))]
    rw [hA, hB, e3, or_hi (m := 2 * k) (by rw [← h]; exact hq), ← e3]
    omega
/-- the code of a place of n bits -/
def cN : Nat → Nat → Nat → Nat
  | 0, _, _ => 0
  | n + 1, x, y => 4 * cN n (x / 2) (y / 2) + 2 * (y % 2) + x % 2
theorem cN_sp : ∀ n x y, cN n x y = sp x 0 n + sp y 1 n
  | 0, _, _ => rfl
  | n + 1, x, y => by rw [cN, cN_sp n, sp_low, sp_low]; omega
theorem cN_zero : ∀ n, cN n 0 0 = 0
  | 0 => rfl
  | n + 1 => by rw [cN, show 0 / 2 = 0 from rfl, cN_zero n]
theorem cN_lt : ∀ n x y, cN n x y < 4 ^ n
  | 0, _, _ => by simp [cN]
  | n + 1, x, y => by have := cN_lt n (x / 2) (y / 2); rw [cN, Nat.pow_succ]; omega
/-- every second bit, from p on -/
def ga (c p : Nat) : Nat → Nat
  | 0 => 0
  | k + 1 => ga c p k + (c / 2 ^ (2 * k + p) % 2) * 2 ^ k
theorem ga_lt (c p : Nat) : ∀ k, ga c p k < 2 ^ k
  | 0 => by simp [ga]
  | k + 1 => by
    have h := ga_lt c p k
    have h2 : c / 2 ^ (2 * k + p) % 2 * 2 ^ k ≤ 1 * 2 ^ k := Nat.mul_le_mul_right _ (by omega)
    simp only [ga]
    rw [Nat.pow_succ]
    omega
theorem ga_low (p : Nat) : ∀ n c, ga c p (n + 1) = 2 * ga (c / 4) p n + c / 2 ^ p % 2
  | 0, c => by simp [ga]
  | n + 1, c => by
    rw [ga, ga_low p n c, ga]
    have e1 : c / 2 ^ (2 * (n + 1) + p) = c / 4 / 2 ^ (2 * n + p) := by
      rw [Nat.div_div_eq_div_mul, show 2 * (n + 1) + p = (2 * n + p) + 2 from by omega, Nat.pow_add, Nat.mul_comm]
    rw [e1, Nat.pow_succ, Nat.mul_add, Nat.mul_comm (2 ^ n) 2, ← Nat.mul_assoc, Nat.mul_comm _ 2, Nat.mul_assoc]
    omega
theorem ga_cN0 : ∀ n x y, x < 2 ^ n → ga (cN n x y) 0 n = x
  | 0, x, y, h => by simp at h; simp [ga, h]
  | n + 1, x, y, h => by
    rw [ga_low, cN]
    have h1 : (4 * cN n (x / 2) (y / 2) + 2 * (y % 2) + x % 2) / 4 = cN n (x / 2) (y / 2) := by omega
    rw [h1, ga_cN0 n (x / 2) (y / 2) (by rw [Nat.pow_succ] at h; omega)]
    simp only [Nat.pow_zero, Nat.div_one]
    omega
theorem ga_cN1 : ∀ n x y, y < 2 ^ n → ga (cN n x y) 1 n = y
  | 0, x, y, h => by simp at h; simp [ga, h]
  | n + 1, x, y, h => by
    rw [ga_low, cN]
    have h1 : (4 * cN n (x / 2) (y / 2) + 2 * (y % 2) + x % 2) / 4 = cN n (x / 2) (y / 2) := by omega
    rw [h1, ga_cN1 n (x / 2) (y / 2) (by rw [Nat.pow_succ] at h; omega)]
    simp only [Nat.pow_one]
    omega
theorem cN_ga : ∀ n c, c < 4 ^ n → cN n (ga c 0 n) (ga c 1 n) = c
  | 0, c, h => by simp at h; simp [cN, h]
  | n + 1, c, h => by
    have e0 := ga_low 0 n c
    have e1 := ga_low 1 n c
    simp only [Nat.pow_zero, Nat.div_one, Nat.pow_one] at e0 e1
    rw [cN, e0, e1]
    have h1 : (2 * ga (c / 4) 0 n + c % 2) / 2 = ga (c / 4) 0 n := by omega
    have h2 : (2 * ga (c / 4) 1 n + c / 2 % 2) / 2 = ga (c / 4) 1 n := by omega
    rw [h1, h2, cN_ga n (c / 4) (by rw [Nat.pow_succ] at h; omega)]
    omega
theorem wfit (n : Int) (h0 : 0 ≤ n) (h1 : n < 9223372036854775808) : wrap64 n = n := by unfold wrap64; omega
theorem codeStep (c p q : Nat) (hc : c < 4294967296) (hp : p ≤ 1) (hq : q ≤ 1) : wrap64 ((wrap64 ((wrap64 (4 * (c : Int))) + (wrap64 (2 * (p : Int))))) + (q : Int)) = ((4 * c + 2 * p + q : Nat) : Int) := by
  rw [wfit (4 * (c : Int)) (by omega) (by omega), wfit (2 * (p : Int)) (by omega) (by omega), wfit (4 * (c : Int) + 2 * (p : Int)) (by omega) (by omega), wfit _ (by omega) (by omega)]
  omega
theorem scode (a0 a1 : Int) (k : Nat) : penumbraref41_Code.f (k + 1) a0 a1 = if a0 = 0 then (if a1 = 0 then (some 0) else ((penumbraref41_Code.f k (wrap64 (Int.tdiv a0 2)) (wrap64 (Int.tdiv a1 2))).bind fun t101 => (some (wrap64 ((wrap64 ((wrap64 (4 * t101)) + (wrap64 (2 * (Int.tmod a1 2))))) + (Int.tmod a0 2)))))) else ((penumbraref41_Code.f k (wrap64 (Int.tdiv a0 2)) (wrap64 (Int.tdiv a1 2))).bind fun t102 => (some (wrap64 ((wrap64 ((wrap64 (4 * t102)) + (wrap64 (2 * (Int.tmod a1 2))))) + (Int.tmod a0 2))))) := by
  rw [penumbraref41_Code.f]
theorem rcode_ev : ∀ (n x y : Nat), n ≤ 16 → x < 2 ^ n → y < 2 ^ n → Ev (fun k => penumbraref41_Code.f k (x : Int) (y : Int)) (cN n x y : Int) := by
  intro n
  induction n with
  | zero =>
    intro x y _ hx hy
    simp at hx hy
    subst hx hy
    exact Ev.step (fun k => scode _ _ k) (pos rfl (pos rfl (Ev.now _)))
  | succ n ih =>
    intro x y hn hx hy
    have hc := cN_lt n (x / 2) (y / 2)
    have hc2 : 4 ^ n ≤ 4 ^ 16 := Nat.pow_le_pow_right (by decide) (by omega)
    have h416 : (4 : Nat) ^ 16 = 4294967296 := by decide
    have hx2 : 2 ^ (n + 1) ≤ 2 ^ 16 := Nat.pow_le_pow_right (by decide) hn
    have h216 : (2 : Nat) ^ 16 = 65536 := by decide
    have ex : wrap64 (Int.tdiv (x : Int) 2) = ((x / 2 : Nat) : Int) := by rw [show Int.tdiv (x : Int) 2 = ((x / 2 : Nat) : Int) from rfl]; unfold wrap64; omega
    have ey : wrap64 (Int.tdiv (y : Int) 2) = ((y / 2 : Nat) : Int) := by rw [show Int.tdiv (y : Int) 2 = ((y / 2 : Nat) : Int) from rfl]; unfold wrap64; omega
    have mx : Int.tmod (x : Int) 2 = ((x % 2 : Nat) : Int) := rfl
    have my : Int.tmod (y : Int) 2 = ((y % 2 : Nat) : Int) := rfl
    have hE := ih (x / 2) (y / 2) (by omega) (by rw [Nat.pow_succ] at hx; omega) (by rw [Nat.pow_succ] at hy; omega)
    have hv : wrap64 ((wrap64 ((wrap64 (4 * (cN n (x / 2) (y / 2) : Int))) + (wrap64 (2 * (Int.tmod (y : Int) 2))))) + (Int.tmod (x : Int) 2)) = (cN (n + 1) x y : Int) := by
      rw [mx, my, cN]
      exact codeStep _ _ _ (by omega) (by omega) (by omega)
    by_cases hxz : x = 0
    · by_cases hyz : y = 0
      · subst hxz hyz
        rw [cN_zero]
        exact Ev.step (fun k => scode _ _ k) (pos rfl (pos rfl (Ev.now _)))
      · refine Ev.step (fun k => scode _ _ k) (pos (by omega) (neg (by omega) (Ev.bind (a := (cN n (x / 2) (y / 2) : Int)) (by rw [ex, ey]; exact hE) ?_)))
        rw [hv]
        exact Ev.now _
    · refine Ev.step (fun k => scode _ _ k) (neg (by omega) (Ev.bind (a := (cN n (x / 2) (y / 2) : Int)) (by rw [ex, ey]; exact hE) ?_))
      rw [hv]
      exact Ev.now _
theorem gather_loop (c p : Nat) (hc : c < 4294967296) (hp : p ≤ 1) : ∀ d i, i + d = 16 → Ev (fun k => order_gather.l0 k (c : Int) (p : Int) (ga c p i : Int) (i : Int)) (ga c p 16 : Int) := by
  intro d
  induction d with
  | zero =>
    intro i hi
    have e : i = 16 := by omega
    subst e
    exact Ev.step (fun _ => rfl) (neg (by decide) (Ev.now _))
  | succ d ih =>
    intro i hi
    have h := ih (i + 1) (by omega)
    have e1 : wrap64 (wrap64 (2 * (i : Int)) + (p : Int)) = ((2 * i + p : Nat) : Int) := by unfold wrap64; omega
    have h62 : (2 : Nat) ^ 62 = 4611686018427387904 := by decide
    have hb64 : IntKind.i64.bits = 64 := rfl
    have e2 : shr .i64 (c : Int) ((2 * i + p : Nat) : Int) = ((c / 2 ^ (2 * i + p) : Nat) : Int) := by
      unfold shr
      rw [Int.toNat_natCast, hb64, Nat.min_eq_left (by omega)]
      simp
    have hd : c / 2 ^ (2 * i + p) ≤ c := Nat.div_le_self _ _
    have hpi : 2 ^ i ≤ 2 ^ 16 := Nat.pow_le_pow_right (by decide) (by omega)
    have h216 : (2 : Nat) ^ 16 = 65536 := by decide
    have hb : c / 2 ^ (2 * i + p) % 2 * 2 ^ i ≤ 1 * 2 ^ i := Nat.mul_le_mul_right _ (by omega)
    have e3 : shl .i64 ((c / 2 ^ (2 * i + p) % 2 : Nat) : Int) (i : Int) = ((c / 2 ^ (2 * i + p) % 2 * 2 ^ i : Nat) : Int) := by
      unfold shl
      rw [Int.toNat_natCast, hb64, Nat.min_eq_left (by omega)]
      have e4 : ((c / 2 ^ (2 * i + p) % 2 : Nat) : Int) * 2 ^ i = ((c / 2 ^ (2 * i + p) % 2 * 2 ^ i : Nat) : Int) := by simp
      rw [e4, IntWalk.i64_in _ (by omega)]
    have hl := ga_lt c p i
    have e5 : Go.bits .or .i64 (ga c p i : Int) (shl .i64 (Go.bits .and .i64 (shr .i64 (c : Int) (wrap64 (wrap64 (2 * (i : Int)) + (p : Int)))) 1) (i : Int)) = (ga c p (i + 1) : Int) := by
      rw [e1, e2, and1 (by omega), e3, orN (by omega) (by omega), or_hi hl, ga]
    refine Ev.step (fun _ => rfl) (pos (by omega) (pos (by rw [e1]; omega) (pos (by omega) ?_)))
    rw [e5, suc (by omega)]
    exact h
theorem gather_ev (c p : Nat) (hc : c < 4294967296) (hp : p ≤ 1) : Ev (fun k => order_gather.f k (c : Int) (p : Int)) (ga c p 16 : Int) := gather_loop c p hc hp 16 0 (by omega)
theorem sOf_t (c : Int) (k : Nat) : order_Of.j0 (k + 1) c true = some (0, 0, 3) := by rw [order_Of.j0, if_pos rfl]
theorem sOf_f (c : Int) (k : Nat) : order_Of.j0 (k + 1) c false = (order_gather.f k c 0).bind fun t => ((order_gather.f k c 1).bind fun u => some (t, u, 0)) := by rw [order_Of.j0, if_neg (by simp)]
theorem of_ok (c : Nat) (hc : c < 4294967296) : Ev (fun k => order_Of.f k (c : Int)) ((ga c 0 16 : Int), (ga c 1 16 : Int), 0) := by
  unfold order_Of.f
  refine neg (by omega) ?_
  rw [decide_eq_false (by omega)]
  exact Ev.step (fun k => sOf_f (c : Int) k) (Ev.bind (gather_ev c 0 hc (by decide)) (Ev.bind (gather_ev c 1 hc (by decide)) (Ev.now _)))
theorem of_no (c : Int) (hc : c < 0 ∨ 4294967295 < c) : Ev (fun k => order_Of.f k c) (0, 0, 3) := by
  unfold order_Of.f
  by_cases h : c < 0
  · exact pos h (Ev.step (fun k => sOf_t c k) (Ev.now _))
  · refine neg h ?_
    rw [decide_eq_true (by omega)]
    exact Ev.step (fun k => sOf_t c k) (Ev.now _)
theorem code_ok' {x y : Nat} (hx : x < 65536) (hy : y < 65536) : codeVal (x : Int) (y : Int) = ((cN 16 x y : Int), 0) := by
  unfold codeVal
  rw [if_pos (by omega)]
  have h0 := spr_sp x 0 hx (by decide) 16 (by decide)
  have h1 := spr_sp y 1 hy (by decide) 16 (by decide)
  have l0 := sp_lt x 0 16
  have l1 := sp_lt y 1 16
  have e0 : (2 : Nat) ^ (2 * 16 + 0) = 4294967296 := by decide
  have e1 : (2 : Nat) ^ (2 * 16 + 1) = 8589934592 := by decide
  have h62 : (2 : Nat) ^ 62 = 4611686018427387904 := by decide
  rw [show ((0 : Nat) : Int) = 0 from rfl] at h0
  rw [show ((1 : Nat) : Int) = 1 from rfl] at h1
  rw [h0, h1, orN (by omega) (by omega), join, cN_sp]
theorem awake41 : Ev (fun k => penumbralaw41_awake.f k) true := Ev.of penumbralaw41_awake.mono (k := 40) (by decide +kernel)
section
variable (x y c e a b f : Int) (k : Nat)
theorem s2_t : penumbralaw41_OrderCodes.j2 (k + 1) c 0 0 3 true = (penumbralaw41_awake.f k).bind fun t => (if t = true then some true else some false) := by
  rw [penumbralaw41_OrderCodes.j2, if_pos rfl]; rfl
theorem s2_f : penumbralaw41_OrderCodes.j2 (k + 1) c a b 0 false = (penumbralaw41_awake.f k).bind fun t => (if t = true then ((penumbraref41_Code.f k a b).bind fun u => some (u == c)) else some false) := by
  rw [penumbralaw41_OrderCodes.j2, if_neg (by simp)]; rfl
theorem s1 : penumbralaw41_OrderCodes.j1 (k + 1) c a b f = if c < 0 then penumbralaw41_OrderCodes.j2 k c a b f true else penumbralaw41_OrderCodes.j2 k c a b f (decide (c > 4294967295)) := by
  rw [penumbralaw41_OrderCodes.j1]
theorem s0_t : penumbralaw41_OrderCodes.j0 (k + 1) x y c 0 3 a b f true = penumbralaw41_OrderCodes.j1 k c a b f := by
  rw [penumbralaw41_OrderCodes.j0, if_pos rfl]; rfl
theorem s0_f : penumbralaw41_OrderCodes.j0 (k + 1) x y c e 0 a b f false = (order_Of.f k e).bind fun p => ((penumbraref41_Code.f k x y).bind fun t => (if e = t then (if (0 : Int) = 0 then (if p.1 = x then (if p.2.1 = y then (if p.2.2 = 0 then (penumbralaw41_OrderCodes.j1 k c a b f) else (some false)) else (some false)) else (some false)) else (some false)) else (some false))) := by
  rw [penumbralaw41_OrderCodes.j0, if_neg (by simp)]
end
theorem tail (c a b f : Int) (h : (c < 0 ∨ 4294967295 < c) ∧ a = 0 ∧ b = 0 ∧ f = 3 ∨ 0 ≤ c ∧ c ≤ 4294967295 ∧ f = 0 ∧ Ev (fun k => penumbraref41_Code.f k a b) c) : Ev (fun k => penumbralaw41_OrderCodes.j1 k c a b f) true := by
  refine Ev.step (fun k => s1 c a b f k) ?_
  rcases h with ⟨hc, rfl, rfl, rfl⟩ | ⟨h0, h1, rfl, hE⟩
  · have hj : Ev (fun k => penumbralaw41_OrderCodes.j2 k c 0 0 3 true) true := Ev.step (fun k => s2_t c k) (Ev.bind awake41 (pos rfl (Ev.now _)))
    by_cases z : c < 0
    · exact pos z hj
    · refine neg z ?_
      rw [decide_eq_true (by omega)]
      exact hj
  · refine neg (by omega) ?_
    rw [decide_eq_false (by omega)]
    refine Ev.step (fun k => s2_f c a b k) (Ev.bind awake41 (pos rfl (Ev.bind hE ?_)))
    rw [beq_self_eq_true]
    exact Ev.now _
theorem OrderCodes : penumbralaw41_OrderCodes.Pure := by
  unfold penumbralaw41_OrderCodes.Pure
  intro x y c _ _ _
  refine Ev.rounds ?_
  obtain ⟨⟨a, b, f⟩, hO, ht⟩ : ∃ r : Int × Int × Int, Ev (fun k => order_Of.f k c) r ∧ Ev (fun k => penumbralaw41_OrderCodes.j1 k c r.1 r.2.1 r.2.2) true := by
    by_cases h : c < 0 ∨ 4294967295 < c
    · exact ⟨_, of_no c h, tail c 0 0 3 (.inl ⟨h, rfl, rfl, rfl⟩)⟩
    · obtain ⟨n, rfl⟩ := Int.eq_ofNat_of_zero_le (show 0 ≤ c by omega)
      have hn : n < 4294967296 := by omega
      have l0 := ga_lt n 0 16
      have l1 := ga_lt n 1 16
      have hE := rcode_ev 16 (ga n 0 16) (ga n 1 16) (by decide) l0 l1
      rw [cN_ga 16 n (by rw [show (4 : Nat) ^ 16 = 4294967296 from by decide]; exact hn)] at hE
      exact ⟨_, of_ok n hn, tail (n : Int) _ _ 0 (.inr ⟨by omega, by omega, rfl, hE⟩)⟩
  unfold penumbralaw41_OrderCodes.f
  by_cases hin : 0 ≤ x ∧ x < 65536 ∧ 0 ≤ y ∧ y < 65536
  · obtain ⟨m, rfl⟩ := Int.eq_ofNat_of_zero_le (show 0 ≤ x by omega)
    obtain ⟨n, rfl⟩ := Int.eq_ofNat_of_zero_le (show 0 ≤ y by omega)
    have hm : m < 65536 := by omega
    have hn : n < 65536 := by omega
    have hcv : order_Code.f (m : Int) (n : Int) = some ((cN 16 m n : Int), 0) := by unfold order_Code.f; rw [code_ok' hm hn]
    have hcl := cN_lt 16 m n
    rw [show (4 : Nat) ^ 16 = 4294967296 from by decide] at hcl
    have hO2 := of_ok (cN 16 m n) hcl
    have h216 : (2 : Nat) ^ 16 = 65536 := by decide
    rw [ga_cN0 16 m n (by omega), ga_cN1 16 m n (by omega)] at hO2
    have hE := rcode_ev 16 m n (by decide) (by omega) (by omega)
    refine Ev.bind (g := fun _ => order_Code.f (m : Int) (n : Int)) (a := ((cN 16 m n : Int), 0)) (by rw [hcv]; exact Ev.now _) (Ev.bind hO (neg (by omega) (neg (by omega) (neg (by omega) ?_))))
    rw [decide_eq_false (by omega)]
    exact Ev.step (fun k => s0_f (m : Int) (n : Int) c (cN 16 m n : Int) a b f k) (Ev.bind hO2 (Ev.bind hE (pos rfl (pos rfl (pos rfl (pos rfl (pos rfl ht)))))))
  · have hcv : order_Code.f x y = some (0, 3) := by unfold order_Code.f codeVal; rw [if_neg hin]
    have hj : Ev (fun k => penumbralaw41_OrderCodes.j0 k x y c 0 3 a b f true) true := Ev.step (fun k => s0_t x y c a b f k) ht
    refine Ev.bind (g := fun _ => order_Code.f x y) (a := (0, 3)) (by rw [hcv]; exact Ev.now _) (Ev.bind hO ?_)
    by_cases c1 : x < 0
    · exact pos c1 hj
    · refine neg c1 ?_
      by_cases c2 : y < 0
      · exact pos c2 hj
      · refine neg c2 ?_
        by_cases c3 : x > 65535
        · exact pos c3 hj
        · refine neg c3 ?_
          rw [decide_eq_true (by omega)]
          exact hj
end Go.Proofs.Ytjfegfhhgekcfaa.Pure
