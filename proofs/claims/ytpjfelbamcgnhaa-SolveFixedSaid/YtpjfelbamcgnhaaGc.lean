/- Contracts of matrix.Add, matrix.Sub, matrix.Mul. -/
import Derived.Test.YtpjfelbamcgnhaaGb
namespace Go.Proofs.Ytpjfelbamcgnhaa.Gv
open Go.RowKit Go.Proofs.YtpjfelbamcgnhaaW.PrintWords Pl
theorem subc_list (n i j ca cb : Nat) (xs ys : List Int) (pa pb : Addr) (A B : Option Addr) (w : World)
    (hpa : w.cell? pa = some (.slice A xs.length ca)) (hpb : w.cell? pb = some (.slice B ys.length cb))
    (hra : ReadsInt w .i64 A xs.length xs) (hrb : ReadsInt w .i64 B ys.length ys)
    (hn : n ≤ 12) (hi : i < n) (hj : j < n) (hlx : xs.length = n * n) (hly : ys.length = n * n) :
    Calls Try.prog 43 #[.int .i64 n, .int .i64 i, .int .i64 j, .pointer (some pa), .pointer (some pb)] w fun e w' => e = .returned (.int .i64 (of (xs.getD (i * n + j) 0 - ys.getD (i * n + j) 0))) ∧ Below w.heap.size w w' := by
  have hq := lt_sq hi hj
  have hq1 : ((i * n + j : Nat) : Int) = (i : Int) * n + j := by simp
  obtain ⟨ada, rfl, hx⟩ := hra.at_ ((i * n + j : Nat) : Int) (by omega) (by omega)
  obtain ⟨adb, rfl, hy⟩ := hrb.at_ ((i * n + j : Nat) : Int) (by omega) (by omega)
  rw [Int.toNat_natCast] at hx hy
  have m1 : (i : Int) * n ≤ 12 * 12 := Int.mul_le_mul (by omega) (by omega) (by omega) (by omega)
  exact subc_any n i j xs.length ys.length ca cb _ _ pa pb ada adb w hpa hpb hx hy (Int.mul_nonneg (by omega) (by omega)) (by omega) (by omega) (by omega) (by omega)
/-- what a product has at place q -/
def mulAt (xs ys : List Int) (n q : Nat) : Int := mulTo xs ys n (q / n) (q % n) n
theorem div_of {n i j : Nat} (hj : j < n) : (i * n + j) / n = i := by
  rw [Nat.add_comm, Nat.add_mul_div_right _ _ (by omega), Nat.div_eq_of_lt hj, Nat.zero_add]
theorem mod_of {n i j : Nat} (hj : j < n) : (i * n + j) % n = j := by
  rw [Nat.add_comm, Nat.add_mul_mod_self_right, Nat.mod_eq_of_lt hj]
theorem two_boxes (w : World) (u v : Value) (o1 o2 : Obj) (h1 : o1 = .cells #[u] 22) (h2 : o2 = .cells #[v] 22) :
    ((w.alloc o1).alloc o2).cell? ⟨w.heap.size, 0, none⟩ = some u ∧ ((w.alloc o1).alloc o2).cell? ⟨w.heap.size + 1, 0, none⟩ = some v ∧ Below w.heap.size w ((w.alloc o1).alloc o2) := by
  subst h1 h2
  refine ⟨?_, ?_, ((Below.refl _ _).alloc (Nat.le_refl _) _).alloc (by simp) _⟩
  · rw [World.cell?_alloc_past _ _ _ (by simp), World.cell?_alloc_at _ _ _ _ rfl]; rfl
  · rw [World.cell?_alloc_at _ _ _ _ (by simp)]; rfl
set_option maxHeartbeats 1000000 in
theorem matSub_ok (F : Nat → Int) (A B : Option Addr) (xs ys : List Int) (ca cb : Nat) (w : World) (hra : ReadsInt w .i64 A xs.length xs) (hrb : ReadsInt w .i64 B ys.length ys)
    (h0 : sideOf xs.length ≠ 0) (h1 : sideOf xs.length = sideOf ys.length) (hF : ∀ i j, i < sideOf xs.length → j < sideOf xs.length → F (i * sideOf xs.length + j) = of (xs.getD (i * sideOf xs.length + j) 0 - ys.getD (i * sideOf xs.length + j) 0)) :
    Calls Try.prog 34 #[.slice A xs.length ca, .slice B ys.length cb] w fun e w' => ∃ v : Value, e = .returned (.tuple #[v, .int .i64 0]) ∧ w'.ownsRow w.heap.size 3 1 v (tabTo F (sideOf xs.length * sideOf xs.length)).length (nums .i64 (tabTo F (sideOf xs.length * sideOf xs.length))) ∧ Below w.heap.size w w' := by
  have hsq := sideOf_sq xs.length h0
  have hsq2 := sideOf_sq ys.length (by omega)
  rw [← h1] at hsq2
  have hn := sideOf_range xs.length
  generalize hW : (w.alloc (.cells #[.slice A xs.length ca] 22)).alloc (.cells #[.slice B ys.length cb] 22) = W
  obtain ⟨hpa, hpb, hbW⟩ := two_boxes w (.slice A xs.length ca) (.slice B ys.length cb) _ _ rfl rfl
  rw [hW] at hpa hpb hbW
  have each := each_97 F (sideOf xs.length) A B xs.length ys.length ca cb ⟨w.heap.size, 0, none⟩ ⟨w.heap.size + 1, 0, none⟩ W rfl h1.symm (by omega)
    (fun W1 i j hi hj hb => by
      rw [hF i j hi hj]
      exact subc_list _ i j ca cb xs ys _ _ A B W1 (pw_cell_below hb hpa) (pw_cell_below hb hpb) ((hra.below hbW).below hb) ((hrb.below hbW).below hb) hn hi hj hsq.symm hsq2.symm)
  have HE := Aside0.mk each
  have HW := Aside0.mk hbW
  have HWe := Aside0.mk hW
  clear each hbW hpa hpb hF hra hrb h0 h1 hsq hsq2 hW
  have hmf : ∀ (fn : Fn) (first cap : Array Value) (w : World), (Instr.makeFunc fn first cap).run Try.prog w = .ok (.func fn first cap) w := fun _ _ _ _ => rfl
  go_enter Try.func34, Try.ntmps34
  go_wp2_with fail
  rw [HWe.out]
  refine HE.out.mono ?_
  rintro e w1 ⟨v, rfl, ho, hb⟩
  go_wp2
  go_ret2
  exact ⟨_, rfl, own_weaken ho HW.out.size, HW.out.trans (hb.mono HW.out.size)⟩
theorem matSub_err (A B : Option Addr) (la lb ca cb : Nat) (w : World) (h : sideOf la = 0 ∨ sideOf la ≠ sideOf lb) :
    Calls Try.prog 34 #[.slice A la ca, .slice B lb cb] w fun e w' => e = .returned (.tuple #[.slice none 0 0, .int .i64 14]) ∧ Below w.heap.size w w' := by
  have HE := Aside0.mk h
  clear h
  have hmf : ∀ (fn : Fn) (first cap : Array Value) (w : World), (Instr.makeFunc fn first cap).run Try.prog w = .ok (.func fn first cap) w := fun _ _ _ _ => rfl
  go_enter Try.func34, Try.ntmps34
  go_wp2_with (first | (go_at_call 42; refine (each_err _ _ _ _ _ _ _ _ HE.out).mono ?_; rintro e w1 ⟨rfl, hb1⟩))
  go_ret2
  exact ⟨rfl, (((Below.refl _ _).alloc (Nat.le_refl _) _).alloc (by simp) _).trans (hb1.mono (by simp; omega))⟩
end Go.Proofs.Ytpjfelbamcgnhaa.Gv
