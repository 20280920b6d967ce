/- Contracts of package graph's functions that take or make function values. -/
import Derived.Test.YtbjjjbjhpcdgmaaGb
import Derived.Deep.AppendLies
namespace Go.Proofs.Ytbjjjbjhpcdgmaa.Gv
open Go.RowKit Go.Proofs.YtbjjjbjhpcdgmaaW.PrintWords Pl

/-- append of one number, at a step of a region that draws its order -/
theorem step_append_num {P : Program} {ops : Array Oper} {o : Oper} {a : Act} {K : Act → World → Prop} {Q : Exit → Act → World → Prop} {E : Prop} {w0 W : World} (base : Nat) (hgd : o.guard = none) (s x : Operand) (t e : TypeId) (k : IntKind) (bytes : Nat)
    (ho : o.op = .call { callee := .builtin .append, args := #[s, x], argTypes := #[t, t] })
    (ht : P.underlying t = some (.slice e)) (hinfo : (P.info? e).map (fun i => (i.zero, i.size, i.bytes)) = some (some (.int k 0), 1, bytes)) (hb0 : 0 < bytes)
    (v : Value) (xs : List Int) (y : Int) (hs : a.eval s = v) (hx : a.eval x = .slice (some ⟨W.heap.size, 0, none⟩) 1 1)
    (HO : W.ownsRow base e 1 v xs.length (nums k xs)) (HB : Below base w0 W) (hbase : base ≤ W.heap.size) (hl : (xs.length + 1) * bytes ≤ 140737488355328)
    (h : ∀ v1 w1, w1.ownsRow base e 1 v1 (xs ++ [y]).length (nums k (xs ++ [y])) → Below base w0 w1 → W.grownBy w1 v.ownBlock → K (a.put o.dst v1) w1) :
    if Region.wanted o (yielded ops a.tmps) = true then Oper.wp P o a (W.alloc (.cells #[.int k y] e)) K Q else E := by
  obtain ⟨i0, hi, hzz⟩ := Option.map_eq_some_iff.1 hinfo
  simp only [Prod.mk.injEq] at hzz
  obtain ⟨hz0, hz1, hz2⟩ := hzz
  have hlen : xs.length + 1 ≤ 140737488355328 := Nat.le_trans (Nat.le_mul_of_pos_right _ hb0) hl
  refine step_append_lies (W.alloc (.cells #[.int k y] e)) hgd s x t ho base e i0 _ 1 bytes ht hi hz0 hz1 hz2 rfl (by omega) v xs.length (nums k xs) hs (HO.alloc _) ⟨W.heap.size, 0, none⟩ 1 1 [.int k y] hx rfl
    (World.news_of_block (cs := #[.int k y]) (t := e) (fr := (0, 0)) (heap_alloc_new W _)) (by simp [Value.oneCell']) (by omega) (by simp only [maxLen]; omega) hl (by simp; omega) _ rfl ?_
  intro g cap w1 hown hg hat hlt
  refine h _ w1 (by simpa [nums] using hown) ((HB.alloc hbase _).grown hg (by simp; omega) (own_base HO)) (World.grownBy.trans (World.grownBy_alloc W _ _) hg)
theorem nextc_any (x y : Int) (w : World) : Calls Try.prog 29 #[.int .i64 x, .int .i64 y] w fun e w' => e = .returned (.int .i64 (of (x + y))) ∧ Below w.heap.size w w' := by
  go_enter Try.func29, Try.ntmps29
  go_wp2_with (go_at_call 30; refine (add2_any w.heap.size 2 x y _ ?hh).mono ?_; (case hh => first | exact new_drew' _ _ _ (by simp) | exact new_at' _ _ _ (by simp)); rintro e w' ⟨rfl, rfl⟩)
  go_ret
  exact ⟨rfl, by go_grown⟩
theorem new_older (w : World) (o o' : Obj) (b : Nat) (h : w.heap[b]? = some o) : (w.alloc o').heap[b]? = some o := by
  have hb : b < w.heap.size := by
    rcases Nat.lt_or_ge b w.heap.size with h1 | h1
    · exact h1
    · rw [Array.getElem?_eq_none h1] at h; cases h
  rw [(MapKept.heap_alloc w o').2 b hb]; exact h
theorem heap_drew {w : World} {b : Nat} {o : Option Obj} (h : w.heap[b]? = o) : w.drew.heap[b]? = o := h
set_option maxHeartbeats 4000000 in
theorem sum_next (G : Int → Int → Int) (xs ys : List Int) (A B : Option Addr) (ca cb : Nat) (w : World)
    (hra : ReadsInt w .i64 A xs.length xs) (hrb : ReadsInt w .i64 B ys.length ys) (hl : xs.length ≤ 100000)
    (hclos : ∀ (W : World) (x y : Int), Below w.heap.size w W → Calls Try.prog 29 #[.int .i64 x, .int .i64 y] W fun e W' => e = .returned (.int .i64 (G x y)) ∧ Below W.heap.size W W') :
    Calls Try.prog 28 #[.slice A xs.length ca, .slice B ys.length cb, .func (.func 29) #[] #[]] w fun e w' => ∃ v : Value, e = .returned v ∧ w'.ownsRow w.heap.size 3 1 v (tabTo (fun k => G (xs.getD k 0) (ys.getD k 0)) (min xs.length ys.length)).length (nums .i64 (tabTo (fun k => G (xs.getD k 0) (ys.getD k 0)) (min xs.length ys.length))) ∧ Below w.heap.size w w' := by
  obtain ⟨N, hN⟩ : ∃ N : Nat, min xs.length ys.length = N := ⟨_, rfl⟩
  have hN1 : N ≤ xs.length := by omega
  have hN2 : N ≤ ys.length := by omega
  have hmin : (if ys.length < xs.length then (ys.length : Int) else (xs.length : Int)) = (N : Int) := by split <;> omega
  rw [hN]
  clear hN
  generalize hF : (fun k => G (xs.getD k 0) (ys.getD k 0)) = F
  have HF : Aside0 (∀ k, F k = G (xs.getD k 0) (ys.getD k 0)) := ⟨fun k => by rw [← hF]⟩
  clear hF
  have hra' := Aside0.mk hra
  have hrb' := Aside0.mk hrb
  have HC := Aside0.mk hclos
  clear hra hrb hclos
  go_enter Try.func28, Try.ntmps28
  go_wp2
  go_loopw [7, 14] (fun v c wr => ∃ k : Nat, k ≤ N ∧ c = .int .i64 k ∧ Aside0 (wr.ownsRow w.heap.size 3 1 v (tabTo F k).length (nums .i64 (tabTo F k))) ∧ Below w.heap.size w wr) (fun _ c _ => N - (intOf c).toNat)
  case atStart => exact ⟨0, Nat.zero_le _, rfl, ⟨by simpa [tabTo, nums] using own_nil _ _ _ _⟩, Below.refl _ _⟩
  case round =>
    obtain ⟨k, hk, rfl, ho, hb⟩ := hrel
    by_cases hlt : k < N
    · have b1 : k < xs.length := by omega
      have b2 : k < ys.length := by omega
      obtain ⟨ada, hA, hx⟩ := hra'.out.at_ (k : Int) (by omega) (by omega)
      obtain ⟨adb, hB, hy⟩ := hrb'.out.at_ (k : Int) (by omega) (by omega)
      rw [Int.toNat_natCast] at hx hy
      cases hA
      cases hB
      have hx1 := cell_later' hb hx
      have hy1 := cell_later' hb hy
      have X : rd xs (k : Int) = xs.getD k 0 := rfl
      have Y : rd ys (k : Int) = ys.getD k 0 := rfl
      rw [X] at hx1 hx
      rw [Y] at hy1 hy
      have hks : ((tabTo F k).length + 1) * 8 ≤ 140737488355328 := by rw [tabTo_length]; omega
      clear X Y
      have z0 : (0 : Int) ≤ k := by omega
      have z1 : (k : Int) < xs.length := by omega
      have z2 : (k : Int) < ys.length := by omega
      have HFk := Aside0.mk (HF.out k)
      generalize xs.getD k 0 = x at *
      generalize ys.getD k 0 = y at *
      have hX := Aside0.mk hx
      have hY := Aside0.mk hy
      clear hx hy
      have hbd := Aside0.mk (hb.drew)
      have hzw := hb.size
      go_wp2
      go_region_held3 (fun w' => w'.cell? (ada.add k) = some (.int .i64 x) ∧ w'.cell? (adb.add k) = some (.int .i64 y)) (first | (go_keep; done) | (refine ⟨pw_cell_below hbc ?_, pw_cell_below hbc ?_⟩ <;> assumption) | exact ⟨cell_later' hb4 hX.out, cell_later' hb4 hY.out⟩)
        (first | (go_at_call 29; refine (HC.out _ x y hbd.out).mono ?_; rintro e w2 ⟨rfl, hbc⟩) | ((refine step_append_num (w0 := w) w.heap.size (by rfl) _ _ _ 3 .i64 8 (by rfl) Try.underlying22 info3 (by decide) u7 (tabTo F k) (G x y) (by rfl) (by rfl) (pw_own_below ho.out.drew hbc) (below_then hbd.out hbd.out.size hbc) (by have := hbc.size; simp at this; omega) hks ?_; intro v1 w4 hown4 hb4 hgrow4)))
      go_wp2
      go_roundw
      case rel => exact ⟨k + 1, by omega, by go_num, ⟨by rw [tabTo_succ, HFk.out]; exact hown4⟩, hb4⟩
      case measure => simp [intOf]; omega
    · have hkn : k = N := by omega
      have H := Aside0.mk hkn
      clear hkn
      go_wp2
      go_ret
      exact ⟨_, rfl, by have h := ho.out; rw [H.out] at h; exact h, hb⟩
end Go.Proofs.Ytbjjjbjhpcdgmaa.Gv
