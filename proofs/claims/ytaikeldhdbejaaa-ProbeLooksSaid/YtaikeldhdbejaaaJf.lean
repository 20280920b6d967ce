/- chapter 40: awake, by hand. -/
import Derived.Test.YtaikeldhdbejaaaJe
namespace Go.Proofs.Ytaikeldhdbejaaa.Gv
open Go.RowKit Go.Proofs.YtaikeldhdbejaaaW.PrintWords Go.Proofs.YtaikeldhdbejaaaW.PrintLast Go.Proofs.YtaikeldhdbejaaaW.PrintMore
attribute [local go_sem] run_store_float
theorem six {w : World} (o1 o2 o3 o4 o5 o6 : Obj) :
    let W := (((((w.alloc o1).alloc o2).alloc o3).alloc o4).alloc o5).alloc o6
    W.heap[w.heap.size]? = some o1 ∧ W.heap[w.heap.size + 1]? = some o2 ∧ W.heap[w.heap.size + 1 + 1]? = some o3 ∧ W.heap[w.heap.size + 1 + 1 + 1]? = some o4 ∧ W.heap[w.heap.size + 1 + 1 + 1 + 1]? = some o5 ∧ W.heap[w.heap.size + 1 + 1 + 1 + 1 + 1]? = some o6 ∧ Below w.heap.size w W := by
  have s1 : (w.alloc o1).heap.size = w.heap.size + 1 := by simp
  have s2 : ((w.alloc o1).alloc o2).heap.size = w.heap.size + 1 + 1 := by simp
  have s3 : (((w.alloc o1).alloc o2).alloc o3).heap.size = w.heap.size + 1 + 1 + 1 := by simp
  have s4 : ((((w.alloc o1).alloc o2).alloc o3).alloc o4).heap.size = w.heap.size + 1 + 1 + 1 + 1 := by simp
  have s5 : (((((w.alloc o1).alloc o2).alloc o3).alloc o4).alloc o5).heap.size = w.heap.size + 1 + 1 + 1 + 1 + 1 := by simp
  have h2 := blk_new (w.alloc o1) o2
  have h3 := blk_new ((w.alloc o1).alloc o2) o3
  have h4 := blk_new (((w.alloc o1).alloc o2).alloc o3) o4
  have h5 := blk_new ((((w.alloc o1).alloc o2).alloc o3).alloc o4) o5
  have h6 := blk_new (((((w.alloc o1).alloc o2).alloc o3).alloc o4).alloc o5) o6
  rw [s1] at h2
  rw [s2] at h3
  rw [s3] at h4
  rw [s4] at h5
  rw [s5] at h6
  refine ⟨blk_alloc (blk_alloc (blk_alloc (blk_alloc (blk_alloc (blk_new w o1) o2) o3) o4) o5) o6, blk_alloc (blk_alloc (blk_alloc (blk_alloc h2 o3) o4) o5) o6, blk_alloc (blk_alloc (blk_alloc h3 o4) o5) o6, blk_alloc (blk_alloc h4 o5) o6, blk_alloc h5 o6, h6, ?_⟩
  have b1 := Below.alloc (Below.refl w.heap.size w) (Nat.le_refl _) o1
  have b2 := Below.alloc b1 b1.size o2
  have b3 := Below.alloc b2 b2.size o3
  have b4 := Below.alloc b3 b3.size o4
  have b5 := Below.alloc b4 b4.size o5
  exact Below.alloc b5 b5.size o6
theorem C3 {W : World} {g : Nat} {t : TypeId} {a b c : Nat} (h : W.heap[g]? = some (.cells #[.float .f64 a, .float .f64 b, .float .f64 c] t (0, 0))) : FK.C W (some ⟨g, 0, none⟩) [a, b, c].length [a, b, c] := by
  refine Kd.C_of_reads (h1 := fun _ => rfl) (d := (0 : Nat)) ⟨rfl, by simp, fun _ => ⟨_, rfl, fun j hj => ?_⟩⟩
  simp only [List.length_cons, List.length_nil, Nat.zero_add] at hj
  have hh := blk_cell h
  obtain rfl | rfl | rfl : j = 0 ∨ j = 1 ∨ j = 2 := by omega
  · exact (hh 0).trans rfl
  · exact (hh 1).trans rfl
  · exact (hh 2).trans rfl
theorem C1 {W : World} {g : Nat} {t : TypeId} {a : Int} (h : W.heap[g]? = some (.cells #[.int .i64 a] t (0, 0))) : (Kd.int .i64).C W (some ⟨g, 0, none⟩) [a].length [a] := by
  refine Kd.C_of_reads (h1 := fun _ => rfl) (d := (0 : Int)) ⟨rfl, by simp, fun _ => ⟨_, rfl, fun j hj => ?_⟩⟩
  simp only [List.length_cons, List.length_nil, Nat.zero_add] at hj
  have : j = 0 := by omega
  subst this
  exact (blk_cell h 0).trans rfl
structure AW (w W : World) : Prop where
  fx : FK.C W (some ⟨w.heap.size, 0, none⟩) [0, 4611686018427387904, 4613937818241073152].length [0, 4611686018427387904, 4613937818241073152]
  fy : FK.C W (some ⟨w.heap.size + 1 + 1 + 1, 0, none⟩) [0, 4611686018427387904, 4607182418800017408].length [0, 4611686018427387904, 4607182418800017408]
  dx : (Kd.int .i64).C W (some ⟨w.heap.size + 1, 0, none⟩) [4].length [4]
  px : W.heap[w.heap.size + 1 + 1]? = some (.cells #[.int .i64 1, .int .i64 1, .slice (some ⟨w.heap.size, 0, none⟩) 3 3, .slice (some ⟨w.heap.size + 1, 0, none⟩) 1 1] 25 (0, 0))
  py : W.heap[w.heap.size + 1 + 1 + 1 + 1 + 1]? = some (.cells #[.int .i64 1, .int .i64 1, .slice (some ⟨w.heap.size + 1 + 1 + 1, 0, none⟩) 3 3, .slice (some ⟨w.heap.size + 1 + 1 + 1 + 1, 0, none⟩) 1 1] 25 (0, 0))
  bel : Below w.heap.size w W
theorem AW.next {w W W1 : World} (h : AW w W) (hb : Below W.heap.size W W1) : AW w W1 :=
  ⟨Kd.C_below h.fx hb, Kd.C_below h.fy hb, Kd.C_below h.dx hb, blk_below h.px hb, blk_below h.py hb, below_then h.bel h.bel.size hb⟩
set_option maxHeartbeats 8000000 in
set_option maxRecDepth 100000 in
theorem awake40 (w : World) : Calls Try.prog 7 #[] w fun e w' => e = .returned (.bool true) ∧ Below w.heap.size w w' := by
  have hu := Try.underlying25
  have hu2 := Try.underlying28
  have e1 : difV 1 1 1 1 [0, 4611686018427387904, 4613937818241073152] [0, 4611686018427387904, 4607182418800017408] = (1, 0) := by decide +kernel
  have e2 : apV 1 1 1 1 [0, 4611686018427387904, 4613937818241073152] [0, 4611686018427387904, 4607182418800017408] = (4611686018427387904, 0) := by decide +kernel
  have e3 : litN [0, 4611686018427387904, 4613937818241073152] [0, 4611686018427387904, 4613937818241073152].length = 2 := by decide +kernel
  have e4 : mstN [0, 4611686018427387904, 4613937818241073152] [0, 4611686018427387904, 4613937818241073152].length = 4613937818241073152 := by decide +kernel
  have e5 : drpN [4] ([4] : List Int).length = 4 := by decide +kernel
  have e6 : goodV 1 1 [0, 4611686018427387904, 4613937818241073152] [4] = true := by decide +kernel
  have e7 : peq 1 0 0 1 0 0 = true := by decide +kernel
  have o1 : (FloatKind.f64.format.order 4611686018427387904 4611686018427387904 == some .eq) = true := by decide +kernel
  have he : ∀ w, (Op.equalIn 9999 26 (.float .f64 4613937818241073152) (.float .f64 4613937818241073152)).run Try.prog w = .ok true w := fun w => by
    rw [eqf_run, show feq 4613937818241073152 4613937818241073152 = true by decide +kernel]
  have hst : AW w ((((((w.alloc (.cells #[.float .f64 0, .float .f64 4611686018427387904, .float .f64 4613937818241073152] 26)).alloc (.cells #[.int .i64 4] 3)).alloc (.cells #[.int .i64 1, .int .i64 1, .slice (some ⟨w.heap.size, 0, none⟩) 3 3, .slice (some ⟨w.heap.size + 1, 0, none⟩) 1 1] 25)).alloc (.cells #[.float .f64 0, .float .f64 4611686018427387904, .float .f64 4607182418800017408] 26)).alloc (.cells #[.int .i64 0] 3)).alloc (.cells #[.int .i64 1, .int .i64 1, .slice (some ⟨w.heap.size + 1 + 1 + 1, 0, none⟩) 3 3, .slice (some ⟨w.heap.size + 1 + 1 + 1 + 1, 0, none⟩) 1 1] 25)) := by
    obtain ⟨h1, h2, h3, h4, h5, h6, hb⟩ := six (w := w) (.cells #[.float .f64 0, .float .f64 4611686018427387904, .float .f64 4613937818241073152] 26) (.cells #[.int .i64 4] 3) (.cells #[.int .i64 1, .int .i64 1, .slice (some ⟨w.heap.size, 0, none⟩) 3 3, .slice (some ⟨w.heap.size + 1, 0, none⟩) 1 1] 25) (.cells #[.float .f64 0, .float .f64 4611686018427387904, .float .f64 4607182418800017408] 26) (.cells #[.int .i64 0] 3) (.cells #[.int .i64 1, .int .i64 1, .slice (some ⟨w.heap.size + 1 + 1 + 1, 0, none⟩) 3 3, .slice (some ⟨w.heap.size + 1 + 1 + 1 + 1, 0, none⟩) 1 1] 25)
    exact ⟨C3 h1, C3 h4, C1 h2, h3, h6, hb⟩
  have HS := Aside0.mk hst
  have HD := Aside0.mk (fun (W : World) (h : AW w W) => differ_any 1 1 [0, 4611686018427387904, 4613937818241073152] (some ⟨w.heap.size, 0, none⟩) 3 (some ⟨w.heap.size + 1, 0, none⟩) 1 1 1 1 [0, 4611686018427387904, 4607182418800017408] (some ⟨w.heap.size + 1 + 1 + 1, 0, none⟩) 3 (some ⟨w.heap.size + 1 + 1 + 1 + 1, 0, none⟩) 1 1 W h.fx h.fy (by decide))
  have HA := Aside0.mk (fun (W : World) (h : AW w W) => apart_any 1 1 [0, 4611686018427387904, 4613937818241073152] (some ⟨w.heap.size, 0, none⟩) 3 (some ⟨w.heap.size + 1, 0, none⟩) 1 1 1 1 [0, 4611686018427387904, 4607182418800017408] (some ⟨w.heap.size + 1 + 1 + 1, 0, none⟩) 3 (some ⟨w.heap.size + 1 + 1 + 1 + 1, 0, none⟩) 1 1 W h.fx h.fy (by decide))
  have HL := Aside0.mk (fun (W : World) (h : AW w W) => look_any 1 1 [0, 4611686018427387904, 4613937818241073152] (some ⟨w.heap.size, 0, none⟩) 3 [4] (some ⟨w.heap.size + 1, 0, none⟩) 1 W h.fx h.dx (by decide) (by decide))
  have HG := Aside0.mk (fun (W : World) (h : AW w W) => good_any 1 1 [0, 4611686018427387904, 4613937818241073152] (some ⟨w.heap.size, 0, none⟩) 3 [4] (some ⟨w.heap.size + 1, 0, none⟩) 1 W h.fx h.dx (by decide) (by decide))
  have HM := Aside0.mk (same_any 1 0 0 1 0 0)
  rw [e1] at HD
  rw [e2] at HA
  rw [e3, e4, e5] at HL
  rw [e6] at HG
  rw [e7] at HM
  clear e1 e2 e3 e4 e5 e6 e7 hst
  go_enter Try.func7, Try.ntmps7
  go_wp2_with (first
    | (go_at_call 14; refine (HD.out _ HS.out).mono ?_; rintro x w1 ⟨rfl, hb1⟩; have HS1 := Aside0.mk (HS.out.next hb1); obtain ⟨k0, k1, k2, k3⟩ := pic_cells HS1.out.px; obtain ⟨j0, j1, j2, j3⟩ := pic_cells HS1.out.py; clear hb1)
    | (go_at_call 15; refine (HA.out _ HS1.out).mono ?_; rintro x w2 ⟨rfl, hb2⟩; have HS2 := Aside0.mk (HS1.out.next hb2); obtain ⟨k0, k1, k2, k3⟩ := pic_cells HS2.out.px; clear hb2)
    | (go_at_call 8; refine (HL.out _ HS2.out).mono ?_; rintro x w3 ⟨rfl, hb3⟩; have HS3 := Aside0.mk (HS2.out.next hb3); obtain ⟨k0, k1, k2, k3⟩ := pic_cells HS3.out.px; clear hb3)
    | (go_at_call 12; refine (HG.out _ HS3.out).mono ?_; rintro x w4 ⟨rfl, hb4⟩; have HS4 := Aside0.mk (HS3.out.next hb4); clear hb4)
    | (go_at_call 13; refine (HM.out _).mono ?_; rintro x w5 ⟨rfl, hb5⟩; have HS5 := Aside0.mk (HS4.out.next hb5); clear hb5))
  go_ret
  exact ⟨rfl, HS5.out.bel⟩
end Go.Proofs.Ytaikeldhdbejaaa.Gv
