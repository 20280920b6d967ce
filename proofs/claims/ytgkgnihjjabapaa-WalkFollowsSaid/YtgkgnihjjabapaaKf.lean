/- the law's awake, by hand. -/
import Derived.Test.YtgkgnihjjabapaaPq
namespace Go.Proofs.Ytgkgnihjjabapaa.Gv
open Go.RowKit Go.Proofs.Ytgkgnihjjabapaa.X Go.Proofs.Ytgkgnihjjabapaa.Pl Go.Proofs.Ytgkgnihjjabapaa.Pa Go.Proofs.YtgkgnihjjabapaaW.PrintWords Go.Proofs.YtgkgnihjjabapaaW.PrintLast
theorem one_C (x : Int) (t : TypeId) (W : World) (n : Nat) (hn : W.heap.size = n) : Kd.C (Kd.int .i64) (W.alloc (.cells #[.int .i64 x] t)) (some ⟨n, 0, none⟩) [x].length [x] := by
  subst hn
  exact lit_C W [x] t (by simp)
theorem one_R50 (x : S50) (W : World) : Kd.R k50 50 (W.alloc (.cells #[.int .i64 x.f0, .int .i64 x.f1, .bool x.f2] 50)) W.heap.size (fun _ => True) (.slice (some ⟨W.heap.size, 0, none⟩) [x].length [x].length) [x] := by
  refine ⟨fun k hk => trivial, [.int .i64 x.f0, .int .i64 x.f1, .bool x.f2], ?_, Reps.c3 (k50_mkM _ _ _ x) (Reps.none _ _)⟩
  have h2 := World.ownsRow_lit (base := W.heap.size) (e := 50) (size := k50.sz) W [Value.int .i64 x.f0, .int .i64 x.f1, .bool x.f2].toArray 1 (Nat.le_refl _) (by decide) (by rfl)
  simpa using h2
def A1 (w : World) : World := w.alloc (.cells #[.int .i64 1] 3 (0, 0))
def A2 (w : World) : World := (A1 w).alloc (.cells #[.int .i64 2] 3 (0, 0))
def A3 (w : World) : World := (A2 w).alloc (.cells #[.slice (some ⟨w.heap.size, 0, none⟩) 1 1, .slice (some ⟨w.heap.size + 1, 0, none⟩) 1 1] 24 (0, 0))
def A4 (w : World) : World := (A3 w).alloc (.cells #[.int .i64 1] 3 (0, 0))
def A5 (w : World) : World := (A4 w).alloc (.cells #[.int .i64 0] 3 (0, 0))
def A6 (w : World) : World := (A5 w).alloc (.cells #[.slice (some ⟨w.heap.size + 3, 0, none⟩) 1 1, .slice (some ⟨w.heap.size + 4, 0, none⟩) 1 1, .int .i64 1] 26 (0, 0))
theorem alloc_size (w : World) (o : Obj) : (w.alloc o).heap.size = w.heap.size + 1 := by simp
theorem al_below (w : World) (o : Obj) : Below w.heap.size w (w.alloc o) := Below.alloc (Below.refl _ _) (Nat.le_refl _) _
theorem s1 (w : World) : (A1 w).heap.size = w.heap.size + 1 := alloc_size _ _
theorem s2 (w : World) : (A2 w).heap.size = w.heap.size + 2 := by rw [A2, alloc_size, s1]
theorem s3 (w : World) : (A3 w).heap.size = w.heap.size + 3 := by rw [A3, alloc_size, s2]
theorem s4 (w : World) : (A4 w).heap.size = w.heap.size + 4 := by rw [A4, alloc_size, s3]
theorem s5 (w : World) : (A5 w).heap.size = w.heap.size + 5 := by rw [A5, alloc_size, s4]
theorem s6 (w : World) : (A6 w).heap.size = w.heap.size + 6 := by rw [A6, alloc_size, s5]
structure AWk (w W : World) : Prop where
  e : Kd.C (Kd.int .i64) W (some ⟨w.heap.size, 0, none⟩) ([1] : List Int).length [1]
  t : Kd.C (Kd.int .i64) W (some ⟨w.heap.size + 1, 0, none⟩) ([2] : List Int).length [2]
  g : Kd.C (Kd.int .i64) W (some ⟨w.heap.size + 3, 0, none⟩) ([1] : List Int).length [1]
  a : Kd.C (Kd.int .i64) W (some ⟨w.heap.size + 4, 0, none⟩) ([0] : List Int).length [0]
  m0 : W.cell? ⟨w.heap.size + 2, 0, none⟩ = some (.slice (some ⟨w.heap.size, 0, none⟩) 1 1)
  m1 : W.cell? ⟨w.heap.size + 2, 1, none⟩ = some (.slice (some ⟨w.heap.size + 1, 0, none⟩) 1 1)
  c0 : W.cell? ⟨w.heap.size + 5, 0, none⟩ = some (.slice (some ⟨w.heap.size + 3, 0, none⟩) 1 1)
  c1 : W.cell? ⟨w.heap.size + 5, 1, none⟩ = some (.slice (some ⟨w.heap.size + 4, 0, none⟩) 1 1)
  c2 : W.cell? ⟨w.heap.size + 5, 2, none⟩ = some (.int .i64 1)
theorem AWk.below {w W W1 : World} (h : AWk w W) (hb : Below W.heap.size W W1) : AWk w W1 :=
  ⟨Kd.C_below h.e hb, Kd.C_below h.t hb, Kd.C_below h.g hb, Kd.C_below h.a hb, cell_later' hb h.m0, cell_later' hb h.m1, cell_later' hb h.c0, cell_later' hb h.c1, cell_later' hb h.c2⟩
theorem aw_start (w : World) : AWk w (A6 w) ∧ Below w.heap.size w (A6 w) := by
  have b1 : Below (A1 w).heap.size (A1 w) (A2 w) := al_below _ _
  have b2 : Below (A2 w).heap.size (A2 w) (A3 w) := al_below _ _
  have b3 : Below (A3 w).heap.size (A3 w) (A4 w) := al_below _ _
  have b4 : Below (A4 w).heap.size (A4 w) (A5 w) := al_below _ _
  have b5 : Below (A5 w).heap.size (A5 w) (A6 w) := al_below _ _
  have b45 := below_then b4 b4.size b5
  have b35 := below_then b3 b3.size b45
  have b25 := below_then b2 b2.size b35
  have b15 := below_then b1 b1.size b25
  have b0 : Below w.heap.size w (A1 w) := al_below _ _
  have h3 : (A3 w).heap[w.heap.size + 2]? = some (.cells #[.slice (some ⟨w.heap.size, 0, none⟩) 1 1, .slice (some ⟨w.heap.size + 1, 0, none⟩) 1 1] 24 (0, 0)) := by
    have h := blk_new (A2 w) (.cells #[.slice (some ⟨w.heap.size, 0, none⟩) 1 1, .slice (some ⟨w.heap.size + 1, 0, none⟩) 1 1] 24 (0, 0))
    rw [s2] at h
    exact h
  have h6 : (A6 w).heap[w.heap.size + 5]? = some (.cells #[.slice (some ⟨w.heap.size + 3, 0, none⟩) 1 1, .slice (some ⟨w.heap.size + 4, 0, none⟩) 1 1, .int .i64 1] 26 (0, 0)) := by
    have h := blk_new (A5 w) (.cells #[.slice (some ⟨w.heap.size + 3, 0, none⟩) 1 1, .slice (some ⟨w.heap.size + 4, 0, none⟩) 1 1, .int .i64 1] 26 (0, 0))
    rw [s5] at h
    exact h
  have g3 := blk_below h3 b35
  exact ⟨⟨Kd.C_below (one_C 1 _ w _ rfl) b15, Kd.C_below (one_C 2 _ (A1 w) _ (s1 w)) b25, Kd.C_below (one_C 1 _ (A3 w) _ (s3 w)) b45, Kd.C_below (one_C 0 _ (A4 w) _ (s4 w)) b5,
    (blk_cell g3 0).trans rfl, (blk_cell g3 1).trans rfl, (blk_cell h6 0).trans rfl, (blk_cell h6 1).trans rfl, (blk_cell h6 2).trans rfl⟩, below_then b0 b0.size b15⟩
set_option maxHeartbeats 8000000 in
theorem awake35w (w : World) : Calls Try.prog 8 #[] w fun e w' => e = .returned (.bool true) ∧ Below w.heap.size w w' := by
  obtain ⟨K1, hK1⟩ := (Ev.of (walk_Mean.mono _ _ _ _ _ _) (k := 40) (by decide +kernel) : Ev (fun k => walk_Mean.f k [1] [2] [1] [0] 1 3) ([15], 0))
  have hM := hK1 K1 (Nat.le_refl _)
  obtain ⟨K2, hK2⟩ := Pq.awake_follow
  have hF := hK2 K2 (Nat.le_refl _)
  obtain ⟨K3, hK3⟩ := Ints_ev [15] [15] (by decide)
  have hI := hK3 K3 (Nat.le_refl _)
  obtain ⟨hA, hB⟩ := aw_start w
  have HA := Aside0.mk hA
  have HB := Aside0.mk hB
  have HM := Aside0.mk (walk_Mean.calls K1 _ 1 [1] _ 1 [2] _ 1 [1] _ 1 [0] 1 3 [15] 0 (A6 w) hA.e (Nat.le_refl _) hA.t (Nat.le_refl _) hA.g (Nat.le_refl _) hA.a (Nat.le_refl _) hM)
  have HF := Aside0.mk (fun W (h : AWk w W) => walk_Follow.calls K2 _ 1 [1] _ 1 [2] _ 1 [1] _ 1 [0] 1 0 _ 1 [⟨1, 0, true⟩] 3 1 0 _ (Kd.C_below h.e (al_below W _)) (Nat.le_refl _) (Kd.C_below h.t (al_below W _)) (Nat.le_refl _) (Kd.C_below h.g (al_below W _)) (Nat.le_refl _) (Kd.C_below h.a (al_below W _)) (Nat.le_refl _) (Kd.R_reads' (one_R50 ⟨1, 0, true⟩ W)).2.2 (Nat.le_refl _) hF)
  have HI := Aside0.mk (fun A c W (h : Kd.C (Kd.int .i64) W A ([15] : List Int).length [15]) (hc : 1 ≤ c) => penumbraref01_Ints.calls K3 A c [15] _ 1 [15] true _ (Kd.C_below h (al_below W _)) hc (one_C 15 3 W _ rfl) (Nat.le_refl _) hI)
  clear hK1 hK2 hK3 hM hF hI hA hB
  go_enter Try.func8, Try.ntmps8
  go_wp2_with (first
    | (go_at_call 13; refine HM.out.mono ?_; rintro x w1 ⟨v, rfl, hR, hb1⟩; obtain ⟨Av, cv, rfl⟩ := Kd.R_slice hR; have hr := Kd.R_reads' hR; have HR := Aside0.mk hr.2.2; have hcv : 1 ≤ cv := hr.2.1; have ha1 := AWk.below HA.out hb1; have HA1 := Aside0.mk ha1; have HB1 := Aside0.mk (below_then HB.out HB.out.size hb1); have k1 := ha1.m0; have k2 := ha1.m1; have k3 := ha1.c0; have k4 := ha1.c1; have k5 := ha1.c2; clear hR hb1 hr ha1)
    | (go_at_call 9; refine (HF.out w1 HA1.out).mono ?_; rintro x w2 ⟨rfl, hb2⟩; have hb2' := below_then (al_below w1 _) (al_below w1 _).size hb2; have HR2 := Aside0.mk (Kd.C_below HR.out hb2'); have HB2 := Aside0.mk (below_then HB1.out HB1.out.size hb2'); clear hb2 hb2')
    | (go_at_call 14; refine (HI.out Av cv w2 HR2.out hcv).mono ?_; rintro x w3 ⟨rfl, hb3⟩; have HB3 := Aside0.mk (below_then HB2.out HB2.out.size (below_then (al_below w2 _) (al_below w2 _).size (Drawn0.below hb3))); clear hb3))
  go_ret
  exact ⟨rfl, HB3.out⟩
end Go.Proofs.Ytgkgnihjjabapaa.Gv
