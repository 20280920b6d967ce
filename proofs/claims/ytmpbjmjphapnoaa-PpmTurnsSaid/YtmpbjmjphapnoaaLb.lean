/- ppm.Decode, by hand. -/
import Derived.Test.YtmpbjmjphapnoaaMb
import Derived.Test.YtmpbjmjphapnoaaLa
namespace Go.Proofs.Ytmpbjmjphapnoaa.Gv
open Go.RowKit Go.Proofs.Ytmpbjmjphapnoaa.X Go.Proofs.YtmpbjmjphapnoaaW.PrintWords Go.Proofs.YtmpbjmjphapnoaaW.PrintLast
set_option linter.unusedVariables false
theorem cutB_eq (s : ByteArray) (c : UInt8) : cutB s c = (B (cutL c s.data.toList).1, B (cutL c s.data.toList).2.1, (cutL c s.data.toList).2.2) := by
  obtain ⟨l, rfl⟩ : ∃ l, s = B l := ⟨_, (of_B s).symm⟩
  unfold cutB
  rw [B_data]
  have key : ∀ l : List UInt8, (Lib.indexByte l c < 0 → cutL c l = (l, [], false)) ∧ (0 ≤ Lib.indexByte l c → cutL c l = (l.take (Lib.indexByte l c).toNat, l.drop ((Lib.indexByte l c).toNat + 1), true)) := by
    intro l
    induction l with
    | nil => exact ⟨fun _ => rfl, fun h => absurd h (by simp [Lib.indexByte])⟩
    | cons b l ih =>
      rw [Lib.indexByte, cutL]
      have hge := Lib.indexByte_ge l c
      by_cases e : b = c
      · subst e
        simp
      · rw [if_neg e, if_neg (by simpa using e)]
        by_cases f : Lib.indexByte l c = -1
        · rw [if_pos (by simpa using f)]
          rw [ih.1 (by omega)]
          exact ⟨fun _ => rfl, fun h => absurd h (by decide)⟩
        · rw [if_neg (by simpa using f)]
          rw [ih.2 (by omega)]
          refine ⟨fun h => by omega, fun _ => ?_⟩
          rw [show (Lib.indexByte l c + 1).toNat = (Lib.indexByte l c).toNat + 1 by omega]
          rfl
  by_cases h : Lib.indexByte l c < 0
  · rw [if_pos h, (key l).1 h]
    rfl
  · rw [if_neg h, (key l).2 (by omega)]
    have e1 : ∀ i j, (B l).extract i j = B ((l.drop i).take (j - i)) := by
      intro i j
      apply ByteArray.ext
      simp [B, ByteArray.data_extract, List.extract_eq_take_drop]
    rw [e1, e1, B_size, List.drop_zero, Nat.sub_zero]
    rw [List.take_of_length_le (l := l.drop _) (by rw [List.length_drop]; omega)]
theorem cutL_size (c : UInt8) : ∀ l : List UInt8, (cutL c l).1.length ≤ l.length ∧ (cutL c l).2.1.length ≤ l.length := by
  intro l
  induction l with
  | nil => exact ⟨Nat.le_refl _, Nat.le_refl _⟩
  | cons b l ih =>
    rw [cutL]
    split
    · simp
    · simp only [List.length_cons]
      omega
/-- a row of bytes that is read, above a place -/
def RQ (w : World) (b : Nat) (v : Value) (xs : List Int) : Prop := (∀ k, v.ownBlock = some k → b ≤ k) ∧ ∃ A c, v = .slice A xs.length c ∧ xs.length ≤ c ∧ (Kd.int .u8).C w A xs.length xs
theorem RQ.lower {w : World} {b b' : Nat} {v : Value} {xs : List Int} (h : RQ w b v xs) (hb : b' ≤ b) : RQ w b' v xs := ⟨fun k hk => Nat.le_trans hb (h.1 k hk), h.2⟩
theorem RQ.below {w w1 : World} {b : Nat} {v : Value} {xs : List Int} (h : RQ w b v xs) (hb : Below w.heap.size w w1) : RQ w1 b v xs := by
  obtain ⟨h1, A, c, e, hl, hc⟩ := h
  exact ⟨h1, A, c, e, hl, Kd.C_below hc hb⟩
theorem RQ.drewN {w : World} {b : Nat} {v : Value} {xs : List Int} (h : RQ w b v xs) (m : Nat) : RQ (w.drewN m) b v xs := RQ.below h (pw_below_drewN (Below.refl _ _) m)
theorem RQ.drew {w : World} {b : Nat} {v : Value} {xs : List Int} (h : RQ w b v xs) : RQ w.drew b v xs := RQ.below h (Below.refl _ _).drew
theorem RQ.alloc {w : World} {b : Nat} {v : Value} {xs : List Int} (h : RQ w b v xs) (o : Obj) : RQ (w.alloc o) b v xs := RQ.below h (Below.alloc (Below.refl _ _) (Nat.le_refl _) o)
theorem RQ.slice {w : World} {b : Nat} {v : Value} {xs : List Int} (h : RQ w b v xs) : ∃ A c, v = .slice A xs.length c := by
  obtain ⟨_, A, c, e, _⟩ := h
  exact ⟨A, c, e⟩
theorem RQ.reads {w : World} {b n c : Nat} {A : Option Addr} {xs : List Int} (h : RQ w b (.slice A n c) xs) : n = xs.length ∧ n ≤ c ∧ (Kd.int .u8).C w A xs.length xs := by
  obtain ⟨_, A', c', e, hl, hc⟩ := h
  injection e with e1 e2 e3
  subst e1 e2 e3
  exact ⟨rfl, hl, hc⟩
theorem RQ.string {P : Program} {w : World} {b : Nat} {src dst e : TypeId} {v : Value} {xs : List Int} (hs : P.underlying src = some (.slice e)) (he : P.underlying e = some (.int .u8)) (hd : P.underlying dst = some .string) (h : RQ w b v xs) : (convert src dst v).run P w = .ok (.string (strOfNums xs)) w := by
  obtain ⟨_, A, c, rfl, hl, hc⟩ := h
  exact Kd.C_string hs he hd hc
/-- the boxes of what is left, and of what is wrong -/
structure DS (w : World) (g : Nat) (rest : ByteArray) (short wrong : Bool) : Prop where
  r : w.heap[g]? = some (.cells #[.string rest] 9 (0, 0))
  s : w.heap[g + 1]? = some (.cells #[.bool short] 4 (0, 0))
  x : w.heap[g + 1 + 1]? = some (.cells #[.bool wrong] 4 (0, 0))
theorem DS.cells {w : World} {g : Nat} {rest : ByteArray} {short wrong : Bool} (h : DS w g rest short wrong) :
    w.cell? ⟨g, 0, none⟩ = some (.string rest) ∧ w.cell? ⟨g + 1, 0, none⟩ = some (.bool short) ∧ w.cell? ⟨g + 1 + 1, 0, none⟩ = some (.bool wrong) ∧ w.frozen? ⟨g, 0, none⟩ = false ∧ w.frozen? ⟨g + 1, 0, none⟩ = false ∧ w.frozen? ⟨g + 1 + 1, 0, none⟩ = false :=
  ⟨(blk_cell h.r 0).trans rfl, (blk_cell h.s 0).trans rfl, (blk_cell h.x 0).trans rfl, blk_frozen h.r 0, blk_frozen h.s 0, blk_frozen h.x 0⟩
theorem DS.below {w w1 : World} {g : Nat} {rest : ByteArray} {short wrong : Bool} (h : DS w g rest short wrong) (hb : Below w.heap.size w w1) : DS w1 g rest short wrong := ⟨blk_below h.r hb, blk_below h.s hb, blk_below h.x hb⟩
theorem DS.put {w : World} {g : Nat} {rest : ByteArray} {short wrong : Bool} (h : DS w g rest short wrong) (r : ByteArray) (s x : Bool) :
    DS (((w.setCell ⟨g, 0, none⟩ (.string r)).setCell ⟨g + 1, 0, none⟩ (.bool s)).setCell ⟨g + 1 + 1, 0, none⟩ (.bool x)) g r s x := by
  have r1 := blk_put h.r 0 (.string r) rfl
  have s1 := (Below.heap_setCell w ⟨g, 0, none⟩ (.string r) (g + 1) (show g + 1 ≠ g by omega)).trans h.s
  have x1 := (Below.heap_setCell w ⟨g, 0, none⟩ (.string r) (g + 1 + 1) (show g + 1 + 1 ≠ g by omega)).trans h.x
  have r2 := (Below.heap_setCell _ ⟨g + 1, 0, none⟩ (.bool s) g (show g ≠ g + 1 by omega)).trans r1
  have s2 := blk_put s1 0 (.bool s) rfl
  have x2 := (Below.heap_setCell _ ⟨g + 1, 0, none⟩ (.bool s) (g + 1 + 1) (show g + 1 + 1 ≠ g + 1 by omega)).trans x1
  exact ⟨(Below.heap_setCell _ ⟨g + 1 + 1, 0, none⟩ (.bool x) g (show g ≠ g + 1 + 1 by omega)).trans r2, (Below.heap_setCell _ ⟨g + 1 + 1, 0, none⟩ (.bool x) (g + 1) (show g + 1 ≠ g + 1 + 1 by omega)).trans s2, blk_put x2 0 (.bool x) rfl⟩
set_option maxHeartbeats 4000000 in
theorem next_any (g : Nat) (rest : ByteArray) (short wrong : Bool) (c : UInt8) (B0 : Nat) (w0 w : World) (hD : DS w g rest short wrong) (hs : rest.size ≤ 100000) (hB : Below B0 w0 w) (hBg : B0 ≤ g) (hBw : B0 ≤ w.heap.size) :
    Calls Try.prog 20 #[.string ⟨#[c]⟩, .pointer (some ⟨g, 0, none⟩), .pointer (some ⟨g + 1, 0, none⟩), .pointer (some ⟨g + 1 + 1, 0, none⟩)] w fun e w' =>
      e = .returned (.int .i64 ((numL (cutL c rest.data.toList).1).1 : Int)) ∧ DS w' g (B (cutL c rest.data.toList).2.1) (short || !(cutL c rest.data.toList).2.2) (wrong || !(numL (cutL c rest.data.toList).1).2) ∧ Below B0 w0 w' := by
  have HC := Aside0.mk (cut_any rest c · hs)
  rw [cutB_eq] at HC
  have hz : rest.data.toList.length = rest.size := Array.length_toList
  have hn := number_any (B (cutL c rest.data.toList).1) (by rw [B_size]; have := (cutL_size c rest.data.toList).1; omega)
  rw [B_data] at hn
  have HN := Aside0.mk hn
  clear hn hz hs
  generalize numL (cutL c rest.data.toList).1 = nn at *
  generalize cutL c rest.data.toList = cc at *
  obtain ⟨n, ok⟩ := nn
  obtain ⟨c1, c2, is⟩ := cc
  have HD := Aside0.mk hD
  have HB := Aside0.mk hB
  obtain ⟨k0, k1, k2, f0, f1, f2⟩ := hD.cells
  clear hD hB
  simp only [] at HC HN ⊢
  cases short
  all_goals cases wrong
  all_goals
    go_enter Try.func20, Try.ntmps20
    go_wp2_with (first | (go_at_call 21; refine (HC.out _).mono ?_; rintro e w1 ⟨rfl, hb1⟩; have HD1 := Aside0.mk (HD.out.below hb1); have HB1 := Aside0.mk (below_then HB.out hBw hb1); have HZ1 := Aside0.mk hb1.size; obtain ⟨k0, k1, k2, f0, f1, f2⟩ := HD1.out.cells; clear hb1) | (go_at_call 22; refine (HN.out _).mono ?_; rintro e w2 ⟨rfl, hb2⟩; have HD2 := Aside0.mk (HD1.out.below hb2); have HB2 := Aside0.mk (below_then HB1.out (Nat.le_trans hBw HZ1.out) hb2); obtain ⟨k0, k1, k2, f0, f1, f2⟩ := HD2.out.cells; clear hb2))
    go_ret
    exact ⟨rfl, HD2.out.put _ _ _, Below.setCell (Below.setCell (Below.setCell HB2.out (p := ⟨g, 0, none⟩) hBg _) (p := ⟨g + 1, 0, none⟩) (Nat.le_succ_of_le hBg) _) (p := ⟨g + 1 + 1, 0, none⟩) (Nat.le_succ_of_le (Nat.le_succ_of_le hBg)) _⟩
set_option maxHeartbeats 4000000 in
theorem dec_short (s : ByteArray) (w : World) (h : s.size < 3) :
    Calls Try.prog 12 #[.string s] w fun e w' => e = .returned (.tuple #[.int .i64 0, .int .i64 0, .slice none 0 0, .int .i64 5]) ∧ Below w.heap.size w w' := by
  have c1 : ((s.size : Nat) : Int) < 3 := by omega
  go_enter Try.func12, Try.ntmps12
  go_wp2_with fail
  refine bodyPost_ret (results_list (rs := [.tmp 2, .tmp 3, .tmp 4, .tmp 5]) rfl (by simp) (.tmp (.tmp (.tmp (.tmp .nil))))) rfl ?_
  exact ⟨rfl, Below.refl _ _⟩
set_option maxHeartbeats 4000000 in
theorem dec_form (s : ByteArray) (w : World) (h : 3 ≤ s.size) (hp : (s.extract 0 3).toList ≠ [80, 54, 10]) :
    Calls Try.prog 12 #[.string s] w fun e w' => e = .returned (.tuple #[.int .i64 0, .int .i64 0, .slice none 0 0, .int .i64 6]) ∧ Below w.heap.size w w' := by
  have c1 : ¬ ((s.size : Nat) : Int) < 3 := by omega
  have c2 : (3 : Int) ≤ (s.size : Nat) := by omega
  have c3 : ((s.extract 0 3).toList == ([80, 54, 10] : List UInt8)) = false := beq_eq_false_iff_ne.mpr hp
  clear hp
  go_enter Try.func12, Try.ntmps12
  go_wp2_with fail
  refine bodyPost_ret (results_list (rs := [.tmp 2, .tmp 3, .tmp 4, .tmp 5]) rfl (by simp) (.tmp (.tmp (.tmp (.tmp .nil))))) rfl ?_
  exact ⟨rfl, Below.refl _ _⟩
theorem init_DS (w : World) (r : ByteArray) : DS (((w.alloc (.cells #[.string r] 9)).alloc (.cells #[.bool false] 4)).alloc (.cells #[.bool false] 4)) w.heap.size r false false ∧ Below w.heap.size w (((w.alloc (.cells #[.string r] 9)).alloc (.cells #[.bool false] 4)).alloc (.cells #[.bool false] 4)) := by
  have hz : ∀ (W : World) (o : Obj), (W.alloc o).heap.size = W.heap.size + 1 := fun W o => by simp
  have ha : ∀ (W : World) (o : Obj), Below W.heap.size W (W.alloc o) := fun W o => Below.alloc (Below.refl _ _) (Nat.le_refl _) o
  have b1 := blk_new w (.cells #[.string r] 9)
  have b2 := blk_new (w.alloc (.cells #[.string r] 9)) (.cells #[.bool false] 4)
  have b3 := blk_new ((w.alloc (.cells #[.string r] 9)).alloc (.cells #[.bool false] 4)) (.cells #[.bool false] 4)
  rw [hz] at b2
  rw [hz, hz] at b3
  refine ⟨⟨blk_below (blk_below b1 (ha _ _)) (ha _ _), blk_below b2 (ha _ _), b3⟩, ?_⟩
  have q1 := ha w (.cells #[.string r] 9)
  have q2 := below_then q1 q1.size (ha _ (.cells #[.bool false] 4))
  exact below_then q2 q2.size (ha _ (.cells #[.bool false] 4))
theorem numGo_lt : ∀ (l : List UInt8) (i n v : Nat), i ≤ 6 → n < 10 ^ i → numGo l i n = some v → v < 1000000 := by
  intro l
  induction l with
  | nil =>
    intro i n v hi hn h
    simp only [numGo, Option.some.injEq] at h
    subst h
    exact Nat.lt_of_lt_of_le hn (Nat.pow_le_pow_right (n := 10) (by decide) hi)
  | cons b l ih =>
    intro i n v hi hn h
    rw [numGo] at h
    split at h
    · cases h
    · rename_i hc
      have h57 : b.toNat ≤ 57 := by
        have := (lt8 57 b)
        have e57 : (57 : UInt8).toNat = 57 := rfl
        rw [e57] at this
        exact Nat.le_of_not_lt fun q => hc (.inr (.inl (this.mpr q)))
      exact ih (i + 1) _ v (Nat.lt_of_not_le fun q => hc (.inr (.inr q))) (dig_room n b.toNat i hn h57) h
theorem numL_lt (l : List UInt8) : (numL l).1 < 1000000 := by
  unfold numL
  cases h : numGo l 0 0 with
  | none => exact (show (0 : Nat) < 1000000 by decide)
  | some v => exact numGo_lt l 0 0 v (by decide) (by decide) h
/-- what is told in the end -/
def tell (i1 i2 i3 : Bool) (n1 n2 n3 : Nat × Bool) (r3 : List UInt8) : Int × Int × List Int × Int :=
  if ¬ (i1 = true ∧ i2 = true ∧ i3 = true) then (0, 0, [], 5) else
  if ¬ (n1.2 = true ∧ n2.2 = true ∧ n3.2 = true) then (0, 0, [], 6) else
  if dg n3.1 ≠ [50, 53, 53] then (0, 0, [], 6) else
  if chk n1.1 n2.1 (3 * n1.1 * n2.1) ≠ 0 then (0, 0, [], 3) else
  if r3.length < 3 * n1.1 * n2.1 then (0, 0, [], 5) else
  if 3 * n1.1 * n2.1 < r3.length then (0, 0, [], 6) else (n1.1, n2.1, nb r3, 0)
theorem RQ_nil (w : World) (b : Nat) : RQ w b (.slice none 0 0) [] := ⟨fun k h => (by cases h), none, 0, rfl, Nat.le_refl _, Kd.C_of_reads (enc := Value.int .u8) (h1 := fun _ => rfl) (d := (0 : Int)) ⟨rfl, (by decide), fun h => absurd h (by decide)⟩⟩
theorem RQ_bytes (w W : World) (b : Nat) (hb : b ≤ W.heap.size) (r : List UInt8) (hr : r.length ≤ 100000) : RQ (Lib.bytesWorld W 5 (B r)) b (.slice (some ⟨W.heap.size, 0, none⟩) (B r).size (grownCap W (B r).size 0 5)) (nb r) := by
  have e : bytesOf (B r) = nb r := by unfold bytesOf nb; rw [B_data]
  have h1 := bytes_reads W 5 (B r) (by rw [B_size]; omega)
  rw [e] at h1
  have hl : (nb r).length = (B r).size := by rw [B_size]; simp [nb]
  refine ⟨fun k hk => ?_, _, _, by rw [hl], by rw [hl]; exact grownCap_ge _ _ _ _, ?_⟩
  · have : W.heap.size = k := by injection hk
    omega
  · rw [hl]
    exact Kd.C_of_reads (h1 := fun _ => rfl) (d := (0 : Int)) h1
set_option maxHeartbeats 16000000 in
theorem dec_main (s : ByteArray) (w : World) (hs : s.size ≤ 100000) (h : 3 ≤ s.size) (hp : (s.extract 0 3).toList = [80, 54, 10]) (l1 a1 r1 a2 r2 a3 r3 : List UInt8) (i1 i2 i3 : Bool) (n1 n2 n3 : Nat × Bool)
    (hl1 : s.extract 3 s.size = B l1) (e1 : cutL 32 l1 = (a1, r1, i1)) (e2 : cutL 10 r1 = (a2, r2, i2)) (e3 : cutL 10 r2 = (a3, r3, i3)) (f1 : numL a1 = n1) (f2 : numL a2 = n2) (f3 : numL a3 = n3) :
    Calls Try.prog 12 #[.string s] w fun e w' => ∃ v0_ : Value, e = .returned (.tuple #[.int .i64 (tell i1 i2 i3 n1 n2 n3 r3).1, .int .i64 (tell i1 i2 i3 n1 n2 n3 r3).2.1, v0_, .int .i64 (tell i1 i2 i3 n1 n2 n3 r3).2.2.2]) ∧ RQ w' w.heap.size v0_ (tell i1 i2 i3 n1 n2 n3 r3).2.2.1 ∧ Below w.heap.size w w' := by
  have c1 : ¬ ((s.size : Nat) : Int) < 3 := by omega
  have c2 : (3 : Int) ≤ (s.size : Nat) := by omega
  have c3 : ((s.extract 0 3).toList == ([80, 54, 10] : List UInt8)) = true := beq_iff_eq.mpr hp
  have hmf : ∀ (fn : Fn) (first cap : Array Value) (w : World), (Instr.makeFunc fn first cap).run Try.prog w = .ok (.func fn first cap) w := fun _ _ _ _ => rfl
  have z1 : l1.length ≤ 100000 := by
    have h1 := congrArg ByteArray.size hl1
    rw [B_size, ByteArray.size_extract] at h1
    omega
  have z2 : r1.length ≤ 100000 := by have h1 := (cutL_size 32 l1).2; rw [e1] at h1; exact Nat.le_trans h1 z1
  have z3 : r2.length ≤ 100000 := by have h1 := (cutL_size 10 r1).2; rw [e2] at h1; exact Nat.le_trans h1 z2
  have z4 : r3.length ≤ 100000 := by have h1 := (cutL_size 10 r2).2; rw [e3] at h1; exact Nat.le_trans h1 z3
  obtain ⟨hD0, hB0⟩ := init_DS w (B l1)
  have HD0 := Aside0.mk hD0
  have HB0 := Aside0.mk hB0
  have HN1 := Aside0.mk (next_any w.heap.size (B l1) false false 32 w.heap.size w _ hD0 (by rw [B_size]; exact z1) hB0 (Nat.le_refl _) hB0.size)
  have HN2 := Aside0.mk (fun (sv wv : Bool) (V : World) (hD : DS V w.heap.size (B r1) sv wv) (hB : Below w.heap.size w V) => next_any w.heap.size (B r1) sv wv 10 w.heap.size w V hD (by rw [B_size]; exact z2) hB (Nat.le_refl _) hB.size)
  have HN3 := Aside0.mk (fun (sv wv : Bool) (V : World) (hD : DS V w.heap.size (B r2) sv wv) (hB : Below w.heap.size w V) => next_any w.heap.size (B r2) sv wv 10 w.heap.size w V hD (by rw [B_size]; exact z3) hB (Nat.le_refl _) hB.size)
  simp only [B_data, e1, e2, e3, f1, f2, f3] at HN1 HN2 HN3
  have q1 := numL_lt a1
  have q2 := numL_lt a2
  have q3 := numL_lt a3
  rw [f1] at q1
  rw [f2] at q2
  rw [f3] at q3
  obtain ⟨n1, k1⟩ := n1
  obtain ⟨n2, k2⟩ := n2
  obtain ⟨n3, k3⟩ := n3
  simp only [] at HN1 HN2 HN3 q1 q2 q3
  have HDg := Aside0.mk (digits_any n3 (by omega))
  have p1 : n1 * n2 ≤ 1000000 * 1000000 := Nat.mul_le_mul (by omega) (by omega)
  have p2 : 3 * (n1 : Int) * (n2 : Int) = ((3 * n1 * n2 : Nat) : Int) := by rw [Int.natCast_mul, Int.natCast_mul]; rfl
  have p3 : 3 * n1 * n2 = 3 * (n1 * n2) := Nat.mul_assoc _ _ _
  have HCk := Aside0.mk (chk_any n1 n2 (3 * n1 * n2))
  have m1 : IntKind.i64.wrap (3 * (n1 : Int)) = 3 * (n1 : Int) := IntWalk.i64_in _ (by omega)
  have m2 : IntKind.i64.wrap (3 * (n1 : Int) * (n2 : Int)) = ((3 * n1 * n2 : Nat) : Int) := by rw [p2]; exact IntWalk.i64_in _ (by omega)
  have HT : Aside0 (tell i1 i2 i3 (n1, k1) (n2, k2) (n3, k3) r3 = tell i1 i2 i3 (n1, k1) (n2, k2) (n3, k3) r3) := ⟨rfl⟩
  rw [p2] at HCk
  have HT2 : Aside0 (tell i1 i2 i3 (n1, k1) (n2, k2) (n3, k3) r3 = if ¬ (i1 = true ∧ i2 = true ∧ i3 = true) then (0, 0, [], 5) else if ¬ (k1 = true ∧ k2 = true ∧ k3 = true) then (0, 0, [], 6) else if dg n3 ≠ [50, 53, 53] then (0, 0, [], 6) else if chk n1 n2 ((3 * n1 * n2 : Nat) : Int) ≠ 0 then (0, 0, [], 3) else if r3.length < 3 * n1 * n2 then (0, 0, [], 5) else if 3 * n1 * n2 < r3.length then (0, 0, [], 6) else ((n1 : Int), (n2 : Int), nb r3, (0 : Int))) := ⟨by unfold tell; rw [p2]⟩
  generalize tell i1 i2 i3 (n1, k1) (n2, k2) (n3, k3) r3 = res at *
  generalize 3 * n1 * n2 = p at *
  generalize chk n1 n2 (p : Int) = z at *
  have kb := fun W => print_bytes (P := Try.prog) 9 22 5 Try.underlying9 Try.underlying22 Try.underlying5 (B r3) W
  have HQ := Aside0.mk z4
  have hsz : ((B r3).size : Int) = (r3.length : Int) := by rw [B_size]
  obtain ⟨sv, hsv⟩ : ∃ b, (((false || !i1) || !i2) || !i3) = b := ⟨_, rfl⟩
  obtain ⟨wv, hwv⟩ : ∃ b, (((false || !k1) || !k2) || !k3) = b := ⟨_, rfl⟩
  have HSV := Aside0.mk hsv
  have HWV := Aside0.mk hwv
  clear e1 e2 e3 f1 f2 f3 hp hD0 hB0 z1 z2 z3 z4 q1 q2 q3 p1 p2 p3 hs HT
  cases sv with
  | true =>
    have HR := Aside0.mk (HT2.out.trans (if_pos (by rintro ⟨rfl, rfl, rfl⟩; exact absurd hsv (by decide))))
    clear HT2 hsv hwv
    go_enter Try.func12, Try.ntmps12
    go_wp2_with (first | (go_at_call 20; refine (HN3.out _ _ _ HD2.out HB2.out).mono ?_; rintro e w3 ⟨rfl, hD3, hB3⟩; rw [HSV.out, HWV.out] at hD3; have HD3 := Aside0.mk hD3; have HB3 := Aside0.mk hB3; obtain ⟨k30, k31, k32, -, -, -⟩ := hD3.cells; clear hD3 hB3) | (go_at_call 20; refine (HN2.out _ _ _ HD1.out HB1.out).mono ?_; rintro e w2 ⟨rfl, hD2, hB2⟩; have HD2 := Aside0.mk hD2; have HB2 := Aside0.mk hB2; clear hD2 hB2) | (go_at_call 20; refine HN1.out.mono ?_; rintro e w1 ⟨rfl, hD1, hB1⟩; have HD1 := Aside0.mk hD1; have HB1 := Aside0.mk hB1; clear hD1 hB1) | (go_at_call 18; refine (HDg.out _).mono ?_; rintro e w4 ⟨rfl, hb4⟩; have HD4 := Aside0.mk (HD3.out.below hb4); have HB4 := Aside0.mk (below_then HB3.out HB3.out.size hb4); obtain ⟨k30, k31, k32, -, -, -⟩ := HD4.out.cells; clear hb4) | (go_at_call 17; refine (HCk.out _).mono ?_; rintro e w5 ⟨rfl, hb5⟩; have HD5 := Aside0.mk (HD4.out.below hb5); have HB5 := Aside0.mk (below_then HB4.out HB4.out.size hb5); obtain ⟨k30, k31, k32, -, -, -⟩ := HD5.out.cells; clear hb5))
    refine bodyPost_ret (results_list (rs := [.tmp 2, .tmp 3, .tmp 4, .tmp 5]) rfl (by simp) (.tmp (.tmp (.tmp (.tmp .nil))))) rfl ?_
    rw [HR.out]
    exact ⟨_, rfl, RQ_nil _ _, HB3.out⟩
  | false =>
    have hi : i1 = true ∧ i2 = true ∧ i3 = true := by revert hsv; cases i1 <;> cases i2 <;> cases i3 <;> decide
    have HT3 := Aside0.mk (HT2.out.trans (if_neg (not_not_intro hi)))
    cases wv with
    | true =>
      have HR := Aside0.mk (HT3.out.trans (if_pos (by rintro ⟨rfl, rfl, rfl⟩; exact absurd hwv (by decide))))
      clear HT2 HT3 hsv hwv hi
      go_enter Try.func12, Try.ntmps12
      go_wp2_with (first | (go_at_call 20; refine (HN3.out _ _ _ HD2.out HB2.out).mono ?_; rintro e w3 ⟨rfl, hD3, hB3⟩; rw [HSV.out, HWV.out] at hD3; have HD3 := Aside0.mk hD3; have HB3 := Aside0.mk hB3; obtain ⟨k30, k31, k32, -, -, -⟩ := hD3.cells; clear hD3 hB3) | (go_at_call 20; refine (HN2.out _ _ _ HD1.out HB1.out).mono ?_; rintro e w2 ⟨rfl, hD2, hB2⟩; have HD2 := Aside0.mk hD2; have HB2 := Aside0.mk hB2; clear hD2 hB2) | (go_at_call 20; refine HN1.out.mono ?_; rintro e w1 ⟨rfl, hD1, hB1⟩; have HD1 := Aside0.mk hD1; have HB1 := Aside0.mk hB1; clear hD1 hB1) | (go_at_call 18; refine (HDg.out _).mono ?_; rintro e w4 ⟨rfl, hb4⟩; have HD4 := Aside0.mk (HD3.out.below hb4); have HB4 := Aside0.mk (below_then HB3.out HB3.out.size hb4); obtain ⟨k30, k31, k32, -, -, -⟩ := HD4.out.cells; clear hb4) | (go_at_call 17; refine (HCk.out _).mono ?_; rintro e w5 ⟨rfl, hb5⟩; have HD5 := Aside0.mk (HD4.out.below hb5); have HB5 := Aside0.mk (below_then HB4.out HB4.out.size hb5); obtain ⟨k30, k31, k32, -, -, -⟩ := HD5.out.cells; clear hb5))
      refine bodyPost_ret (results_list (rs := [.tmp 2, .tmp 3, .tmp 4, .tmp 5]) rfl (by simp) (.tmp (.tmp (.tmp (.tmp .nil))))) rfl ?_
      rw [HR.out]
      exact ⟨_, rfl, RQ_nil _ _, HB3.out⟩
    | false =>
      have hk : k1 = true ∧ k2 = true ∧ k3 = true := by revert hwv; cases k1 <;> cases k2 <;> cases k3 <;> decide
      have HT4 := Aside0.mk (HT3.out.trans (if_neg (not_not_intro hk)))
      clear HT2 HT3 hsv hwv hi hk
      by_cases g1 : dg n3 = [50, 53, 53]
      · have HT5 := Aside0.mk (HT4.out.trans (if_neg (not_not_intro g1)))
        have g2 : ((B (dg n3)).toList == ([50, 53, 53] : List UInt8)) = true := by rw [B_toList]; exact beq_iff_eq.mpr g1
        clear HT4 g1
        generalize B (dg n3) = D at *
        by_cases g3 : z = 0
        · have HT6 := Aside0.mk (HT5.out.trans (if_neg (not_not_intro g3)))
          have g4 : (z == 0) = true := beq_iff_eq.mpr g3
          have g4' : (z != 0) = false := bne_eq_false_iff_eq.mpr g3
          clear HT5 g3
          by_cases g5 : r3.length < p
          · have HR := Aside0.mk (HT6.out.trans (if_pos g5))
            have g6 : ((B r3).size : Int) < (p : Int) := by omega
            clear HT6 g5
            go_enter Try.func12, Try.ntmps12
            go_wp2_with (first | (go_at_call 20; refine (HN3.out _ _ _ HD2.out HB2.out).mono ?_; rintro e w3 ⟨rfl, hD3, hB3⟩; rw [HSV.out, HWV.out] at hD3; have HD3 := Aside0.mk hD3; have HB3 := Aside0.mk hB3; obtain ⟨k30, k31, k32, -, -, -⟩ := hD3.cells; clear hD3 hB3) | (go_at_call 20; refine (HN2.out _ _ _ HD1.out HB1.out).mono ?_; rintro e w2 ⟨rfl, hD2, hB2⟩; have HD2 := Aside0.mk hD2; have HB2 := Aside0.mk hB2; clear hD2 hB2) | (go_at_call 20; refine HN1.out.mono ?_; rintro e w1 ⟨rfl, hD1, hB1⟩; have HD1 := Aside0.mk hD1; have HB1 := Aside0.mk hB1; clear hD1 hB1) | (go_at_call 18; refine (HDg.out _).mono ?_; rintro e w4 ⟨rfl, hb4⟩; have HD4 := Aside0.mk (HD3.out.below hb4); have HB4 := Aside0.mk (below_then HB3.out HB3.out.size hb4); obtain ⟨k30, k31, k32, -, -, -⟩ := HD4.out.cells; clear hb4) | (go_at_call 17; refine (HCk.out _).mono ?_; rintro e w5 ⟨rfl, hb5⟩; have HD5 := Aside0.mk (HD4.out.below hb5); have HB5 := Aside0.mk (below_then HB4.out HB4.out.size hb5); obtain ⟨k30, k31, k32, -, -, -⟩ := HD5.out.cells; clear hb5))
            refine bodyPost_ret (results_list (rs := [.tmp 2, .tmp 3, .tmp 4, .tmp 5]) rfl (by simp) (.tmp (.tmp (.tmp (.tmp .nil))))) rfl ?_
            rw [HR.out]
            exact ⟨_, rfl, RQ_nil _ _, HB5.out⟩
          · have HT7 := Aside0.mk (HT6.out.trans (if_neg g5))
            have g6 : ¬ ((B r3).size : Int) < (p : Int) := by omega
            clear HT6
            by_cases g7 : p < r3.length
            · have HR := Aside0.mk (HT7.out.trans (if_pos g7))
              have g8 : (p : Int) < ((B r3).size : Int) := by omega
              clear HT7 g5 g7
              go_enter Try.func12, Try.ntmps12
              go_wp2_with (first | (go_at_call 20; refine (HN3.out _ _ _ HD2.out HB2.out).mono ?_; rintro e w3 ⟨rfl, hD3, hB3⟩; rw [HSV.out, HWV.out] at hD3; have HD3 := Aside0.mk hD3; have HB3 := Aside0.mk hB3; obtain ⟨k30, k31, k32, -, -, -⟩ := hD3.cells; clear hD3 hB3) | (go_at_call 20; refine (HN2.out _ _ _ HD1.out HB1.out).mono ?_; rintro e w2 ⟨rfl, hD2, hB2⟩; have HD2 := Aside0.mk hD2; have HB2 := Aside0.mk hB2; clear hD2 hB2) | (go_at_call 20; refine HN1.out.mono ?_; rintro e w1 ⟨rfl, hD1, hB1⟩; have HD1 := Aside0.mk hD1; have HB1 := Aside0.mk hB1; clear hD1 hB1) | (go_at_call 18; refine (HDg.out _).mono ?_; rintro e w4 ⟨rfl, hb4⟩; have HD4 := Aside0.mk (HD3.out.below hb4); have HB4 := Aside0.mk (below_then HB3.out HB3.out.size hb4); obtain ⟨k30, k31, k32, -, -, -⟩ := HD4.out.cells; clear hb4) | (go_at_call 17; refine (HCk.out _).mono ?_; rintro e w5 ⟨rfl, hb5⟩; have HD5 := Aside0.mk (HD4.out.below hb5); have HB5 := Aside0.mk (below_then HB4.out HB4.out.size hb5); obtain ⟨k30, k31, k32, -, -, -⟩ := HD5.out.cells; clear hb5))
              refine bodyPost_ret (results_list (rs := [.tmp 2, .tmp 3, .tmp 4, .tmp 5]) rfl (by simp) (.tmp (.tmp (.tmp (.tmp .nil))))) rfl ?_
              rw [HR.out]
              exact ⟨_, rfl, RQ_nil _ _, HB5.out⟩
            · have HR := Aside0.mk (HT7.out.trans (if_neg g7))
              have g8 : ¬ (p : Int) < ((B r3).size : Int) := by omega
              clear HT7 g5 g7
              go_enter Try.func12, Try.ntmps12
              go_wp2_with (first | (go_at_call 20; refine (HN3.out _ _ _ HD2.out HB2.out).mono ?_; rintro e w3 ⟨rfl, hD3, hB3⟩; rw [HSV.out, HWV.out] at hD3; have HD3 := Aside0.mk hD3; have HB3 := Aside0.mk hB3; obtain ⟨k30, k31, k32, -, -, -⟩ := hD3.cells; clear hD3 hB3) | (go_at_call 20; refine (HN2.out _ _ _ HD1.out HB1.out).mono ?_; rintro e w2 ⟨rfl, hD2, hB2⟩; have HD2 := Aside0.mk hD2; have HB2 := Aside0.mk hB2; clear hD2 hB2) | (go_at_call 20; refine HN1.out.mono ?_; rintro e w1 ⟨rfl, hD1, hB1⟩; have HD1 := Aside0.mk hD1; have HB1 := Aside0.mk hB1; clear hD1 hB1) | (go_at_call 18; refine (HDg.out _).mono ?_; rintro e w4 ⟨rfl, hb4⟩; have HD4 := Aside0.mk (HD3.out.below hb4); have HB4 := Aside0.mk (below_then HB3.out HB3.out.size hb4); obtain ⟨k30, k31, k32, -, -, -⟩ := HD4.out.cells; clear hb4) | (go_at_call 17; refine (HCk.out _).mono ?_; rintro e w5 ⟨rfl, hb5⟩; have HD5 := Aside0.mk (HD4.out.below hb5); have HB5 := Aside0.mk (below_then HB4.out HB4.out.size hb5); obtain ⟨k30, k31, k32, -, -, -⟩ := HD5.out.cells; clear hb5))
              go_region
              go_wp2
              refine bodyPost_ret (results_list (rs := [.tmp 2, .tmp 3, .tmp 4, .tmp 5]) rfl (by simp) (.tmp (.tmp (.tmp (.tmp .nil))))) rfl ?_
              rw [HR.out]
              exact ⟨_, rfl, RQ_bytes w w5.drew _ HB5.out.size r3 HQ.out, bytes_below HB5.out.drew HB5.out.size _ _⟩
        · have HR := Aside0.mk (HT5.out.trans (if_pos g3))
          have g4 : (z == 0) = false := beq_eq_false_iff_ne.mpr g3
          have g4' : (z != 0) = true := bne_iff_ne.mpr g3
          clear HT5 g3
          go_enter Try.func12, Try.ntmps12
          go_wp2_with (first | (go_at_call 20; refine (HN3.out _ _ _ HD2.out HB2.out).mono ?_; rintro e w3 ⟨rfl, hD3, hB3⟩; rw [HSV.out, HWV.out] at hD3; have HD3 := Aside0.mk hD3; have HB3 := Aside0.mk hB3; obtain ⟨k30, k31, k32, -, -, -⟩ := hD3.cells; clear hD3 hB3) | (go_at_call 20; refine (HN2.out _ _ _ HD1.out HB1.out).mono ?_; rintro e w2 ⟨rfl, hD2, hB2⟩; have HD2 := Aside0.mk hD2; have HB2 := Aside0.mk hB2; clear hD2 hB2) | (go_at_call 20; refine HN1.out.mono ?_; rintro e w1 ⟨rfl, hD1, hB1⟩; have HD1 := Aside0.mk hD1; have HB1 := Aside0.mk hB1; clear hD1 hB1) | (go_at_call 18; refine (HDg.out _).mono ?_; rintro e w4 ⟨rfl, hb4⟩; have HD4 := Aside0.mk (HD3.out.below hb4); have HB4 := Aside0.mk (below_then HB3.out HB3.out.size hb4); obtain ⟨k30, k31, k32, -, -, -⟩ := HD4.out.cells; clear hb4) | (go_at_call 17; refine (HCk.out _).mono ?_; rintro e w5 ⟨rfl, hb5⟩; have HD5 := Aside0.mk (HD4.out.below hb5); have HB5 := Aside0.mk (below_then HB4.out HB4.out.size hb5); obtain ⟨k30, k31, k32, -, -, -⟩ := HD5.out.cells; clear hb5))
          refine bodyPost_ret (results_list (rs := [.tmp 2, .tmp 3, .tmp 4, .tmp 5]) rfl (by simp) (.tmp (.tmp (.tmp (.tmp .nil))))) rfl ?_
          rw [HR.out]
          exact ⟨_, rfl, RQ_nil _ _, HB5.out⟩
      · have HR := Aside0.mk (HT4.out.trans (if_pos g1))
        have g2 : ((B (dg n3)).toList == ([50, 53, 53] : List UInt8)) = false := by rw [B_toList]; exact beq_eq_false_iff_ne.mpr g1
        clear HT4 g1
        generalize B (dg n3) = D at *
        go_enter Try.func12, Try.ntmps12
        go_wp2_with (first | (go_at_call 20; refine (HN3.out _ _ _ HD2.out HB2.out).mono ?_; rintro e w3 ⟨rfl, hD3, hB3⟩; rw [HSV.out, HWV.out] at hD3; have HD3 := Aside0.mk hD3; have HB3 := Aside0.mk hB3; obtain ⟨k30, k31, k32, -, -, -⟩ := hD3.cells; clear hD3 hB3) | (go_at_call 20; refine (HN2.out _ _ _ HD1.out HB1.out).mono ?_; rintro e w2 ⟨rfl, hD2, hB2⟩; have HD2 := Aside0.mk hD2; have HB2 := Aside0.mk hB2; clear hD2 hB2) | (go_at_call 20; refine HN1.out.mono ?_; rintro e w1 ⟨rfl, hD1, hB1⟩; have HD1 := Aside0.mk hD1; have HB1 := Aside0.mk hB1; clear hD1 hB1) | (go_at_call 18; refine (HDg.out _).mono ?_; rintro e w4 ⟨rfl, hb4⟩; have HD4 := Aside0.mk (HD3.out.below hb4); have HB4 := Aside0.mk (below_then HB3.out HB3.out.size hb4); obtain ⟨k30, k31, k32, -, -, -⟩ := HD4.out.cells; clear hb4) | (go_at_call 17; refine (HCk.out _).mono ?_; rintro e w5 ⟨rfl, hb5⟩; have HD5 := Aside0.mk (HD4.out.below hb5); have HB5 := Aside0.mk (below_then HB4.out HB4.out.size hb5); obtain ⟨k30, k31, k32, -, -, -⟩ := HD5.out.cells; clear hb5))
        refine bodyPost_ret (results_list (rs := [.tmp 2, .tmp 3, .tmp 4, .tmp 5]) rfl (by simp) (.tmp (.tmp (.tmp (.tmp .nil))))) rfl ?_
        rw [HR.out]
        exact ⟨_, rfl, RQ_nil _ _, HB4.out⟩
theorem decode_any (a0 : ByteArray) (r1 r2 : Int) (r3 : List Int) (r4 : Int) (w : World) (hs : a0.size ≤ 100000) (h : decF a0 = (r1, r2, r3, r4)) :
    Calls Try.prog 12 #[.string a0] w fun e w' => ∃ v0_ : Value, e = .returned (.tuple #[.int .i64 r1, .int .i64 r2, v0_, .int .i64 r4]) ∧ RQ w' w.heap.size v0_ r3 ∧ Below w.heap.size w w' := by
  unfold decF decL at h
  have hz : a0.data.toList.length = a0.size := Array.length_toList
  have hex : ∀ i j, (a0.extract i j).toList = (a0.data.toList.drop i).take (j - i) := by
    intro i j
    rw [Lib.toList_data]
    simp [ByteArray.data_extract, List.extract_eq_take_drop]
  by_cases c1 : a0.size < 3
  · rw [if_pos (by omega)] at h
    simp only [Prod.mk.injEq] at h
    obtain ⟨rfl, rfl, rfl, rfl⟩ := h
    exact (dec_short a0 w c1).mono fun e w' ⟨he, hb⟩ => ⟨_, he, RQ_nil _ _, hb⟩
  · rw [if_neg (by omega)] at h
    have hp : (a0.extract 0 3).toList = a0.data.toList.take 3 := by rw [hex, List.drop_zero]
    by_cases c2 : a0.data.toList.take 3 = [80, 54, 10]
    · rw [if_neg (not_not_intro c2)] at h
      have hl1 : a0.extract 3 a0.size = B (a0.data.toList.drop 3) := by
        rw [← of_B (a0.extract 3 a0.size), ← Lib.toList_data, hex, List.take_of_length_le (by rw [List.length_drop]; omega)]
      have hm := dec_main a0 w hs (by omega) (by rw [hp, c2]) _ _ _ _ _ _ _ _ _ _ _ _ _ hl1 rfl rfl rfl rfl rfl rfl
      unfold tell at hm
      rw [h] at hm
      exact hm
    · rw [if_pos c2] at h
      simp only [Prod.mk.injEq] at h
      obtain ⟨rfl, rfl, rfl, rfl⟩ := h
      exact (dec_form a0 w (by omega) (by rw [hp]; exact c2)).mono fun e w' ⟨he, hb⟩ => ⟨_, he, RQ_nil _ _, hb⟩
end Go.Proofs.Ytmpbjmjphapnoaa.Gv
