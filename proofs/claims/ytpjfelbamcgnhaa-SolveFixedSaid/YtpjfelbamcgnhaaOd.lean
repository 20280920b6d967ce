/- package solve: a table laid. -/
import Derived.Test.YtpjfelbamcgnhaaOe
namespace Go.Proofs.Ytpjfelbamcgnhaa.Gv
open Go.RowKit Go.Proofs.Ytpjfelbamcgnhaa.X Go.Proofs.YtpjfelbamcgnhaaW.PrintWords Go.Proofs.YtpjfelbamcgnhaaW.PrintLast Pl Pa De
set_option linter.unusedVariables false
set_option linter.unusedSimpArgs false
/-- a table's numbers as they are laid -/
def ini (n : Nat) (a b : List Int) : Nat → Nat → Int := fun i k => if k < n then of (a.getD (i * n + k) 0) else of (b.getD i 0)
theorem ini_row (n i lo hi : Nat) (la lb mid : List Int) (hlo : i * n = lo) (hhi : lo + n = hi) (hmid : (la.take hi).drop lo = mid) (hl : hi ≤ la.length) (k : Nat) (hk : k < n + 1) : ini n la lb i k = (mid.map of ++ [of (lb.getD i 0)]).getD k 0 := by
  have hml : mid.length = n := by rw [← hmid, List.length_drop, List.length_take]; omega
  unfold ini
  rw [List.getD_eq_getElem?_getD (l := mid.map of ++ [of (lb.getD i 0)])]
  by_cases q : k < n
  · have e : mid[k]? = la[lo + k]? := by rw [← hmid, List.getElem?_drop, List.getElem?_take, if_pos (by omega)]
    rw [if_pos q, List.getElem?_append_left (by rw [List.length_map]; omega), List.getElem?_map, e, hlo, List.getD_eq_getElem?_getD, List.getElem?_eq_getElem (by omega)]
    rfl
  · have e : k = (mid.map of).length := by rw [List.length_map]; omega
    rw [if_neg q, e, List.getElem?_append_right (Nat.le_refl _), Nat.sub_self]
    rfl
/-- n bits of a number -/
def bs (n m : Nat) : Array Bool := ((List.range n).map fun i => m.testBit i).toArray
theorem part_int {W : World} {ad : Addr} {xs : List Int} (h : (Kd.int .i64).C W (some ad) xs.length xs) (lo n : Nat) (hn : lo + n ≤ xs.length) : (Kd.int .i64).C W (some (ad.add lo)) n ((xs.take (lo + n)).drop lo) := by
  have hlen : ((xs.take (lo + n)).drop lo).length = n := by rw [List.length_drop, List.length_take]; omega
  obtain ⟨h1, h2, h3⟩ := Kd.reads_of_C (enc := Value.int .i64) (d := (0 : Int)) (h1 := fun _ => rfl) h
  refine Kd.C_of_reads (h1 := fun _ => rfl) (d := (0 : Int)) ⟨hlen, by omega, fun hp => ⟨_, rfl, fun j hj => ?_⟩⟩
  obtain ⟨ad2, e, hc⟩ := h3 (by omega)
  injection e with e
  subst e
  have hx := hc (lo + j) (by omega)
  have ea : (ad.add lo).add j = ad.add (lo + j) := Addr.add_add _ _ _
  have eg : ((xs.take (lo + n)).drop lo).getD j 0 = xs.getD (lo + j) 0 := by
    simp only [List.getD_eq_getElem?_getD, List.getElem?_drop, List.getElem?_take]
    rw [if_pos (by omega)]
  rw [ea, eg]
  exact hx
theorem clean_any (A : Option Addr) (c : Nat) (l : List Int) (w : World) (hl : l.length ≤ 1000) (hr : (Kd.int .i64).C w A l.length l) (hc : l.length ≤ c) :
    Calls Try.prog 38 #[.slice A l.length c] w fun e w' => ∃ v0_ : Value, e = .returned v0_ ∧ (Kd.int .i64).R 3 w' w.heap.size (fun _ => True) v0_ (l.map of) ∧ Below w.heap.size w w' := by
  obtain ⟨K, hK⟩ := Clean_ev l (by omega)
  exact field_Clean.calls K A c l _ w hr hc (hK K (Nat.le_refl _))
theorem of_any (a : Int) (w : World) : Calls Try.prog 39 #[.int .i64 a] w fun e w' => e = .returned (.int .i64 (of a)) ∧ Drawn0 w w' := field_Of.calls a _ w (Of_eq a)
theorem infoL : (Try.prog.info? 22).map (fun i => (i.zero, i.size, i.bytes)) = some (some (.slice none 0 0), 1, 24) := by kernel_rfl
/-- append of one value, at a step of a region that draws its order -/
theorem step_append_val {P : Program} {ops : Array Oper} {o : Oper} {a : Act} {K : Act → World → Prop} {Q : Exit → Act → World → Prop} {E : Prop} {w0 W : World} (base : Nat) (hgd : o.guard = none) (s x : Operand) (t e : TypeId) (z : Value) (bytes : Nat)
    (ho : o.op = .call { callee := .builtin .append, args := #[s, x], argTypes := #[t, t] })
    (ht : P.underlying t = some (.slice e)) (hinfo : (P.info? e).map (fun i => (i.zero, i.size, i.bytes)) = some (some z, 1, bytes)) (hz : z.cells.size = 1) (hb0 : 0 < bytes)
    (v : Value) (n : Nat) (xs : List Value) (y : Value) (h1 : y.oneCell' = true) (hs : a.eval s = v) (hx : a.eval x = .slice (some ⟨W.heap.size, 0, none⟩) 1 1)
    (HO : W.ownsRow base e 1 v n xs) (HB : Below base w0 W) (hbase : base ≤ W.heap.size) (hl : (n + 1) * bytes ≤ 140737488355328)
    (h : ∀ v1 w1, w1.ownsRow base e 1 v1 (n + 1) (xs ++ [y]) → Below base w0 w1 → W.grownBy w1 v.ownBlock → K (a.put o.dst v1) w1) :
    if Region.wanted o (yielded ops a.tmps) = true then Oper.wp P o a (W.alloc (.cells #[y] e)) K Q else E := by
  obtain ⟨i0, hi, hzz⟩ := Option.map_eq_some_iff.1 hinfo
  simp only [Prod.mk.injEq] at hzz
  obtain ⟨hz0, hz1, hz2⟩ := hzz
  have hlen : n + 1 ≤ 140737488355328 := Nat.le_trans (Nat.le_mul_of_pos_right _ hb0) hl
  refine step_append_lies (W.alloc (.cells #[y] e)) hgd s x t ho base e i0 _ 1 bytes ht hi hz0 hz1 hz2 hz (by omega) v n xs hs (HO.alloc _) ⟨W.heap.size, 0, none⟩ 1 1 [y] hx rfl
    (World.news_of_block (cs := #[y]) (t := e) (fr := (0, 0)) (heap_alloc_new W _)) (by simpa using h1) (by omega) (by simp only [maxLen]; omega) hl (by simp; omega) _ rfl ?_
  intro g cap w1 hown hg hat hlt
  exact h _ w1 hown ((HB.alloc hbase _).grown hg (by simp; omega) (own_base HO)) (World.grownBy.trans (World.grownBy_alloc W _ _) hg)
def layR.T6 : Bool × List (List Nat × List Nat) := (true, [([], []), ([], []), ([1], [1]), ([2], [2]), ([3], [3]), ([], []), ([], []), ([], []), ([6, 7], [6, 7]), ([8], [8]), ([9], [9]), ([10], [10]), ([5, 11, 10], [5, 11]), ([12], [12]), ([4, 13, 12], [4, 13]), ([0, 0, 1, 2, 3, 4, 5, 6, 7, 8, 9, 10, 11, 12, 13, 14], [0]), ([15, 0, 1, 2, 3, 4, 5, 6, 7, 8, 9, 10, 11, 12, 13, 14], [15]), ([16, 14, 14, 0, 1, 2, 3, 4, 5, 6, 7, 8, 9, 10, 11, 12, 13, 14], [14, 16])])
def layR.B6 : List Nat := [0, 0, 2, 6, 14, 0, 0, 0, 192, 448, 960, 1984, 4064, 8160, 16382, 32767, 65535, 131071]
theorem layR.tab6 : rtab .any (opsOf Try.f25 6) = layR.T6 := by kernel_rfl
theorem layR.bits6 : waitsOk layR.T6.2 layR.B6 = true := by kernel_rfl
set_option maxHeartbeats 8000000 in
theorem lay_any (ada : Addr) (c0 : Nat) (la : List Int) (A1 : Option Addr) (c1 : Nat) (lb : List Int) (n : Nat) (w : World) (hr0 : (Kd.int .i64).C w (some ada) la.length la) (hc0 : la.length ≤ c0) (hr1 : (Kd.int .i64).C w A1 lb.length lb) (hs : sideOf la.length = n) (hlb : lb.length = n) (hn1 : 1 ≤ n) :
    Calls Try.prog 25 #[.slice (some ada) la.length c0, .slice A1 lb.length c1] w fun e w' => ∃ g L rs cp, e = .returned (.pointer (some ⟨g, 0, none⟩)) ∧ TB w' w.heap.size g L n (n + 1) rs cp (ini n la lb) 1 ∧ Below w.heap.size w w' := by
  have hn12 : n ≤ 12 := by rw [← hs]; exact sideOf_range _
  have hsq : n * n = la.length := by rw [← hs]; exact sideOf_sq _ (by omega)
  have HSd := Aside0.mk (Side_any (some ada) c0 la.length w)
  rw [hs] at HSd
  have HR0 := Aside0.mk hr0
  have HR1 := Aside0.mk hr1
  obtain ⟨adb, rfl, -⟩ := Kd.at_int hr1 0 (by omega) (by omega)
  have HSq := Aside0.mk hsq
  have HLB := Aside0.mk hlb
  clear hs hr0 hr1 hsq
  have b0 := blk_new w (.cells #[.int .i64 n, .slice none 0 0, .int .i64 1] 51)
  have k0 := (blk_cell b0 0).trans rfl
  have HB0 := Aside0.mk (alloc_b w (.cells #[.int .i64 n, .slice none 0 0, .int .i64 1] 51))
  have HL0 : Aside0 (LP (w.alloc (.cells #[.int .i64 n, .slice none 0 0, .int .i64 1] 51)) w.heap.size w.heap.size n (n + 1) 0 (fun _ => 0) (fun _ => 0) (ini n la lb) (.slice none 0 0)) := ⟨⟨b0, own_nil _ _ _ _, fun j h => absurd h (Nat.not_lt_zero j), fun j k h => absurd h (Nat.not_lt_zero j), fun j h => absurd h (Nat.not_lt_zero j), fun h => (by cases h), Nat.le_refl _, fun j h => absurd h (Nat.not_lt_zero j)⟩⟩
  clear b0
  go_enter Try.func25, Try.ntmps25
  go_wp2_with (go_at_call 24; refine HSd.out.mono ?_; rintro e w' ⟨rfl, rfl⟩)
  go_loopw [16] (fun v wr => ∃ i : Nat, i ≤ n ∧ .int .i64 (i : Int) = v ∧ Aside0 (∃ rs cp u, LP wr w.heap.size w.heap.size n (n + 1) i rs cp (ini n la lb) u) ∧ Aside0 (Below w.heap.size w wr)) (fun v _ => n - (intOf v).toNat)
  case atStart => exact ⟨0, Nat.zero_le _, rfl, ⟨_, _, _, HL0.out⟩, HB0⟩
  case round =>
    obtain ⟨i, hin, rfl, hex, hb⟩ := hrel
    obtain ⟨rs, cp, u, hlp⟩ := hex.out
    have HLP := Aside0.mk hlp
    clear hex
    by_cases hlt : i < n
    · have hq : i * n + n ≤ la.length := by
        rw [← HSq.out]
        have h := Nat.mul_le_mul_right n (show i + 1 ≤ n from hlt)
        rw [Nat.add_mul, Nat.one_mul] at h
        exact h
      have hq2 : n * n ≤ 144 := Nat.mul_le_mul hn12 hn12
      have hq3 := HSq.out
      have m1 : IntKind.i64.wrap ((i : Int) * (n : Int)) = ((i * n : Nat) : Int) := by rw [← Int.natCast_mul]; exact IntWalk.i64_in _ (by omega)
      have m2 : IntKind.i64.wrap (((i * n : Nat) : Int) + (n : Int)) = ((i * n + n : Nat) : Int) := by rw [← Int.natCast_add]; exact IntWalk.i64_in _ (by omega)
      have HP := Aside0.mk (part_int (HR0.out) (i * n) n hq)
      have HMid : Aside0 (((la.take (i * n + n)).drop (i * n)).length = n) := ⟨by rw [List.length_drop, List.length_take]; omega⟩
      have g0 := (blk_cell hlp.t 0).trans rfl
      have g1 := (blk_cell hlp.t 1).trans rfl
      have g3 := blk_frozen hlp.t 1
      obtain ⟨lo, hlo⟩ : ∃ lo, i * n = lo := ⟨_, rfl⟩
      obtain ⟨hi, hhi⟩ : ∃ hi, lo + n = hi := ⟨_, rfl⟩
      have HLo := Aside0.mk hlo
      have HHi := Aside0.mk hhi
      rw [hlo] at m1 m2 hq HP HMid
      rw [hhi] at m2 hq HP HMid
      obtain ⟨mid, hmid⟩ : ∃ mid, (la.take hi).drop lo = mid := ⟨_, rfl⟩
      have HMd := Aside0.mk hmid
      rw [hmid] at HP HMid
      have hnn : hi - lo = n := by omega
      have HNN := Aside0.mk hnn
      have s1 : (0 : Int) ≤ (lo : Int) := by omega
      have s2 : (lo : Int) ≤ (hi : Int) := by omega
      have s3 : (hi : Int) ≤ (c0 : Int) := by omega
      have s4 : ¬ c0 = lo := by omega
      have HCC := Aside0.mk (show mid.length ≤ c0 - lo from by rw [HMid.out]; omega)
      have HCl := Aside0.mk (fun (V : World) (hV : Below w.heap.size w V) => (by
        have q := clean_any (some (ada.add lo)) (c0 - lo) mid V (by rw [HMid.out]; omega) (by rw [HMid.out]; exact Kd.C_below HP.out hV) HCC.out
        rw [HMid.out, ← HNN.out] at q
        exact q))
      have HQ := Aside0.mk hq
      clear hlo hhi hmid hnn hq hq2 hq3 hlp
      go_wp2
      go_region_held3 (fun w' => w'.cell? ⟨w.heap.size, 0, none⟩ = some (.int .i64 n)) (first | (go_keep; done) | exact cell_later' HBc.out (by assumption))
        (first | (go_at_call 38; refine (HCl.out _ hb.out.drew).mono ?_; rintro e w2 ⟨vc, rfl, hrc, hbc⟩; have HBc := Aside0.mk hbc; have HRc := Aside0.mk hrc))
      have HW2 := Aside0.mk (Below.trans (show Below wr.heap.size wr wr.drew from (Below.refl _ _).drew) HBc.out)
      obtain ⟨bi, hbi⟩ : ∃ bi, lb.getD i 0 = bi := ⟨_, rfl⟩
      have HBi := Aside0.mk hbi
      have HSS := Aside0.mk (fun (W : World) (hW : Below wr.heap.size wr W) => (show W.cell? ⟨w.heap.size, 1, none⟩ = some u ∧ W.frozen? ⟨w.heap.size, 1, none⟩ = false ∧ W.cell? (adb.add i) = some (.int .i64 bi) from by
        obtain ⟨adc, hadc, hcb⟩ := Kd.at_int (Kd.C_below HR1.out (below_then hb.out hb.out.size hW)) (i : Int) (by omega) (by rw [HLB.out]; omega)
        injection hadc with hadc
        subst hadc
        rw [rd_eq, Int.toNat_natCast, HBi.out] at hcb
        exact ⟨(blk_cell (blk_below HLP.out.t hW) 1).trans rfl, blk_frozen (blk_below HLP.out.t hW) 1, hcb⟩))
      obtain ⟨h0, -, hcb⟩ := HSS.out w2.drew HW2.out.drew
      have HBc6 := Aside0.mk (fun (W : World) (hW : Below w.heap.size w W) => (show W.cell? (adb.add i) = some (.int .i64 bi) from by
        obtain ⟨adc, hadc, hcb⟩ := Kd.at_int (Kd.C_below HR1.out hW) (i : Int) (by omega) (by rw [HLB.out]; omega)
        injection hadc with hadc
        subst hadc
        rw [rd_eq, Int.toNat_natCast, HBi.out] at hcb
        exact hcb))
      have i0 : (0 : Int) ≤ (i : Int) := by omega
      have i1 : (i : Int) < (n : Int) := by omega
      have HOw := Aside0.mk (Kd.own_of_R HRc.out)
      have HOf := Aside0.mk (of_any bi)
      have HLen : Aside0 ((mid.map of).length = n) := ⟨by rw [List.length_map, HMid.out]⟩
      have HXs : Aside0 (∃ xs : List Int, mid.map of = xs) := ⟨⟨_, rfl⟩⟩
      obtain ⟨xs, hxs⟩ := HXs.out
      have HX := Aside0.mk hxs
      rw [hxs] at HOw HLen
      clear hbi hxs HXs
      go_wp2
      refine start_ (n := 18) (S := fun w' => w'.cell? ⟨w.heap.size, 1, none⟩ = some u ∧ w'.cell? (adb.add i) = some (.int .i64 bi)) (ds := [17]) (bs 18 0) (by kernel_rfl) rfl (by kernel_rfl) ⟨h0, hcb⟩ (fun hHeld => ?_)
      refine with_tabW layR.tab6 layR.bits6 (fun HT_ HW_ => ?_)
      have H0 := Aside0.mk hHeld
      refine pure_ (i := 0) (N := some 39) (v := ?_) (a' := ?_) (bs 18 1) rfl rfl (any_of HT_.out (by kernel_rfl)) (fun _ _ _ h => h) (Or.inl ⟨by rfl, ?_⟩) ?_ ?_
      rotate_left
      · intro w'
        go_simp
        with_reducible rfl
      rotate_left
      · simp only [Act.put, List.setIfInBounds_toArray, List.set_cons_zero, List.set_cons_succ, i64_w, i32_w]
        rfl
      refine pure_ (i := 1) (N := some 40) (v := ?_) (a' := ?_) (bs 18 3) rfl rfl (any_of HT_.out (by kernel_rfl)) (fun _ _ _ h => h) (Or.inl ⟨by rfl, ?_⟩) ?_ ?_
      rotate_left
      · intro w'
        go_simp
        with_reducible rfl
      rotate_left
      · simp only [Act.put, List.setIfInBounds_toArray, List.set_cons_zero, List.set_cons_succ, i64_w, i32_w]
        rfl
      refine pure_ (i := 2) (N := some 41) (v := ?_) (a' := ?_) (bs 18 7) rfl rfl (any_of HT_.out (by kernel_rfl)) (fun _ _ _ h => h) (Or.inl ⟨by rfl, ?_⟩) ?_ ?_
      rotate_left
      · intro w'
        go_simp
        with_reducible rfl
      rotate_left
      · simp only [Act.put, List.setIfInBounds_toArray, List.set_cons_zero, List.set_cons_succ, i64_w, i32_w]
        rfl
      refine pure_ (i := 3) (N := some 42) (v := ?_) (a' := ?_) (bs 18 15) rfl rfl (any_of HT_.out (by kernel_rfl)) (fun _ _ _ h => h) (Or.inl ⟨by rfl, ?_⟩) ?_ ?_
      rotate_left
      · intro w'
        go_simp
        with_reducible rfl
      rotate_left
      · simp only [Act.put, List.setIfInBounds_toArray, List.set_cons_zero, List.set_cons_succ, i64_w, i32_w]
        rfl
      refine pure_ (i := 5) (N := some 44) (v := ?_) (a' := ?_) (bs 18 47) rfl rfl (any_of HT_.out (by kernel_rfl)) (fun _ _ _ h => h) (Or.inl ⟨by rfl, ?_⟩) ?_ ?_
      rotate_left
      · intro w'
        go_simp
        with_reducible rfl
      rotate_left
      · simp only [Act.put, List.setIfInBounds_toArray, List.set_cons_zero, List.set_cons_succ, i64_w, i32_w]
        rfl
      refine pure_ (i := 6) (N := some 45) (v := ?_) (a' := ?_) (bs 18 111) rfl rfl (any_of HT_.out (by kernel_rfl)) (fun _ _ _ h => h) (Or.inl ⟨by rfl, ?_⟩) ?_ ?_
      rotate_left
      · intro w'
        go_simp
        with_reducible rfl
      rotate_left
      · simp only [Act.put, List.setIfInBounds_toArray, List.set_cons_zero, List.set_cons_succ, i64_w, i32_w]
        rfl
      refine pure_ (i := 7) (N := some 46) (v := ?_) (a' := ?_) (bs 18 239) rfl rfl (any_of HT_.out (by kernel_rfl)) (fun _ _ _ h => h) (Or.inl ⟨by rfl, ?_⟩) ?_ ?_
      rotate_left
      · intro w'
        go_simp
        with_reducible rfl
      rotate_left
      · simp only [Act.put, List.setIfInBounds_toArray, List.set_cons_zero, List.set_cons_succ, i64_w, i32_w]
        rfl
      refine pure_ (i := 8) (N := some 47) (v := ?_) (a' := ?_) (bs 18 495) rfl rfl (any_of HT_.out (by kernel_rfl)) (fun _ _ _ h => h) (Or.inl ⟨by rfl, ?_⟩) ?_ ?_
      rotate_left
      · intro w'
        go_simp
        with_reducible rfl
      rotate_left
      · simp only [Act.put, List.setIfInBounds_toArray, List.set_cons_zero, List.set_cons_succ, i64_w, i32_w]
        rfl
      refine take_ (i := 4) (N := some 43) (v := ?_) (a' := ?_) (bs 18 511) rfl rfl (take_ofW HT_.out HW_.out (by kernel_rfl)) (fun _ _ _ h => h) (Or.inl ⟨by rfl, ?_⟩) hHeld ?_ ?_
      rotate_left
      · rintro w' ⟨s0, s1⟩
        go_simp
        with_reducible rfl
      rotate_left
      · simp only [Act.put, List.setIfInBounds_toArray, List.set_cons_zero, List.set_cons_succ, i64_w, i32_w]
        rfl
      refine take_ (i := 9) (N := some 48) (v := ?_) (a' := ?_) (bs 18 1023) rfl rfl (take_ofW HT_.out HW_.out (by kernel_rfl)) (fun _ _ _ h => h) (Or.inl ⟨by rfl, ?_⟩) hHeld ?_ ?_
      rotate_left
      · rintro w' ⟨s0, s1⟩
        go_simp
        with_reducible rfl
      rotate_left
      · simp only [Act.put, List.setIfInBounds_toArray, List.set_cons_zero, List.set_cons_succ, i64_w, i32_w]
        rfl
      refine one_ (i := 10) (N := some 49) (bs 18 2047) rfl rfl (one_of HT_.out (by kernel_rfl)) (by decide) (fun K hK => ?_)
      refine goes_ Try.func39 (by kernel_rfl) rfl #[.int .i64 bi] (by rfl) rfl rfl (by (try simp only [List.map_toArray, List.map_cons, List.map_nil]); first | done | rfl) ?_
      with_reducible refine (HOf.out _).mono ?_
      rintro e w3 ⟨rfl, ⟨nd, rfl⟩⟩
      refine ⟨_, rfl, ?_⟩
      refine hK.out _ _ ⟨(HSS.out _ (by repeat (first | (with_reducible first | exact HB4.out | exact HW2.out | apply below_alloc | apply pw_below_drewN | apply below_drew1) | exact HW2.out))).1, (HSS.out _ (by repeat (first | (with_reducible first | exact HB4.out | exact HW2.out | apply below_alloc | apply pw_below_drewN | apply below_drew1) | exact HW2.out))).2.2⟩ (fun hHeld => ?_)
      clear hK K
      refine norm_ (a' := ?_) ?_ ?_
      rotate_left
      · show Act.put _ (some 49) _ = _
        simp only [Act.put, List.setIfInBounds_toArray, List.set_cons_zero, List.set_cons_succ, i64_w, i32_w]
        rfl
      refine one_ (i := 11) (N := some 50) (bs 18 4095) rfl rfl (one_of HT_.out (by kernel_rfl)) (by decide) (fun K hK => ?_)
      refine value_ (w1 := ?_) (v := ?_) (by rfl) rfl ?_ ?_
      rotate_left 2
      · go_simp
        constructor
        · rfl
        · rfl
      refine hK.out _ _ ⟨(HSS.out _ (by repeat (first | (with_reducible first | exact HB4.out | exact HW2.out | apply below_alloc | apply pw_below_drewN | apply below_drew1) | exact HW2.out))).1, (HSS.out _ (by repeat (first | (with_reducible first | exact HB4.out | exact HW2.out | apply below_alloc | apply pw_below_drewN | apply below_drew1) | exact HW2.out))).2.2⟩ (fun hHeld => ?_)
      clear hK K
      refine norm_ (a' := ?_) ?_ ?_
      rotate_left
      · show Act.put _ (some 50) _ = _
        simp only [Act.put, List.setIfInBounds_toArray, List.set_cons_zero, List.set_cons_succ, i64_w, i32_w]
        rfl
      refine one_ (i := 12) (N := some 51) (bs 18 8191) rfl rfl (one_of HT_.out (by kernel_rfl)) (by decide) (fun K hK => ?_)
      refine step_append_num (w0 := wr) wr.heap.size (by rfl) _ _ _ 3 .i64 8 (by rfl) Try.underlying22 info3 (by decide) vc xs (of bi) (by rfl) (by rfl) HOw.out (by repeat (first | (with_reducible first | exact HB4.out | exact HW2.out | apply below_alloc | apply pw_below_drewN | apply below_drew1) | exact HW2.out)) HW2.out.size (by rw [HLen.out]; omega) ?_
      intro v1 w4 hown4 hb4 hgrow4
      obtain ⟨Ac, cc, rfl⟩ := own_slice hown4
      have HB4 := Aside0.mk hb4
      have HO4 := Aside0.mk hown4
      have HG4 := Aside0.mk hgrow4
      have hl4 : (xs ++ [of bi]).length = n + 1 := (by rw [List.length_append, HLen.out]; rfl)
      clear hgrow4 hown4 hb4
      refine hK.out _ _ ⟨(HSS.out _ HB4.out).1, (HSS.out _ HB4.out).2.2⟩ (fun hHeld => ?_)
      clear hK K
      refine norm_ (a' := ?_) ?_ ?_
      rotate_left
      · show Act.put _ (some 51) _ = _
        simp only [Act.put, List.setIfInBounds_toArray, List.set_cons_zero, List.set_cons_succ, i64_w, i32_w]
        rfl
      refine one_ (i := 13) (N := some 52) (bs 18 16383) rfl rfl (one_of HT_.out (by kernel_rfl)) (by decide) (fun K hK => ?_)
      refine value_ (w1 := ?_) (v := ?_) (by rfl) rfl ?_ ?_
      rotate_left 2
      · go_simp
        constructor
        · rfl
        · rfl
      refine hK.out _ _ ⟨(HSS.out _ (by repeat (first | (with_reducible first | exact HB4.out | exact HW2.out | apply below_alloc | apply pw_below_drewN | apply below_drew1) | exact HW2.out))).1, (HSS.out _ (by repeat (first | (with_reducible first | exact HB4.out | exact HW2.out | apply below_alloc | apply pw_below_drewN | apply below_drew1) | exact HW2.out))).2.2⟩ (fun hHeld => ?_)
      clear hK K
      refine norm_ (a' := ?_) ?_ ?_
      rotate_left
      · show Act.put _ (some 52) _ = _
        simp only [Act.put, List.setIfInBounds_toArray, List.set_cons_zero, List.set_cons_succ, i64_w, i32_w]
        rfl
      refine one_ (i := 14) (N := some 53) (bs 18 32767) rfl rfl (one_of HT_.out (by kernel_rfl)) (by decide) (fun K hK => ?_)
      refine step_append_val (w0 := w) w.heap.size (by rfl) _ _ _ 22 (.slice none 0 0) 24 (by rfl) Try.underlying49 infoL rfl (by decide) u i (rowsL rs cp (n + 1) i) _ rfl (by rfl) (by rfl) (pw_own_below HLP.out.o HB4.out) (below_then hb.out hb.out.size HB4.out) (Nat.le_trans hb.out.size HB4.out.size) (by omega) ?_
      intro v2 w6 hown6 hb6 hgrow6
      obtain ⟨Al, cl, rfl⟩ := own_slice hown6
      have HB6 := Aside0.mk hb6
      have HO6 := Aside0.mk hown6
      have HG6 := Aside0.mk hgrow6
      have HT6 := Aside0.mk (blk_grown (blk_below HLP.out.t HB4.out) hgrow6 HLP.out.nv)
      have k6 : w6.cell? ⟨w.heap.size, 1, none⟩ = some u := (blk_cell HT6.out 1).trans rfl
      have f6 := blk_frozen HT6.out 1
      have c6 := HBc6.out w6 hb6
      clear hgrow6 hown6 hb6
      refine hK.out _ _ ⟨k6, c6⟩ (fun hHeld => ?_)
      clear hK K
      refine norm_ (a' := ?_) ?_ ?_
      rotate_left
      · show Act.put _ (some 53) _ = _
        simp only [Act.put, List.setIfInBounds_toArray, List.set_cons_zero, List.set_cons_succ, i64_w, i32_w]
        rfl
      refine pure_ (i := 15) (N := some 54) (v := ?_) (a' := ?_) (bs 18 65535) rfl rfl (any_of HT_.out (by kernel_rfl)) (fun _ _ _ h => h) (Or.inl ⟨by rfl, ?_⟩) ?_ ?_
      rotate_left
      · intro w'
        go_simp
        with_reducible rfl
      rotate_left
      · simp only [Act.put, List.setIfInBounds_toArray, List.set_cons_zero, List.set_cons_succ, i64_w, i32_w]
        rfl
      refine pure_ (i := 16) (N := some 55) (v := ?_) (a' := ?_) (bs 18 131071) rfl rfl (any_of HT_.out (by kernel_rfl)) (fun _ _ _ h => h) (Or.inl ⟨by rfl, ?_⟩) ?_ ?_
      rotate_left
      · intro w'
        go_simp
        with_reducible rfl
      rotate_left
      · simp only [Act.put, List.setIfInBounds_toArray, List.set_cons_zero, List.set_cons_succ, i64_w, i32_w]
        rfl
      refine last_ (i := 17) (N := none) (bs 18 262143) rfl rfl (one_of HT_.out (by kernel_rfl)) (by decide) (fun K hK => ?_)
      refine skip_ (w1 := ?_) (by rfl) rfl ?_ ?_
      rotate_left
      · go_simp
        rfl
      refine hK.out _ _ ?_
      clear hK K
      refine done_ (done_of HT_.out (by kernel_rfl)) ?_
      go_wp2
      go_roundw
      case rel =>
        refine ⟨i + 1, by omega, by go_num, ⟨?_⟩, ⟨Below.setCell HB6.out (p := ⟨w.heap.size, 1, none⟩) (Nat.le_refl _) _⟩⟩
        obtain ⟨rs', cp', hl'⟩ := lp_next HLP.out HB4.out HO4.out HLen.out HO6.out HG6.out (fun k hk => by rw [← HX.out, ← HBi.out]; exact ini_row n i lo hi la lb mid HLo.out HHi.out HMd.out HQ.out k hk)
        exact ⟨rs', cp', _, hl'⟩
      case measure => simp [intOf]; omega
    · have hjn : i = n := by omega
      have HE := Aside0.mk hjn
      clear hjn hlp
      go_wp2
      go_ret
      have h9 := HLP.out
      rw [HE.out] at h9
      obtain ⟨L, hL⟩ := lp_tb h9 hn1
      exact ⟨w.heap.size, L, rs, cp, rfl, hL, hb.out⟩
end Go.Proofs.Ytpjfelbamcgnhaa.Gv
