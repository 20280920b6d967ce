/- The contract of series.Tail. -/
import Derived.Test.YtpjfelbamcgnhaaPc
import Derived.Test.YtpjfelbamcgnhaaGs
import Derived.Test.YtpjfelbamcgnhaaGd
import Derived.Test.YtpjfelbamcgnhaaXxD33a
namespace Go.Proofs.Ytpjfelbamcgnhaa.Gv
open Go.RowKit Go.Proofs.YtpjfelbamcgnhaaW.PrintWords Go.Proofs.YtpjfelbamcgnhaaW.PrintLast Go.Proofs.Ytpjfelbamcgnhaa.X Pl Pa Pb Pc

def deep (d : Int) : Prop := 0 ≤ d ∧ d ≤ 1024
instance (d : Int) : Decidable (deep d) := by unfold deep; exact inferInstance
theorem right0 : right [0] [0] := by decide
theorem chk_one {d : Int} (h : deep d) : ∃ l, Ev (fun k => graph_Term.f k [0] [0] d) (l, 0) := by
  obtain ⟨m, rfl⟩ := Int.eq_ofNat_of_zero_le h.1
  exact ⟨_, Term_yes right0 (by have := h.2; omega)⟩
theorem chk_far {d : Int} (h : ¬ deep d) : Ev (fun k => graph_Term.f k [0] [0] d) ([], 3) :=
  Term_range right0 (by unfold deep at h; omega)
/-- what series.check tells of depths -/
def deepVal : List Int → Int
  | [] => 0
  | d :: l => if deep d then deepVal l else 3
theorem chk_loop (ds : List Int) (hl : ds.length ≤ 1000) : ∀ (n i : Nat), i + n = ds.length → Ev (fun k => series_check.l0 k ds (ds.length : Int) (i : Int)) (deepVal (ds.drop i)) := by
  intro n
  induction n with
  | zero =>
    intro i hi
    rw [List.drop_of_length_le (by omega)]
    refine Ev.step (fun k => by rw [series_check.l0]) ?_
    exact ev_neg (by omega) (Ev.now _)
  | succ n ih =>
    intro i hi
    have hlt : i < ds.length := by omega
    refine Ev.step (fun k => by rw [series_check.l0]) ?_
    refine ev_pos (by omega) ?_
    refine ev_pos (by omega) ?_
    refine ev_pos (by omega) ?_
    rw [List.drop_eq_getElem_cons hlt, rd_eq, List.getD_eq_getElem?_getD, List.getElem?_eq_getElem hlt, Option.getD_some]
    generalize ds[i] = x
    by_cases c : deep x
    · obtain ⟨l, hl2⟩ := chk_one c
      refine Ev.bind hl2 ?_
      refine ev_pos rfl ?_
      rw [sucW i (by omega), deepVal, if_pos c]
      exact ih (i + 1) (by omega)
    · refine Ev.bind (chk_far c) ?_
      rw [deepVal, if_neg c]
      exact ev_neg (by decide) (Ev.now _)
theorem chk_no {e t : List Int} (ds : List Int) (h : ¬ right e t) : Ev (fun k => series_check.f k e t ds) 14 := by
  unfold series_check.f
  rw [Check_no h]
  refine ev_some ?_
  exact ev_neg (by decide) (Ev.now _)
theorem chk_yes {e t : List Int} (ds : List Int) (h : right e t) (hl : ds.length ≤ 1000) : Ev (fun k => series_check.f k e t ds) (deepVal ds) := by
  unfold series_check.f
  rw [Check_yes h]
  refine ev_some ?_
  refine ev_pos rfl ?_
  exact chk_loop ds hl ds.length 0 (by omega)

/-- the terms from a to k, without k, together -/
def tailTo (e t : List Int) (a : Int) : Nat → List Int
  | 0 => List.replicate e.length 0
  | k + 1 => if a ≤ k then addTo (tailTo e t a k) (itv e.length t k (e.map of)) (itv e.length t k (e.map of)).length else tailTo e t a k
theorem tailTo_length (e t : List Int) (a : Int) : ∀ k, (tailTo e t a k).length = e.length
  | 0 => List.length_replicate
  | k + 1 => by
    rw [tailTo]
    split
    · rw [addTo_length, tailTo_length e t a k]
    · exact tailTo_length e t a k
def tailVal (e t : List Int) (a b : Int) : List Int × Int :=
  if right e t then (if deepVal [a, b] = 0 then (tailTo e t a (b + 1).toNat, 0) else ([], 3)) else ([], 14)
theorem deepVal_two (a b : Int) : deepVal [a, b] = if deep a ∧ deep b then 0 else 3 := by
  unfold deepVal deepVal deepVal
  by_cases h1 : deep a
  · by_cases h2 : deep b
    · rw [if_pos h1, if_pos h2, if_pos ⟨h1, h2⟩]
    · rw [if_pos h1, if_neg h2, if_neg (fun h => h2 h.2)]
  · rw [if_neg h1, if_neg (fun h => h1 h.1)]
theorem row_apart {w : World} {base g : Nat} {v : Value} {xs : List Int} (h : Kd.R (Kd.int .i64) 3 w base (fun j => j ≠ g) v xs) :
    ∃ A c, v = .slice A xs.length c ∧ ReadsInt w .i64 A xs.length xs ∧ xs.length ≤ c ∧ Kd.C (Kd.int .i64) w A xs.length xs ∧ ∀ ad, A = some ad → 0 < xs.length → ad.block ≠ g := by
  obtain ⟨A, c, rfl, hc, hC⟩ := Kd.R_reads h
  refine ⟨A, c, rfl, Kd.reads_of_C (enc := Value.int .i64) (d := (0 : Int)) (h1 := fun _ => rfl) hC, hc, hC, ?_⟩
  rintro ad rfl hp
  obtain ⟨g', cap, e, _⟩ := Kd.R_form h hp
  injection e with e1
  injection e1 with e1
  subst e1
  exact h.1 g' rfl

theorem below_thru {w W w1 : World} (h : Below w.heap.size w W) (hb : Below W.heap.size W w1) : Below w.heap.size w w1 := below_then h h.size hb
set_option maxHeartbeats 4000000 in
theorem tail_err (A0 : Option Addr) (c0 : Nat) (e : List Int) (A1 : Option Addr) (c1 : Nat) (t : List Int) (a b c : Int) (w : World)
    (hr0 : Kd.C (Kd.int .i64) w A0 e.length e) (hc0 : e.length ≤ c0) (hr1 : Kd.C (Kd.int .i64) w A1 t.length t) (hc1 : t.length ≤ c1) (hE : Ev (fun k => series_check.f k e t [a, b]) c) (h0 : c ≠ 0) :
    Calls Try.prog 45 #[.agg #[.slice A0 e.length c0, .slice A1 t.length c1], .int .i64 a, .int .i64 b] w fun e w' => e = .returned (.tuple #[.slice none 0 0, .int .i64 c]) ∧ Below w.heap.size w w' := by
  obtain ⟨k, hk⟩ := Ev.rounds hE
  have HK := Aside0.mk hk
  have HR0 := Aside0.mk hr0
  have HR1 := Aside0.mk hr1
  have HN := bne_iff_ne.mpr h0
  clear hE hk hr0 hr1 h0
  go_enter Try.func45, Try.ntmps45
  go_wp2_with (first | (go_at_call 53; refine (series_check.calls k _ _ e _ _ t _ _ [a, b] c _ ?s1 hc0 ?s2 hc1 ?s3 (Nat.le_refl _) HK.out).mono ?_; (case s1 => repeat (first | exact HR0.out | (with_reducible refine Kd.C_alloc ?_ _) | (with_reducible refine Kd.C_drew ?_))); (case s2 => repeat (first | exact HR1.out | (with_reducible refine Kd.C_alloc ?_ _) | (with_reducible refine Kd.C_drew ?_))); (case s3 => exact Kd.C_of_reads (d := (0 : Int)) (h1 := fun _ => rfl) (reads_two (by first | exact new_drew' _ _ _ (by simp) | exact new_at' _ _ _ (by simp)))); rintro e w1 ⟨rfl, hb1⟩))
  go_ret2
  exact ⟨rfl, below_thru (by go_grown) hb1⟩
theorem box_thru {w w1 : World} {u v : Value} {T : TypeId} {o : Obj} (hb : Below ((w.alloc (.cells #[u, v] T)).alloc o).heap.size ((w.alloc (.cells #[u, v] T)).alloc o) w1) :
    w1.heap[w.heap.size]? = some (.cells #[u, v] T (0, 0)) ∧ Below w.heap.size w w1 := by
  refine ⟨(hb.block w.heap.size (by simp; omega)).trans ?_, below_thru (by go_grown) hb⟩
  exact new_older _ _ _ _ (new_at _ _)
theorem box_cells {W : World} {g : Nat} {u v : Value} {T : TypeId} (h : W.heap[g]? = some (.cells #[u, v] T (0, 0))) : W.cell? ⟨g, 0, none⟩ = some u ∧ W.cell? ⟨g, 1, none⟩ = some v :=
  ⟨(blk_cell h 0).trans rfl, (blk_cell h 1).trans rfl⟩
theorem row_from {W : World} {base g : Nat} {v : Value} {xs : List Int} (h : Kd.R (Kd.int .i64) 3 W base (fun _ => True) v xs) (hg : g < base) (b : Nat) (hb : b ≤ base) : Kd.R (Kd.int .i64) 3 W b (fun j => j ≠ g) v xs :=
  Kd.R_lower (Kd.R_mono (Kd.R_bound h) (fun k hk => by have := hk.2.1; omega)) hb
set_option maxHeartbeats 8000000 in
theorem tail_ok (A0 : Option Addr) (c0 : Nat) (e : List Int) (A1 : Option Addr) (c1 : Nat) (t : List Int) (a : Int) (b : Nat) (w : World)
    (hr0 : Kd.C (Kd.int .i64) w A0 e.length e) (hc0 : e.length ≤ c0) (hr1 : Kd.C (Kd.int .i64) w A1 t.length t) (hc1 : t.length ≤ c1) (hr : right e t) (_ : 0 ≤ a) (hb : b ≤ 1024)
    (hE : Ev (fun k => series_check.f k e t [a, (b : Int)]) 0) :
    Calls Try.prog 45 #[.agg #[.slice A0 e.length c0, .slice A1 t.length c1], .int .i64 a, .int .i64 b] w fun z w' => ∃ v : Value, z = .returned (.tuple #[v, .int .i64 0]) ∧ Kd.R (Kd.int .i64) 3 w' w.heap.size (fun _ => True) v (tailTo e t a (b + 1)) ∧ Below w.heap.size w w' := by
  obtain ⟨k, hk⟩ := Ev.rounds hE
  have HK := Aside0.mk hk
  obtain ⟨kc, hkc⟩ := Ev.rounds (Clean_ev e (by have := hr.2.1; omega))
  have HKC := Aside0.mk hkc
  have hr' := Aside0.mk hr
  have HR0 := Aside0.mk hr0
  have HR1 := Aside0.mk hr1
  have hn12 : e.length ≤ 12 := hr.2.1
  clear hE hk hkc hr0 hr1 hr
  go_enter Try.func45, Try.ntmps45
  go_wp2_with (first
    | (go_at_call 53; refine (series_check.calls k _ _ e _ _ t _ _ [a, (b : Int)] 0 _ ?s1 hc0 ?s2 hc1 ?s3 (Nat.le_refl _) HK.out).mono ?_; (case s1 => repeat (first | exact HR0.out | (with_reducible refine Kd.C_alloc ?_ _) | (with_reducible refine Kd.C_drew ?_))); (case s2 => repeat (first | exact HR1.out | (with_reducible refine Kd.C_alloc ?_ _) | (with_reducible refine Kd.C_drew ?_))); (case s3 => exact Kd.C_of_reads (d := (0 : Int)) (h1 := fun _ => rfl) (reads_two (by first | exact new_drew' _ _ _ (by simp) | exact new_at' _ _ _ (by simp)))); rintro z w1 ⟨rfl, hb1⟩; have hx1 := box_thru hb1; have HM1 := Aside0.mk hx1.1; have HB1 := Aside0.mk hx1.2; clear hx1 hb1; obtain ⟨hq1, hq2⟩ := box_cells HM1.out)
    | (go_at_call 54; refine (adder_any e.length (by omega) _).mono ?_; rintro z w2 ⟨g, pb, rfl, hpb, hne, hgl, hgb, hpl, hpl2, hR, hb2⟩; have HP := Aside0.mk hpb; have HS := Aside0.mk (Kd.R_lower hR HB1.out.size); have HM2 := Aside0.mk (blk_below HM1.out hb2); have HB2 := Aside0.mk (below_thru HB1.out hb2); have hmg := blk_lt HM1.out; clear hR hb2 hpb hq1 hq2; obtain ⟨hq1, hq2⟩ := box_cells HM2.out)
    | (go_at_call 38; refine (field_Clean.calls kc _ _ e _ _ (Kd.C_below HR0.out HB2.out) hc0 HKC.out).mono ?_; rintro z w3 ⟨v, rfl, hR, hb3⟩; have HL := Aside0.mk (row_from hR hgl w.heap.size HB2.out.size); have HS3 := Aside0.mk (Kd.R_below HS.out hb3); have HP3 := Aside0.mk (pw_cell_below hb3 HP.out); have HM3 := Aside0.mk (blk_below HM2.out hb3); have HB3 := Aside0.mk (below_thru HB2.out hb3); clear hR hb3 hq1 hq2))
  have hwg : w.heap.size ≤ g := by have := HB1.out.size; omega
  go_loopw [11, 33] (fun l c wr => ∃ k : Nat, k ≤ b + 1 ∧ c = .int .i64 k ∧ Aside0 (Kd.R (Kd.int .i64) 3 wr w.heap.size (fun j => j ≠ g) l (itv e.length t k (e.map of))) ∧ Aside0 (Kd.R (Kd.int .i64) 3 wr w.heap.size (fun _ => True) (.slice (some ⟨g, 0, none⟩) e.length e.length) (tailTo e t a k)) ∧ Aside0 (wr.cell? pb = some (.slice (some ⟨g, 0, none⟩) e.length e.length)) ∧ Aside0 (wr.heap[w.heap.size]? = some (.cells #[.slice A0 e.length c0, .slice A1 t.length c1] 37 (0, 0))) ∧ Aside0 (Below w.heap.size w wr)) (fun _ c _ => b + 1 - (intOf c).toNat)
  case atStart => exact ⟨0, Nat.zero_le _, rfl, HL, HS3, HP3, HM3, HB3⟩
  case round =>
    obtain ⟨k, hk, rfl, HL, HS, HP, HM, HB⟩ := hrel
    obtain ⟨hq1, hq2⟩ := box_cells HM.out
    obtain ⟨A, c, rfl, hrd, hlc, hC, hfar⟩ := row_apart HL.out
    have hll : (itv e.length t k (e.map of)).length = e.length := itv_length k _ (by rw [List.length_map])
    have his := itv_succ e.length t k (e.map of)
    have hts : tailTo e t a (k + 1) = if a ≤ k then addTo (tailTo e t a k) (itv e.length t k (e.map of)) (itv e.length t k (e.map of)).length else tailTo e t a k := rfl
    have htl := tailTo_length e t a k
    generalize itv e.length t k (e.map of) = l at *
    generalize hs0 : tailTo e t a k = s at *
    have Hs0 := Aside0.mk hs0
    clear hs0
    have HTS := Aside0.mk hts
    have HIS := Aside0.mk his
    have Htl := Aside0.mk htl
    have Hrd := Aside0.mk hrd
    have Hfar := Aside0.mk hfar
    have HC := Aside0.mk hC
    have Hll := Aside0.mk hll
    have hgw : g < wr.heap.size := Kd.R_lt HS.out g rfl
    clear hts his htl hrd hfar hC hll
    by_cases hlt : k < b + 1
    · obtain ⟨kt, hkt⟩ := Ev.rounds (Thrown_yes hr'.out Hll.out)
      have HT := Aside0.mk hkt
      clear hkt
      by_cases hak : a ≤ k
      · have HTS1 := Aside0.mk (HTS.out.trans (if_pos hak))
        have hs5 := Aside0.mk (adderc_any l s A c g e.length w.heap.size (fun _ => True) pb wr Hrd.out Hfar.out (by rw [Htl.out]; exact HP.out) hne (by rw [Htl.out]; exact HS.out) (by rw [Htl.out, Hll.out]; exact Nat.le_refl _))
        go_wp2_with (first
          | (go_at_call 60; refine hs5.out.mono ?_; rintro z w5 ⟨rfl, hS5, hG5⟩; have HS5 := Aside0.mk hS5; have HM5 := Aside0.mk (blk_grown HM.out hG5 (by intro e0; injection e0 with e0; omega)); have HB5 := Aside0.mk (Below.grown HB.out hG5 HB.out.size (fun j hj => by injection hj with hj; omega)); have HP5 := Aside0.mk (far_of hG5 HP.out hne); have hg6 : g < w5.heap.size := Nat.lt_of_lt_of_le hgw hG5.size; have HC5 := Aside0.mk ((Kd.R_reads' (Kd.R_grown HL.out hG5 (fun j hj e0 => by injection e0 with e0; exact hj e0))).2.2); clear hS5 hG5 hq1 hq2; obtain ⟨hq1, hq2⟩ := box_cells HM5.out)
          | (go_at_call 37; refine (graph_Thrown.calls kt _ _ e _ _ t _ _ l (mv e.length t l) 0 _ (Kd.C_below HR0.out HB5.out) hc0 (Kd.C_below HR1.out HB5.out) hc1 HC5.out hlc HT.out).mono ?_; rintro z w6 ⟨v6, rfl, hR6, hb6⟩; have HL6 := Aside0.mk (row_from hR6 hg6 w.heap.size HB5.out.size); have HM6 := Aside0.mk (blk_below HM5.out hb6); have HB6 := Aside0.mk (below_thru HB5.out hb6); have Hb6 := Aside0.mk hb6; clear hR6 hb6 hq1 hq2))
        go_roundw
        case rel => exact ⟨k + 1, by omega, by go_num, ⟨by rw [HIS.out]; exact HL6.out⟩, ⟨by rw [HTS1.out]; have h := HS5.out; rw [Htl.out] at h; exact Kd.R_below h Hb6.out⟩, ⟨pw_cell_below Hb6.out HP5.out⟩, HM6, HB6⟩
        case measure => simp [intOf]; omega
      · have HTS1 := Aside0.mk (HTS.out.trans (if_neg hak))
        have hg6 := hgw
        go_wp2_with (first
          | (go_at_call 37; refine (graph_Thrown.calls kt _ _ e _ _ t _ _ l (mv e.length t l) 0 _ (Kd.C_below HR0.out HB.out) hc0 (Kd.C_below HR1.out HB.out) hc1 HC.out hlc HT.out).mono ?_; rintro z w6 ⟨v6, rfl, hR6, hb6⟩; have HL6 := Aside0.mk (row_from hR6 hg6 w.heap.size HB.out.size); have HM6 := Aside0.mk (blk_below HM.out hb6); have HB6 := Aside0.mk (below_thru HB.out hb6); have Hb6 := Aside0.mk hb6; clear hR6 hb6 hq1 hq2))
        go_roundw
        case rel => exact ⟨k + 1, by omega, by go_num, ⟨by rw [HIS.out]; exact HL6.out⟩, ⟨by rw [HTS1.out]; exact Kd.R_below HS.out Hb6.out⟩, ⟨pw_cell_below Hb6.out HP.out⟩, HM6, HB6⟩
        case measure => simp [intOf]; omega
    · have hkb : k = b + 1 := by omega
      have H := Aside0.mk hkb
      clear hkb
      go_wp2
      go_ret2
      exact ⟨_, rfl, by have h := HS.out; rw [← Hs0.out, H.out] at h; exact h, HB.out⟩
/-- series.Tail -/
theorem tail_any (A0 : Option Addr) (c0 : Nat) (e : List Int) (A1 : Option Addr) (c1 : Nat) (t : List Int) (a b : Int) (r1 : List Int) (r2 : Int) (w : World)
    (hr0 : Kd.C (Kd.int .i64) w A0 e.length e) (hc0 : e.length ≤ c0) (hr1 : Kd.C (Kd.int .i64) w A1 t.length t) (hc1 : t.length ≤ c1) (h : tailVal e t a b = (r1, r2)) :
    Calls Try.prog 45 #[.agg #[.slice A0 e.length c0, .slice A1 t.length c1], .int .i64 a, .int .i64 b] w fun z w' => ∃ v : Value, z = .returned (.tuple #[v, .int .i64 r2]) ∧ Kd.R (Kd.int .i64) 3 w' w.heap.size (fun _ => True) v r1 ∧ Below w.heap.size w w' := by
  unfold tailVal at h
  by_cases hr : right e t
  · rw [if_pos hr] at h
    by_cases hd : deepVal [a, b] = 0
    · rw [if_pos hd] at h
      obtain ⟨rfl, rfl⟩ := Prod.mk.inj h
      have hE := chk_yes [a, b] hr (by simp)
      rw [hd] at hE
      rw [deepVal_two] at hd
      have hab : deep a ∧ deep b := by
        by_cases c : deep a ∧ deep b
        · exact c
        · rw [if_neg c] at hd; cases hd
      obtain ⟨ha, hb⟩ := hab
      obtain ⟨m, rfl⟩ := Int.eq_ofNat_of_zero_le hb.1
      exact tail_ok A0 c0 e A1 c1 t a m w hr0 hc0 hr1 hc1 hr ha.1 (by have := hb.2; omega) hE
    · rw [if_neg hd] at h
      obtain ⟨rfl, rfl⟩ := Prod.mk.inj h
      have hE := chk_yes [a, b] hr (by simp)
      have h3 : deepVal [a, b] = 3 := by
        rw [deepVal_two] at hd ⊢
        by_cases c : deep a ∧ deep b
        · rw [if_pos c] at hd; exact absurd rfl hd
        · rw [if_neg c]
      rw [h3] at hE
      exact (tail_err A0 c0 e A1 c1 t a b 3 w hr0 hc0 hr1 hc1 hE (by decide)).mono fun z w' ⟨hz, hb⟩ => ⟨_, hz, Kd.R_nil _ _ _ _ _, hb⟩
  · rw [if_neg hr] at h
    obtain ⟨rfl, rfl⟩ := Prod.mk.inj h
    exact (tail_err A0 c0 e A1 c1 t a b 14 w hr0 hc0 hr1 hc1 (chk_no [a, b] hr) (by decide)).mono fun z w' ⟨hz, hb⟩ => ⟨_, hz, Kd.R_nil _ _ _ _ _, hb⟩
end Go.Proofs.Ytpjfelbamcgnhaa.Gv
