/- ProbeRows, by hand. -/
import Derived.Test.YtaikeldhdbejaaaJf
import Derived.DataElems
namespace Go.Proofs.Ytaikeldhdbejaaa.Gv
open Go.RowKit Go.Proofs.YtaikeldhdbejaaaW.PrintWords Go.Proofs.YtaikeldhdbejaaaW.PrintLast Go.Proofs.YtaikeldhdbejaaaW.PrintMore
theorem feq_nan (x : Nat) (h : feq x x = false) : (FloatKind.f64.format.order x x != some .eq) = true := by
  unfold feq at h
  unfold bne
  rw [h]
  rfl
theorem rsame_any (x : Nat) (w : World) : Calls Try.prog 29 #[.float .f64 x, .float .f64 x] w fun e w' => e = .returned (.bool true) ∧ w = w' := by
  cases c : feq x x with
  | true =>
    have d1 : (FloatKind.f64.format.order x x == some .eq) = true := c
    clear c
    go_enter Try.func29, Try.ntmps29
    go_wp2
    go_ret
    exact ⟨rfl, rfl⟩
  | false =>
    have d1 : (FloatKind.f64.format.order x x == some .eq) = false := c
    have d2 := feq_nan x c
    clear c
    go_enter Try.func29, Try.ntmps29
    go_wp2
    go_ret
    exact ⟨rfl, rfl⟩
set_option maxHeartbeats 4000000 in
theorem floats_eq (l : List Nat) (A1 : Option Addr) (c1 : Nat) (A2 : Option Addr) (c2 : Nat) (w : World) (h1 : FK.C w A1 l.length l) (h2 : FK.C w A2 l.length l) (hl : l.length ≤ 1000000) :
    Calls Try.prog 18 #[.slice A1 l.length c1, .slice A2 l.length c2] w fun e w' => e = .returned (.bool true) ∧ Below w.heap.size w w' := by
  have H1 := Aside0.mk h1
  have H2 := Aside0.mk h2
  clear h1 h2
  go_enter Try.func18, Try.ntmps18
  go_wp2
  go_loopw [5] (fun i wr => ∃ j : Nat, j ≤ l.length ∧ i = .int .i64 (j : Int) ∧ Aside0 (Below w.heap.size w wr)) (fun i _ => l.length - (intOf i).toNat)
  case atStart => exact ⟨0, Nat.zero_le _, rfl, ⟨Below.refl _ _⟩⟩
  case round =>
    obtain ⟨j, hj, rfl, HB⟩ := hrel
    by_cases hlt : j < l.length
    · have z1 : (j : Int) < (l.length : Int) := by omega
      obtain ⟨ad, rfl, hx⟩ := at_float (Kd.C_below H1.out HB.out) j hlt
      obtain ⟨ae, rfl, hy⟩ := at_float (Kd.C_below H2.out HB.out) j hlt
      generalize l.getD j 0 = x at *
      go_wp2
      go_region_with (go_at_call 29; refine (rsame_any x _).mono ?_; rintro y w2 ⟨rfl, rfl⟩)
      all_goals go_wp2
      all_goals
        go_roundw
        case rel => exact ⟨j + 1, by omega, by go_num, ⟨below_drew HB.out⟩⟩
        case measure => simp [intOf]; omega
    · have e : j = l.length := by omega
      subst e
      go_wp2
      go_ret
      exact ⟨rfl, HB.out⟩
theorem infoF : (Try.prog.info? 26).map (fun i => (i.zero, i.size, i.bytes)) = some (some (.float .f64 0), 1, 8) := by kernel_rfl
/-- the part of a row of floats from lo on -/
theorem part_C {W : World} {ad : Addr} {xs : List Nat} (h : FK.C W (some ad) xs.length xs) (lo n : Nat) (hn : lo + n ≤ xs.length) : FK.C W (some (ad.add lo)) n ((xs.take (lo + n)).drop lo) := by
  have hlen : ((xs.take (lo + n)).drop lo).length = n := by rw [List.length_drop, List.length_take]; omega
  obtain ⟨h1, h2, h3⟩ := Kd.reads_of_C (enc := Value.float .f64) (d := (0 : Nat)) (h1 := fun _ => rfl) h
  refine Kd.C_of_reads (h1 := fun _ => rfl) (d := (0 : Nat)) ⟨hlen, by omega, fun hp => ⟨_, rfl, fun j hj => ?_⟩⟩
  obtain ⟨ad2, e, hc⟩ := h3 (by omega)
  injection e with e
  subst e
  have hx := hc (lo + j) (by omega)
  have ea : (ad.add lo).add j = ad.add (lo + j) := Addr.add_add _ _ _
  have eg : ((xs.take (lo + n)).drop lo).getD j 0 = xs.getD (lo + j) 0 := by
    simp only [List.getD_eq_getElem?_getD, List.getElem?_drop, List.getElem?_take]
    rw [if_pos (by omega)]
  rw [ea, eg]
  exact hx
set_option maxHeartbeats 4000000 in
theorem row_bad (W H : Int) (xs : List Nat) (AL : Option Addr) (cL : Nat) (ds : List Int) (AD : Option Addr) (cD : Nat) (y : Int) (w : World) (hbad : ¬ (sidesB W H = true ∧ 0 ≤ y ∧ y < H ∧ (xs.length : Int) = 3 * W * H)) :
    Calls Try.prog 17 #[.agg #[.int .i64 W, .int .i64 H, .slice AL xs.length cL, .slice AD ds.length cD], .int .i64 y] w fun e w' => e = .returned (.slice none 0 0) ∧ Below w.heap.size w w' := by
  have hu := Try.underlying25
  have b1 := blk_new w (.cells #[.int .i64 W, .int .i64 H, .slice AL xs.length cL, .slice AD ds.length cD] 25)
  have hB := Below.alloc (Below.refl w.heap.size w) (Nat.le_refl _) (.cells #[.int .i64 W, .int .i64 H, .slice AL xs.length cL, .slice AD ds.length cD] 25)
  have HB1 := Aside0.mk b1
  have HBel := Aside0.mk hB
  have HS := Aside0.mk (sides_any W H AL xs.length cL AD ds.length cD)
  obtain ⟨k0, k1, k2, k3⟩ := pic_cells b1
  clear b1 hB
  cases hs : sidesB W H with
  | false =>
    rw [hs] at HS
    clear hs hbad
    go_enter Try.func17, Try.ntmps17
    go_wp2_with (go_at_call 22; refine (HS.out _).mono ?_; rintro x w1 ⟨rfl, hb1⟩; have HBel1 := Aside0.mk (below_then HBel.out HBel.out.size hb1); clear hb1)
    go_ret
    exact ⟨rfl, HBel1.out⟩
  | true =>
    obtain ⟨w1, w2, h1, h2, p0, p1, p2⟩ := prod_in hs
    rw [hs] at HS hbad
    clear hs
    obtain ⟨nn, hnn⟩ : ∃ nn : Int, 3 * W * H = nn := ⟨_, rfl⟩
    have hnn0 : 0 ≤ nn ∧ nn ≤ 201326592 := by omega
    rw [hnn] at hbad
    clear p0 p1 p2
    have hcase : y < 0 ∨ (0 ≤ y ∧ H ≤ y) ∨ (0 ≤ y ∧ y < H ∧ ((xs.length : Int) != nn) = true) := by
      by_cases a : y < 0
      · exact .inl a
      · by_cases b : H ≤ y
        · exact .inr (.inl ⟨by omega, b⟩)
        · exact .inr (.inr ⟨by omega, by omega, bne_iff_ne.mpr (fun e => hbad ⟨rfl, by omega, by omega, e⟩)⟩)
    clear hbad
    rcases hcase with g1 | ⟨g1, g2⟩ | ⟨g1, g2, g3⟩
    all_goals go_enter Try.func17, Try.ntmps17
    all_goals
      go_wp2_with (go_at_call 22; refine (HS.out _).mono ?_; rintro x w1 ⟨rfl, hb1⟩; have HBel1 := Aside0.mk (below_then HBel.out HBel.out.size hb1); obtain ⟨k0, k1, k2, k3⟩ := pic_cells (blk_below HB1.out hb1); clear hb1)
    all_goals
      go_ret
      exact ⟨rfl, HBel1.out⟩
set_option maxHeartbeats 4000000 in
theorem row_ok (W H : Int) (xs : List Nat) (ad : Addr) (cL : Nat) (ds : List Int) (AD : Option Addr) (cD : Nat) (y : Int) (w : World) (hs : sidesB W H = true) (g1 : 0 ≤ y) (g2 : y < H) (lo m hi : Nat) (hm : 3 * W = (m : Int)) (h3 : (m : Int) * H = (xs.length : Int)) (hl : xs.length ≤ 1000) (hlo : (m : Int) * y = (lo : Int)) (hhi : (m : Int) * (y + 1) = (hi : Int)) (hh : hi = lo + m) (hle : hi ≤ xs.length) (hcap : xs.length ≤ cL) (hr : FK.C w (some ad) xs.length xs) :
    Calls Try.prog 17 #[.agg #[.int .i64 W, .int .i64 H, .slice (some ad) xs.length cL, .slice AD ds.length cD], .int .i64 y] w fun e w' => ∃ v : Value, e = .returned v ∧ FK.R 26 w' w.heap.size (fun _ => True) v ((xs.take (lo + m)).drop lo) ∧ Below w.heap.size w w' := by
  have hu := Try.underlying25
  have b1 := blk_new w (.cells #[.int .i64 W, .int .i64 H, .slice (some ad) xs.length cL, .slice AD ds.length cD] 25)
  have hB := Below.alloc (Below.refl w.heap.size w) (Nat.le_refl _) (.cells #[.int .i64 W, .int .i64 H, .slice (some ad) xs.length cL, .slice AD ds.length cD] 25)
  have HB1 := Aside0.mk b1
  have HBel := Aside0.mk hB
  have HS := Aside0.mk (sides_any W H (some ad) xs.length cL AD ds.length cD)
  have HR := Aside0.mk hr
  have HH := Aside0.mk hh
  have hlh : lo ≤ hi := by omega
  have hic : hi ≤ cL := by omega
  have hm3 : 3 ≤ m := by
    have h := (prod_in hs).1
    omega
  have hne : ¬ cL = lo := by omega
  obtain ⟨mid, hmid⟩ : ∃ mid, (xs.take (lo + m)).drop lo = mid := ⟨_, rfl⟩
  have hml : mid.length = hi - lo := by rw [← hmid, List.length_drop, List.length_take]; omega
  have HMd := Aside0.mk hmid
  have HMl := Aside0.mk hml
  have HC := Aside0.mk (fun (W' : World) (h : FK.C W' (some ad) xs.length xs) => (show FK.C W' (some (ad.add lo)) (hi - lo) mid from by
    have h2 := part_C h lo m (by omega)
    rw [hmid] at h2
    rw [show hi - lo = m by omega]
    exact h2))
  obtain ⟨k0, k1, k2, k3⟩ := pic_cells b1
  obtain ⟨w1, w2, h1, h2, p0, p1, p2⟩ := prod_in hs
  rw [hs] at HS
  clear b1 hB hr hs p0 p1 p2 hh hmid hml
  go_enter Try.func17, Try.ntmps17
  go_wp2_with (first
    | (go_at_call 22; refine (HS.out _).mono ?_; rintro x w1 ⟨rfl, hb1⟩; have HBel1 := Aside0.mk (below_then HBel.out HBel.out.size hb1); obtain ⟨k0, k1, k2, k3⟩ := pic_cells (blk_below HB1.out hb1); clear hb1)
    | (at_builtin; refine Kd.R_append_row (w0 := w) (Value.float .f64) 0 (h1 := fun _ => rfl) w.heap.size rfl (.const (.slice none 0 0)) (.tmp 43) 22 26 (.float .f64 0) 8 rfl Try.underlying22 infoF rfl (by decide) (.slice none 0 0) [] mid (some (ad.add lo)) (hi - lo) (cL - lo) (fun _ => True) rfl rfl (fun _ _ => trivial) (Kd.R_nil _ _ _ _ _) (HC.out _ (Kd.C_below HR.out HBel1.out)) HBel1.out HBel1.out.size (by have h := HMl.out; simp; omega) ?_; intro v1 w5 ho hb hg hat; rw [List.nil_append] at ho; have HO := Aside0.mk ho; have HB := Aside0.mk hb; clear ho hb hg hat))
  go_ret
  exact ⟨_, rfl, by rw [HMd.out]; exact HO.out, HB.out⟩
end Go.Proofs.Ytaikeldhdbejaaa.Gv
