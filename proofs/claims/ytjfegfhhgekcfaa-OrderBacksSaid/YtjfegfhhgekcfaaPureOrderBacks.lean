/- OrderBacks: plain. -/
import Derived.Test.YtjfegfhhgekcfaaPo
import Derived.Test.YtjfegfhhgekcfaaGo
import Derived.Test.YtjfegfhhgekcfaaXxL41OrderBacks
namespace Go.Proofs.Ytjfegfhhgekcfaa.Pure
open Go.RowKit Go.Proofs.Ytjfegfhhgekcfaa.X Go.Proofs.YtjfegfhhgekcfaaW.PrintWords Go.Proofs.YtjfegfhhgekcfaaW.PrintLast
theorem pos {α : Type} {c : Prop} [Decidable c] {f g : Nat → Option α} {r : α} (h : c) (e : Ev f r) : Ev (fun k => if c then f k else g k) r := Ev.congr (fun _ => if_pos h) e
theorem neg {α : Type} {c : Prop} [Decidable c] {f g : Nat → Option α} {r : α} (h : ¬ c) (e : Ev g r) : Ev (fun k => if c then f k else g k) r := Ev.congr (fun _ => if_neg h) e
theorem suc {i : Nat} (h : i ≤ 1000000) : wrap64 ((i : Int) + 1) = ((i + 1 : Nat) : Int) := by unfold wrap64; omega
theorem rdb_nat (l : List Bool) (i : Nat) : rdOf false l (i : Int) = l.getD i false := by simp [rdOf]
theorem set_getD {α : Type} (l : List α) (d v : α) (i j : Nat) (hi : i < l.length) : (l.set i v).getD j d = if i = j then v else l.getD j d := by
  simp only [List.getD_eq_getElem?_getD, List.getElem?_set]
  by_cases c : i = j
  · subst c; simp [hi]
  · simp [c]
/-- what order.Back answers -/
def BackOk (l : List Int) (r : List Int × Int) : Prop := (r.2 = 0 ∧ good l ∧ inv l r.1) ∨ (r = ([], 2) ∧ ¬ good l)
theorem back_loop {l : List Int} {n : Nat} (hn : l.length = n) (hs : n ≤ 1000000) : ∀ (d i : Nat) (out : List Int) (seen : List Bool), i + d = n → out.length = n → seen.length = n →
    (∀ j, j < i → 0 ≤ l.getD j 0 ∧ l.getD j 0 < (n : Int)) → dis l i → (∀ j, j < i → out.getD (l.getD j 0).toNat 0 = (j : Int)) → (∀ x : Nat, x < n → (seen.getD x false = true ↔ ∃ j, j < i ∧ l.getD j 0 = (x : Int))) →
    ∃ r, Ev (fun k => order_Back.l0 k l out seen l (n : Int) (i : Int)) r ∧ BackOk l r := by
  intro d
  induction d with
  | zero =>
    intro i out seen hi ho _ hr hd hv _
    have e : i = n := by omega
    subst e
    refine ⟨(out, 0), Ev.step (fun _ => rfl) (neg (by omega) (Ev.now _)), .inl ⟨rfl, ⟨fun j hj => ?_, ?_⟩, ⟨?_, fun j hj => hv j (by omega)⟩⟩⟩
    · rw [hn]; exact hr j (by omega)
    · rw [hn]; exact hd
    · show out.length = l.length; omega
  | succ d ih =>
    intro i out seen hi ho hse hr hd hv hsn
    have hlt : (i : Int) < (n : Int) := by omega
    have hl : (i : Int) < (l.length : Int) := by omega
    by_cases c1 : l.getD i 0 < 0
    · refine ⟨([], 2), Ev.step (fun _ => rfl) (pos hlt (pos (by omega) (pos hl (pos (by rw [rd_nat]; exact c1) (Ev.now _))))), .inr ⟨rfl, fun h => ?_⟩⟩
      have := (h.1 i (by omega)).1
      omega
    · by_cases c2 : l.getD i 0 ≥ (l.length : Int)
      · refine ⟨([], 2), Ev.step (fun _ => rfl) (pos hlt (pos (by omega) (pos hl (neg (by rw [rd_nat]; exact c1) (pos (by rw [rd_nat]; exact c2) (Ev.now _)))))), .inr ⟨rfl, fun h => ?_⟩⟩
        have := (h.1 i (by omega)).2
        omega
      · obtain ⟨x, hx⟩ := Int.eq_ofNat_of_zero_le (show 0 ≤ l.getD i 0 by omega)
        have hxn : x < n := by omega
        by_cases c3 : seen.getD x false = true
        · refine ⟨([], 2), Ev.step (fun _ => rfl) (pos hlt (pos (by omega) (pos hl (neg (by rw [rd_nat]; exact c1) (neg (by rw [rd_nat]; exact c2) (pos (by rw [rd_nat]; omega) (pos (by rw [rd_nat]; omega) (pos (by rw [rd_nat, hx, rdb_nat]; exact c3) (Ev.now _))))))))), .inr ⟨rfl, fun h => ?_⟩⟩
          obtain ⟨j, hj, e⟩ := (hsn x hxn).mp c3
          exact absurd (e.trans hx.symm) (h.2 j i hj (by omega))
        · have hno : ∀ j, j < i → l.getD j 0 ≠ (x : Int) := fun j hj e => c3 ((hsn x hxn).mpr ⟨j, hj, e⟩)
          obtain ⟨r, hE, hO⟩ := ih (i + 1) (out.set x (i : Int)) (seen.set x true) (by omega) (by simp [ho]) (by simp [hse])
            (fun j hj => by
              by_cases c : j = i
              · subst c; omega
              · exact hr j (by omega))
            (fun a b hab hb => by
              by_cases c : b = i
              · subst c; rw [hx]; exact hno a hab
              · exact hd a b hab (by omega))
            (fun j hj => by
              by_cases c : j = i
              · subst c
                rw [hx, Int.toNat_natCast, set_getD _ _ _ _ _ (by omega), if_pos rfl]
              · have h1 := hr j (by omega)
                have h2 := hno j (by omega)
                rw [set_getD _ _ _ _ _ (by omega), if_neg (by omega)]
                exact hv j (by omega))
            (fun y hy => by
              rw [set_getD _ _ _ _ _ (by omega)]
              by_cases c : x = y
              · rw [if_pos c]
                subst c
                exact ⟨fun _ => ⟨i, by omega, hx⟩, fun _ => rfl⟩
              · rw [if_neg c, hsn y hy]
                constructor
                · rintro ⟨j, hj, e⟩
                  exact ⟨j, by omega, e⟩
                · rintro ⟨j, hj, e⟩
                  by_cases c' : j = i
                  · subst c'; omega
                  · exact ⟨j, by omega, e⟩)
          refine ⟨r, Ev.step (fun _ => rfl) (pos hlt (pos (by omega) (pos hl (neg (by rw [rd_nat]; exact c1) (neg (by rw [rd_nat]; exact c2) (pos (by rw [rd_nat]; omega) (pos (by rw [rd_nat]; omega) (neg (by rw [rd_nat, hx, rdb_nat]; exact c3) (pos (by rw [rd_nat]; omega) ?_))))))))), hO⟩
          rw [rd_nat, hx, Int.toNat_natCast, suc (by omega)]
          exact hE
theorem back_ev (l : List Int) (hs : l.length ≤ 1000000) : ∃ r, Ev (fun k => order_Back.f k l) r ∧ BackOk l r := by
  obtain ⟨r, hE, hO⟩ := back_loop (l := l) rfl hs l.length 0 (List.replicate l.length 0) (List.replicate l.length false) (by omega) (by simp) (by simp) (fun j hj => by omega) (fun a b _ hb => by omega) (fun j hj => by omega)
    (fun x hx => by simp [List.getD_eq_getElem?_getD, hx])
  refine ⟨r, ?_, hO⟩
  unfold order_Back.f
  refine pos (by omega) (pos (by simp; omega) (pos (by simp; omega) ?_))
  rw [Int.toNat_natCast]
  exact hE
theorem right_ev (l : List Int) (hs : l.length ≤ 1000000) : ∃ b, Ev (fun k => order_Right.f k l) b ∧ (b = true ↔ good l) := by
  obtain ⟨r, hE, hO⟩ := back_ev l hs
  refine ⟨r.2 == 0, Ev.bind hE (Ev.now _), ?_⟩
  rcases hO with ⟨h0, hg, _⟩ | ⟨h0, hg⟩
  · simp [h0, hg]
  · subst h0; simp [hg]
theorem rr1_loop {l : List Int} (hs : l.length ≤ 1000000) (m : Nat) (b : Bool) (hb : cI l (m : Int) l.length = 1 → Ev (fun k => penumbraref41_Right.l0 k l ((m + 1 : Nat) : Int)) b) (hm : m < l.length) (hb2 : cI l (m : Int) l.length ≠ 1 → b = false) : ∀ (d i : Nat), i + d = l.length →
    Ev (fun k => penumbraref41_Right.l1 k l (m : Int) (cI l (m : Int) i : Int) (i : Int)) b := by
  have hle : ∀ i, cI l (m : Int) i ≤ i := by
    intro i
    induction i with
    | zero => simp [cI]
    | succ i ih => simp only [cI]; split <;> omega
  intro d
  induction d with
  | zero =>
    intro i hi
    have e : i = l.length := by omega
    subst e
    refine Ev.step (fun _ => rfl) (neg (by omega) ?_)
    by_cases c : cI l (m : Int) l.length = 1
    · refine pos (by omega) ?_
      rw [suc (by omega)]
      exact hb c
    · rw [hb2 c]
      exact neg (by omega) (Ev.now _)
  | succ d ih =>
    intro i hi
    have h := ih (i + 1) (by omega)
    refine Ev.step (fun _ => rfl) (pos (by omega) (pos (by omega) ?_))
    simp only [cI] at h
    have hi2 := hle i
    by_cases c : l.getD i 0 = (m : Int)
    · rw [if_pos c] at h
      refine pos (by rw [rd_nat]; exact c) ?_
      rw [suc (by omega), suc (by omega)]
      exact h
    · rw [if_neg c] at h
      refine neg (by rw [rd_nat]; exact c) ?_
      rw [suc (by omega)]
      exact h
theorem rr_loop {l : List Int} (hs : l.length ≤ 1000000) : ∀ (d m : Nat), m + d = l.length → ∃ b, Ev (fun k => penumbraref41_Right.l0 k l (m : Int)) b ∧ (b = true ↔ ∀ m' : Nat, m ≤ m' → m' < l.length → cI l (m' : Int) l.length = 1) := by
  intro d
  induction d with
  | zero =>
    intro m hm
    exact ⟨true, Ev.step (fun _ => rfl) (neg (by omega) (Ev.now _)), ⟨fun _ m' h1 h2 => by omega, fun _ => rfl⟩⟩
  | succ d ih =>
    intro m hm
    obtain ⟨b, hE, hb⟩ := ih (m + 1) (by omega)
    by_cases c : cI l (m : Int) l.length = 1
    · refine ⟨b, Ev.step (fun _ => rfl) (pos (by omega) (rr1_loop hs m b (fun _ => hE) (by omega) (fun h => absurd c h) l.length 0 (by omega))), hb.trans ⟨fun h m' h1 h2 => ?_, fun h m' h1 h2 => h m' (by omega) h2⟩⟩
      by_cases e : m' = m
      · subst e; exact c
      · exact h m' (by omega) h2
    · refine ⟨false, Ev.step (fun _ => rfl) (pos (by omega) (rr1_loop hs m false (fun h => absurd h c) (by omega) (fun _ => rfl) l.length 0 (by omega))), ?_⟩
      simp only [Bool.false_eq_true, false_iff]
      intro h
      exact c (h m (Nat.le_refl _) (by omega))
theorem rright_ev (l : List Int) (hs : l.length ≤ 1000000) : ∃ b, Ev (fun k => penumbraref41_Right.f k l) b ∧ (b = true ↔ good l) := by
  obtain ⟨b, hE, hb⟩ := rr_loop hs l.length 0 (by omega)
  refine ⟨b, hE, hb.trans ⟨fun h => good_of_right (fun m hm => h m (Nat.zero_le _) hm), fun h m' _ h2 => right_of_good h m' h2⟩⟩
theorem find_loop {l : List Int} (hs : l.length ≤ 1000000) (m : Int) (j : Nat) (hj : j < l.length) (e : l.getD j 0 = m) : ∀ (d i : Nat), i + d = j → (∀ a, a < j → l.getD a 0 ≠ m) → Ev (fun k => penumbraref41_Find.l0 k l m (i : Int)) (j : Int) := by
  intro d
  induction d with
  | zero =>
    intro i hi _
    have : i = j := by omega
    subst this
    exact Ev.step (fun _ => rfl) (pos (by omega) (pos (by omega) (pos (by rw [rd_nat]; exact e) (Ev.now _))))
  | succ d ih =>
    intro i hi hno
    refine Ev.step (fun _ => rfl) (pos (by omega) (pos (by omega) (neg (by rw [rd_nat]; exact hno i (by omega)) ?_)))
    rw [suc (by omega)]
    exact ih (i + 1) (by omega) hno
theorem find_ev {l : List Int} (hs : l.length ≤ 1000000) (hg : good l) (m : Int) (j : Nat) (hj : j < l.length) (e : l.getD j 0 = m) : Ev (fun k => penumbraref41_Find.f k l m) (j : Int) :=
  find_loop hs m j hj e j 0 (by omega) (fun a ha h => hg.2 a j ha hj (h.trans e.symm))
/-- a behind the first i places of b -/
def thenTo (a b : List Int) (i : Nat) : List Int := (List.range i).map fun j => a.getD (b.getD j 0).toNat 0
theorem then_loop {a b : List Int} (hs : b.length ≤ 1000000) (hr : ∀ j, j < b.length → 0 ≤ b.getD j 0 ∧ b.getD j 0 < (a.length : Int)) : ∀ (d i : Nat), i + d = b.length →
    Ev (fun k => order_Then.l0 k a (thenTo a b i) b (b.length : Int) (i : Int)) (thenTo a b b.length, 0) := by
  intro d
  induction d with
  | zero =>
    intro i hi
    have e : i = b.length := by omega
    subst e
    exact Ev.step (fun _ => rfl) (neg (by omega) (Ev.now _))
  | succ d ih =>
    intro i hi
    have h := ih (i + 1) (by omega)
    have hl : (thenTo a b i).length = i := by simp [thenTo]
    obtain ⟨r0, r1⟩ := hr i (by omega)
    refine Ev.step (fun _ => rfl) (pos (by omega) (pos (by omega) (pos (by omega) (pos (by rw [rd_nat]; omega) (pos (by rw [rd_nat]; omega) (pos (by omega) ?_))))))
    rw [suc (by omega)]
    have e : thenTo a b (i + 1) = thenTo a b i ++ [rd a (rd b (i : Int))] := by
      rw [rd_nat, thenTo, List.range_succ, List.map_append]
      rfl
    rw [e] at h
    exact h
theorem tj_no (a b : List Int) (k : Nat) : order_Then.j0 (k + 1) a b true = some ([], 2) := by rw [order_Then.j0, if_pos rfl]
theorem tj_yes {a b : List Int} (h : (a.length : Int) = (b.length : Int)) (k : Nat) : order_Then.j0 (k + 1) a b false = order_Then.l0 k a [] b (b.length : Int) 0 := by rw [order_Then.j0, if_neg (by simp), if_pos h]
theorem tj_size {a b : List Int} (h : ¬ (a.length : Int) = (b.length : Int)) (k : Nat) : order_Then.j0 (k + 1) a b false = some ([], 14) := by rw [order_Then.j0, if_neg (by simp), if_neg h]
theorem then_ok {a b : List Int} (ha : a.length ≤ 1000000) (hab : a.length = b.length) (h1 : good a) (h2 : good b) : Ev (fun k => order_Then.f k a b) (thenTo a b b.length, 0) := by
  obtain ⟨x, hx, ex⟩ := right_ev a ha
  obtain ⟨y, hy, ey⟩ := right_ev b (by omega)
  rw [ex.mpr h1] at hx
  rw [ey.mpr h2] at hy
  refine Ev.bind hx (pos rfl (Ev.bind hy (Ev.step (f := fun k => order_Then.l0 k a [] b (b.length : Int) 0) (tj_yes (by omega)) ?_)))
  exact then_loop (by omega) (fun j hj => by rw [hab]; exact h2.1 j hj) b.length 0 (by omega)
theorem then_size {a b : List Int} (ha : a.length ≤ 1000000) (hb : b.length ≤ 1000000) (hab : a.length ≠ b.length) (h1 : good a) (h2 : good b) : Ev (fun k => order_Then.f k a b) ([], 14) := by
  obtain ⟨x, hx, ex⟩ := right_ev a ha
  obtain ⟨y, hy, ey⟩ := right_ev b hb
  rw [ex.mpr h1] at hx
  rw [ey.mpr h2] at hy
  exact Ev.bind hx (pos rfl (Ev.bind hy (Ev.step (f := fun _ => some ([], 14)) (tj_size (by omega)) (Ev.now _))))
theorem then_no {a b : List Int} (ha : a.length ≤ 1000000) (hb : b.length ≤ 1000000) (h : ¬ (good a ∧ good b)) : Ev (fun k => order_Then.f k a b) ([], 2) := by
  obtain ⟨x, hx, ex⟩ := right_ev a ha
  obtain ⟨y, hy, ey⟩ := right_ev b hb
  by_cases h1 : good a
  · have h2 : y = false := by
      cases y with
      | false => rfl
      | true => exact absurd ⟨h1, ey.mp rfl⟩ h
    rw [ex.mpr h1] at hx
    rw [h2] at hy
    exact Ev.bind hx (pos rfl (Ev.bind hy (Ev.step (f := fun _ => some ([], 2)) (tj_no a b) (Ev.now _))))
  · have h2 : x = false := by
      cases x with
      | false => rfl
      | true => exact absurd (ex.mp rfl) h1
    rw [h2] at hx
    exact Ev.bind hx (neg (by simp) (Ev.step (f := fun _ => some ([], 2)) (tj_no a b) (Ev.now _)))
theorem thenTo_at (a b : List Int) (n i : Nat) (h : i < n) : (thenTo a b n).getD i 0 = a.getD (b.getD i 0).toNat 0 := by
  simp [thenTo, List.getD_eq_getElem?_getD, h]
theorem thenTo_length (a b : List Int) (n : Nat) : (thenTo a b n).length = n := by simp [thenTo]
theorem awake41 : Ev (fun k => penumbralaw41_awake.f k) true := Ev.of penumbralaw41_awake.mono (k := 40) (by decide +kernel)
section
variable (a b x y : List Int) (f : Int) (z : List Int) (k : Nat)
theorem sj0_t : penumbralaw41_OrderBacks.j0 (k + 1) a b true = (penumbralaw41_awake.f k).bind fun t => some t := by rw [penumbralaw41_OrderBacks.j0, if_pos rfl]
theorem sj0_f : penumbralaw41_OrderBacks.j0 (k + 1) a b false = (order_Back.f k a).bind fun p => ((order_Then.f k a b).bind fun q => ((order_Right.f k a).bind fun t => ((penumbraref41_Right.f k a).bind fun u => (if (t != u) = true then (penumbralaw41_OrderBacks.j1 k a b p.1 q.1 q.2 true) else ((penumbraref41_Right.f k a).bind fun v => (penumbralaw41_OrderBacks.j1 k a b p.1 q.1 q.2 ((p.2 == 0) != v))))))) := by
  rw [penumbralaw41_OrderBacks.j0, if_neg (by simp)]
theorem sj1_f : penumbralaw41_OrderBacks.j1 (k + 1) a b x y f false = (penumbraref41_Right.f k a).bind fun t => (if t = true then ((order_Then.f k a x).bind fun p => (if p.2 = 0 then (if (x.length : Int) = (a.length : Int) then (penumbralaw41_OrderBacks.j2 k a b x y f p.1 ((p.1.length : Int) != (a.length : Int))) else (penumbralaw41_OrderBacks.j2 k a b x y f p.1 true)) else (penumbralaw41_OrderBacks.j2 k a b x y f p.1 true))) else ((penumbraref41_Right.f k a).bind fun u => (if u = true then ((penumbraref41_Right.f k b).bind fun v => (penumbralaw41_OrderBacks.j6 k a b y f (!v))) else (penumbralaw41_OrderBacks.j6 k a b y f true)))) := by
  rw [penumbralaw41_OrderBacks.j1, if_neg (by simp)]
theorem sj2_f : penumbralaw41_OrderBacks.j2 (k + 1) a b x y f z false = penumbralaw41_OrderBacks.l0 k a b x y f z 0 := by
  rw [penumbralaw41_OrderBacks.j2, if_neg (by simp)]
theorem sj4_t : penumbralaw41_OrderBacks.j4 (k + 1) a b [] 2 true = (penumbralaw41_awake.f k).bind fun t => (if t = true then some true else some false) := by
  rw [penumbralaw41_OrderBacks.j4, if_pos rfl]; rfl
theorem sj6_t : penumbralaw41_OrderBacks.j6 (k + 1) a b [] 2 true = (penumbralaw41_awake.f k).bind fun t => (if t = true then some true else some false) := by
  rw [penumbralaw41_OrderBacks.j6, if_pos rfl]; rfl
theorem sj4_e (h : (a.length : Int) = (b.length : Int)) : penumbralaw41_OrderBacks.j4 (k + 1) a b y f false = penumbralaw41_OrderBacks.l1 k a b y f 0 := by
  rw [penumbralaw41_OrderBacks.j4, if_neg (by simp), if_pos h]
theorem sj4_n (h : ¬ (a.length : Int) = (b.length : Int)) : penumbralaw41_OrderBacks.j4 (k + 1) a b [] 14 false = (penumbralaw41_awake.f k).bind fun t => (if t = true then some true else some false) := by
  rw [penumbralaw41_OrderBacks.j4, if_neg (by simp), if_neg h]; rfl
theorem sl1_end (n : Nat) (h : ¬ (n : Int) < (b.length : Int)) : penumbralaw41_OrderBacks.l1 (k + 1) a b y 0 (n : Int) = (penumbralaw41_awake.f k).bind fun t => (if t = true then some true else some false) := by
  rw [penumbralaw41_OrderBacks.l1, if_neg h]; rfl
end
theorem awoke : Ev (fun k => (penumbralaw41_awake.f k).bind fun t => (if t = true then some true else some false)) true :=
  Ev.bind awake41 (Ev.congr (g := fun _ => if true = true then some true else some false) (f := fun _ => some true) (fun _ => if_pos rfl) (Ev.now _))
theorem l1_loop {a b : List Int} (hs : b.length ≤ 1000000) (hr : ∀ j, j < b.length → 0 ≤ b.getD j 0 ∧ b.getD j 0 < (a.length : Int)) : ∀ (d i : Nat), i + d = b.length →
    Ev (fun k => penumbralaw41_OrderBacks.l1 k a b (thenTo a b b.length) 0 (i : Int)) true := by
  intro d
  induction d with
  | zero =>
    intro i hi
    exact Ev.step (fun k => sl1_end a b (thenTo a b b.length) k i (by omega)) awoke
  | succ d ih =>
    intro i hi
    have h := ih (i + 1) (by omega)
    have hl := thenTo_length a b b.length
    obtain ⟨r0, r1⟩ := hr i (by omega)
    refine Ev.step (fun _ => rfl) (pos (by omega) (neg (by omega) (pos (by omega) (pos (by omega) (pos (by rw [rd_nat]; omega) (pos (by rw [rd_nat]; omega) (pos (by rw [rd_nat, rd_nat, thenTo_at _ _ _ _ (by omega)]; rfl) ?_)))))))
    rw [suc (by omega)]
    exact h
theorem l0_loop {a b x y z : List Int} {f : Int} (hs : a.length ≤ 1000000) (hg : good a) (hx : inv a x) (hz : z.length = a.length) (hz2 : ∀ i, i < a.length → z.getD i 0 = (i : Int))
    (hj : Ev (fun k => (penumbraref41_Right.f k a).bind fun t => if t = true then ((penumbraref41_Right.f k b).bind fun u => penumbralaw41_OrderBacks.j4 k a b y f (!u)) else penumbralaw41_OrderBacks.j4 k a b y f true) true) : ∀ (d i : Nat), i + d = a.length →
    Ev (fun k => penumbralaw41_OrderBacks.l0 k a b x y f z (i : Int)) true := by
  intro d
  induction d with
  | zero =>
    intro i hi
    exact Ev.step (fun _ => rfl) (neg (by omega) hj)
  | succ d ih =>
    intro i hi
    have h := ih (i + 1) (by omega)
    have hxl := hx.1
    obtain ⟨j, hjl, e1, e2⟩ := inv_at hg hx (m := i) (by omega)
    refine Ev.step (fun _ => rfl) (pos (by omega) (pos (by omega) (pos (by omega) (Ev.bind (find_ev hs hg (i : Int) j hjl e1) (pos (by rw [rd_nat]; exact e2) (pos (by omega) (pos (by rw [rd_nat]; exact hz2 i (by omega)) ?_)))))))
    rw [suc (by omega)]
    exact h
theorem backs {a b : List Int} (ha : a.length ≤ 40) (hb : b.length ≤ 40) : Ev (fun k => penumbralaw41_OrderBacks.j0 k a b false) true := by
  obtain ⟨p, hp, hpo⟩ := back_ev a (by omega)
  obtain ⟨t, ht, hto⟩ := right_ev a (by omega)
  obtain ⟨u, hu, huo⟩ := rright_ev a (by omega)
  obtain ⟨v, hv, hvo⟩ := rright_ev b (by omega)
  have htu : t = u := Bool.eq_iff_iff.mpr (hto.trans huo.symm)
  have hpu : (p.2 == 0) = u := by
    rw [Bool.eq_iff_iff, huo]
    rcases hpo with ⟨h0, hg, _⟩ | ⟨h0, hg⟩
    · simp [h0, hg]
    · subst h0; simp [hg]
  -- the order behind the other one
  obtain ⟨q, hq, hqo⟩ : ∃ q, Ev (fun k => order_Then.f k a b) q ∧ ((¬ (good a ∧ good b) ∧ q = ([], 2)) ∨ (good a ∧ good b ∧ a.length ≠ b.length ∧ q = ([], 14)) ∨ (good a ∧ good b ∧ a.length = b.length ∧ q = (thenTo a b b.length, 0))) := by
    by_cases c : good a ∧ good b
    · by_cases d : a.length = b.length
      · exact ⟨_, then_ok (by omega) d c.1 c.2, .inr (.inr ⟨c.1, c.2, d, rfl⟩)⟩
      · exact ⟨_, then_size (by omega) (by omega) d c.1 c.2, .inr (.inl ⟨c.1, c.2, d, rfl⟩)⟩
    · exact ⟨_, then_no (by omega) (by omega) c, .inl ⟨c, rfl⟩⟩
  refine Ev.step (fun k => sj0_f a b k) (Ev.bind hp (Ev.bind hq (Ev.bind ht (Ev.bind hu (neg (by simp [htu]) (Ev.bind hu ?_))))))
  rw [hpu, bne_self_eq_false]
  refine Ev.step (fun k => sj1_f a b p.1 q.1 q.2 k) (Ev.bind hu ?_)
  by_cases c : good a
  · have hux := huo.mpr c
    subst hux
    obtain ⟨hp0, hpi⟩ : p.2 = 0 ∧ inv a p.1 := by
      rcases hpo with ⟨h0, _, hi⟩ | ⟨_, hg⟩
      · exact ⟨h0, hi⟩
      · exact absurd c hg
    have hth := then_ok (a := a) (b := p.1) (by omega) hpi.1.symm c (inv_good c hpi)
    refine pos rfl (Ev.bind hth (pos rfl (pos (by rw [hpi.1]) ?_)))
    have hzl : (thenTo a p.1 p.1.length).length = a.length := by rw [thenTo_length, hpi.1]
    rw [hzl, bne_self_eq_false]
    refine Ev.step (fun k => sj2_f a b p.1 q.1 q.2 (thenTo a p.1 p.1.length) k) (l0_loop (by omega) c hpi hzl (fun i hi => ?_) ?_ a.length 0 (by omega))
    · obtain ⟨j, _, e1, e2⟩ := inv_at c hpi hi
      rw [thenTo_at _ _ _ _ (by rw [hpi.1]; exact hi), e2, Int.toNat_natCast]
      exact e1
    · refine Ev.bind hu (pos rfl (Ev.bind hv ?_))
      by_cases d : good b
      · have hvx := hvo.mpr d
        subst hvx
        rcases hqo with ⟨h, _⟩ | ⟨_, _, hl, rfl⟩ | ⟨_, _, hl, rfl⟩
        · exact absurd ⟨c, d⟩ h
        · exact Ev.step (fun k => sj4_n a b k (by omega)) awoke
        · exact Ev.step (fun k => sj4_e a b (thenTo a b b.length) 0 k (by omega)) (l1_loop (by omega) (fun j hj => by rw [hl]; exact d.1 j hj) b.length 0 (by omega))
      · have hvx : v = false := by
          cases v with
          | false => rfl
          | true => exact absurd (hvo.mp rfl) d
        subst hvx
        rcases hqo with ⟨_, rfl⟩ | ⟨_, h, _⟩ | ⟨_, h, _⟩
        · exact Ev.step (fun k => sj4_t a b k) awoke
        · exact absurd h d
        · exact absurd h d
  · have hux : u = false := by
      cases u with
      | false => rfl
      | true => exact absurd (huo.mp rfl) c
    subst hux
    rcases hqo with ⟨_, rfl⟩ | ⟨h, _⟩ | ⟨h, _⟩
    · exact neg (by simp) (Ev.bind hu (neg (by simp) (Ev.step (fun k => sj6_t a b k) awoke)))
    · exact absurd h c
    · exact absurd h c
theorem OrderBacks : penumbralaw41_OrderBacks.Pure := by
  unfold penumbralaw41_OrderBacks.Pure
  intro a b _ _ _ _ _ _
  have hj : Ev (fun k => penumbralaw41_OrderBacks.j0 k a b true) true := Ev.step (fun k => sj0_t a b k) (Ev.bind awake41 (Ev.now _))
  refine Ev.rounds ?_
  unfold penumbralaw41_OrderBacks.f
  by_cases c : (a.length : Int) > 40
  · exact pos c hj
  · refine neg c ?_
    by_cases d : (b.length : Int) > 40
    · rw [decide_eq_true d]
      exact hj
    · rw [decide_eq_false d]
      exact backs (by omega) (by omega)
end Go.Proofs.Ytjfegfhhgekcfaa.Pure
