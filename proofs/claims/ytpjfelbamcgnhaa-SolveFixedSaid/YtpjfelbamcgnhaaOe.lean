/- package solve: a table half laid, one row on; plain memory. -/
import Derived.Test.YtpjfelbamcgnhaaOc
import Derived.Test.YtpjfelbamcgnhaaGb
import Derived.Test.YtpjfelbamcgnhaaGd
namespace Go.Proofs.Ytpjfelbamcgnhaa.Gv
open Go.RowKit Go.Proofs.Ytpjfelbamcgnhaa.X Go.Proofs.YtpjfelbamcgnhaaW.PrintWords Go.Proofs.YtpjfelbamcgnhaaW.PrintLast Pl Pa De
set_option linter.unusedVariables false
/-- rows as values -/
def rowsL (rs cp : Nat → Nat) (m i : Nat) : List Value := (List.range i).map fun j => .slice (some ⟨rs j, 0, none⟩) m (cp j)
/-- a table half laid -/
structure LP (w : World) (B g n m i : Nat) (rs cp : Nat → Nat) (M : Nat → Nat → Int) (v : Value) : Prop where
  t : w.heap[g]? = some (.cells #[.int .i64 n, v, .int .i64 1] 51 (0, 0))
  o : w.ownsRow B 22 1 v i (rowsL rs cp m i)
  r : ∀ j, j < i → RowIs w (rs j) m (M j)
  inj : ∀ j k, j < i → k < i → rs j = rs k → j = k
  ne : ∀ j, j < i → rs j ≠ g
  nv : some g ≠ v.ownBlock
  ge : B ≤ g ∧ ∀ j, j < i → B ≤ rs j
theorem RowIs.grownO {w w1 : World} {g n : Nat} {o : Option Nat} {X : Nat → Int} (h : RowIs w g n X) (hg : w.grownBy w1 o) (hne : some g ≠ o) : RowIs w1 g n X := by
  obtain ⟨cs, h1, h2⟩ := h
  exact ⟨cs, blk_grown h1 hg hne, h2⟩
theorem own_kind {w : World} {B n : Nat} {e : TypeId} {v : Value} {xs : List Value} (h : w.ownsRow B e 1 v n xs) (k : Nat) (hk : v.ownBlock = some k) : ∃ cur, w.heap[k]? = some (.cells cur e (0, 0)) := by
  rcases h.2 with ⟨rfl, _⟩ | ⟨g, cap, cur, rfl, _, hc, _⟩
  · cases hk
  · injection hk with hk
    subst hk
    exact ⟨cur, hc⟩
theorem row_not {w : World} {B n m g : Nat} {v : Value} {xs : List Value} {X : Nat → Int} (h : w.ownsRow B 22 1 v n xs) (hr : RowIs w g m X) : some g ≠ v.ownBlock := by
  intro e
  obtain ⟨cur, hc⟩ := own_kind h g e.symm
  obtain ⟨cs, h1, _⟩ := hr
  exact blk_ne h1 hc (by decide) rfl
set_option maxHeartbeats 1000000 in
theorem lp_next {wr w4 w6 : World} {B n i : Nat} {rs cp : Nat → Nat} {M : Nat → Nat → Int} {u : Value} {xs : List Int} {y : Int} {Ac : Option Addr} {cc : Nat} {Al : Option Addr} {cl : Nat}
    (h : LP wr B B n (n + 1) i rs cp M u) (h2 : Below wr.heap.size wr w4)
    (h4 : w4.ownsRow wr.heap.size 3 1 (.slice Ac (xs ++ [y]).length cc) (xs ++ [y]).length (nums .i64 (xs ++ [y]))) (hx : xs.length = n)
    (h6 : w6.ownsRow B 22 1 (.slice Al (i + 1) cl) (i + 1) (rowsL rs cp (n + 1) i ++ [.slice Ac (n + 1) cc])) (hg6 : w4.grownBy w6 u.ownBlock)
    (hM : ∀ k, k < n + 1 → M i k = (xs ++ [y]).getD k 0) :
    ∃ rs' cp', LP (w6.setCell ⟨B, 1, none⟩ (.slice Al (i + 1) cl)) B B n (n + 1) (i + 1) rs' cp' M (.slice Al (i + 1) cl) := by
  have hlen : (xs ++ [y]).length = n + 1 := by rw [List.length_append, hx]; rfl
  rcases h4.2 with ⟨e, h0⟩ | ⟨gb, cap, cur, e, hb, hc, hn1, hn2, hsz, htk⟩
  · omega
  injection e with e1 e2 e3
  subst e1 e3
  have hgl := blk_lt h.t
  have hrow : RowIs w4 gb (n + 1) (M i) := ⟨cur, hc, fun k hk => by
    have e4 : (nums .i64 (xs ++ [y]))[k]? = some (.int .i64 ((xs ++ [y]).getD k 0)) := by
      unfold nums
      rw [List.getElem?_map, List.getD_eq_getElem?_getD, List.getElem?_eq_getElem (by omega)]
      rfl
    rw [← htk, List.getElem?_take, if_pos (by omega), Array.getElem?_toList] at e4
    rw [e4, hM k hk]⟩
  have hul : ∀ k, u.ownBlock = some k → k < wr.heap.size := fun k hk => by
    obtain ⟨cu, hcu⟩ := own_kind h.o k hk
    exact blk_lt hcu
  have hgu : some gb ≠ u.ownBlock := fun q => by have := hul gb q.symm; omega
  have rold : ∀ j, j < i → RowIs w4 (rs j) (n + 1) (M j) := fun j hj => (h.r j hj).below h2
  have rlt : ∀ j, j < i → rs j < wr.heap.size := fun j hj => (h.r j hj).lt
  have t6 := blk_grown (blk_below h.t h2) hg6 h.nv
  have hnv : some B ≠ (Value.slice Al (i + 1) cl).ownBlock := by
    intro q
    obtain ⟨cu, hcu⟩ := own_kind h6 B q.symm
    exact blk_ne t6 hcu (by decide) rfl
  refine ⟨fun j => if j = i then gb else rs j, fun j => if j = i then cc else cp j, blk_put t6 1 _ rfl, ?_, fun j hj => ?_, fun j k hj hk he => ?_, fun j hj => ?_, hnv, Nat.le_refl _, fun j hj => ?_⟩
  · have e5 : rowsL (fun j => if j = i then gb else rs j) (fun j => if j = i then cc else cp j) (n + 1) (i + 1) = rowsL rs cp (n + 1) i ++ [.slice (some ⟨gb, 0, none⟩) (n + 1) cc] := by
      unfold rowsL
      rw [List.range_succ, List.map_append]
      congr 1
      · refine List.map_congr_left fun j hj => ?_
        rw [List.mem_range] at hj
        dsimp only
        rw [if_neg (by omega), if_neg (by omega)]
      · rw [List.map_cons, List.map_nil]
        dsimp only
        rw [if_pos rfl, if_pos rfl]
    rw [e5]
    exact own_setCell (p := ⟨B, 1, none⟩) h6 hnv _
  · by_cases q : j = i
    · rw [if_pos q, q]
      exact (hrow.grownO hg6 hgu).grown (grown_put w6 B 1 _) (by omega)
    · rw [if_neg q]
      have hj' : j < i := by omega
      exact ((rold j hj').grownO hg6 (row_not h.o (h.r j hj'))).grown (grown_put w6 B 1 _) (h.ne j hj')
  · try dsimp only at he
    by_cases q : j = i
    · by_cases q2 : k = i
      · omega
      · rw [if_pos q, if_neg q2] at he
        have := rlt k (by omega)
        omega
    · by_cases q2 : k = i
      · rw [if_neg q, if_pos q2] at he
        have := rlt j (by omega)
        omega
      · rw [if_neg q, if_neg q2] at he
        exact h.inj j k (by omega) (by omega) he
  · try dsimp only
    by_cases q : j = i
    · rw [if_pos q]; omega
    · rw [if_neg q]; exact h.ne j (by omega)
  · try dsimp only
    by_cases q : j = i
    · rw [if_pos q]; omega
    · rw [if_neg q]; exact h.ge.2 j (by omega)
theorem lp_tb {w : World} {B n : Nat} {rs cp : Nat → Nat} {M : Nat → Nat → Int} {v : Value} (h : LP w B B n (n + 1) n rs cp M v) (hn : 1 ≤ n) : ∃ L, TB w B B L n (n + 1) rs cp M 1 := by
  rcases h.o.2 with ⟨_, h0⟩ | ⟨L, cap, cur, e, hb, hc, hn1, hn2, hsz, htk⟩
  · omega
  subst e
  refine ⟨L, rfl, ⟨cap, h.t⟩, ⟨cur, hc, fun i hi => ?_⟩, h.r, h.inj, fun q => h.nv (by rw [q]; rfl), fun i hi => ⟨h.ne i hi, fun q => ?_⟩, Nat.le_refl _, hb, h.ge.2⟩
  · have e4 : (rowsL rs cp (n + 1) n)[i]? = some (.slice (some ⟨rs i, 0, none⟩) (n + 1) (cp i)) := by
      unfold rowsL
      rw [List.getElem?_map, List.getElem?_range hi]
      rfl
    rw [← htk, List.getElem?_take, if_pos (by omega), Array.getElem?_toList] at e4
    exact e4
  · obtain ⟨cs, h1, _⟩ := h.r i hi
    rw [q] at h1
    exact blk_ne h1 hc (by decide) rfl
end Go.Proofs.Ytpjfelbamcgnhaa.Gv
