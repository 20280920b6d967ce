/- Digits, numbers, and what a raster's bytes say: plain. -/
import Derived.Test.YtmpbjmjphapnoaaPe
namespace Go.Proofs.Ytmpbjmjphapnoaa.Gv
open Go.RowKit Go.Proofs.YtmpbjmjphapnoaaW.PrintWords Go.Proofs.YtmpbjmjphapnoaaW.PrintLast
/-- bytes as a text -/
def B (l : List UInt8) : ByteArray := ⟨l.toArray⟩
/-- digit d -/
def dig (d : Nat) : UInt8 := UInt8.ofNat (48 + d)
/-- the digits of a number, with so many rounds -/
def dgF : Nat → Nat → List UInt8
  | 0, n => [dig n]
  | k + 1, n => if n < 10 then [dig n] else dgF k (n / 10) ++ [dig (n % 10)]
/-- the digits of a number -/
def dg (n : Nat) : List UInt8 := dgF n n
/-- a number's text read on -/
def numGo : List UInt8 → Nat → Nat → Option Nat
  | [], _, n => some n
  | b :: l, i, n => if b < 48 ∨ 57 < b ∨ 6 ≤ i then none else numGo l (i + 1) (10 * n + (b.toNat - 48))
/-- what a text says as a number, and whether it is one -/
def numL (l : List UInt8) : Nat × Bool :=
  match numGo l 0 0 with
  | none => (0, false)
  | some n => (n, !l.isEmpty && dg n == l)
/-- up to a byte, behind it, and whether it is there -/
def cutL (c : UInt8) : List UInt8 → List UInt8 × List UInt8 × Bool
  | [] => ([], [], false)
  | b :: l => if b = c then ([], l, true) else (b :: (cutL c l).1, (cutL c l).2.1, (cutL c l).2.2)
/-- bytes as numbers -/
def nb (l : List UInt8) : List Int := l.map fun b => (b.toNat : Int)
/-- what is wrong with a raster -/
def chk (w h n : Int) : Int :=
  if w < 1 ∨ h < 1 ∨ 8192 < w ∨ 8192 < h then 12 else if 65536 < w * h then 4 else if n = 3 * w * h then 0 else 14
/-- a raster's bytes -/
def decL (l : List UInt8) : Int × Int × List Int × Int :=
  if l.length < 3 then (0, 0, [], 5) else if l.take 3 ≠ [80, 54, 10] then (0, 0, [], 6) else
  if ¬ ((cutL 32 (l.drop 3)).2.2 = true ∧ (cutL 10 (cutL 32 (l.drop 3)).2.1).2.2 = true ∧ (cutL 10 (cutL 10 (cutL 32 (l.drop 3)).2.1).2.1).2.2 = true) then (0, 0, [], 5) else
  if ¬ ((numL (cutL 32 (l.drop 3)).1).2 = true ∧ (numL (cutL 10 (cutL 32 (l.drop 3)).2.1).1).2 = true ∧ (numL (cutL 10 (cutL 10 (cutL 32 (l.drop 3)).2.1).2.1).1).2 = true) then (0, 0, [], 6) else
  if dg (numL (cutL 10 (cutL 10 (cutL 32 (l.drop 3)).2.1).2.1).1).1 ≠ [50, 53, 53] then (0, 0, [], 6) else
  if chk (numL (cutL 32 (l.drop 3)).1).1 (numL (cutL 10 (cutL 32 (l.drop 3)).2.1).1).1 (3 * (numL (cutL 32 (l.drop 3)).1).1 * (numL (cutL 10 (cutL 32 (l.drop 3)).2.1).1).1) ≠ 0 then (0, 0, [], 3) else
  if (cutL 10 (cutL 10 (cutL 32 (l.drop 3)).2.1).2.1).2.1.length < 3 * (numL (cutL 32 (l.drop 3)).1).1 * (numL (cutL 10 (cutL 32 (l.drop 3)).2.1).1).1 then (0, 0, [], 5) else
  if 3 * (numL (cutL 32 (l.drop 3)).1).1 * (numL (cutL 10 (cutL 32 (l.drop 3)).2.1).1).1 < (cutL 10 (cutL 10 (cutL 32 (l.drop 3)).2.1).2.1).2.1.length then (0, 0, [], 6) else
  ((numL (cutL 32 (l.drop 3)).1).1, (numL (cutL 10 (cutL 32 (l.drop 3)).2.1).1).1, nb (cutL 10 (cutL 10 (cutL 32 (l.drop 3)).2.1).2.1).2.1, 0)
def decF (s : ByteArray) : Int × Int × List Int × Int := decL s.data.toList
/-- the first m bytes of a raster whose pixels are those at places that are told -/
def frTo (b : List Int) (W : Nat) (F : Nat → Nat → Nat) (m : Nat) : List Int := (List.range m).map fun k => b.getD (3 * F (k / 3 % W) (k / 3 / W) + k % 3) 0
def flipF (w h : Int) (b : List Int) : List Int × Int :=
  if chk w h b.length = 0 then (frTo b w.toNat (fun x y => y * w.toNat + (w.toNat - 1 - x)) b.length, 0) else ([], chk w h b.length)
def turnF (w h : Int) (b : List Int) : List Int × Int :=
  if chk w h b.length = 0 then (frTo b h.toNat (fun x y => (h.toNat - 1 - x) * w.toNat + y) b.length, 0) else ([], chk w h b.length)
end Go.Proofs.Ytmpbjmjphapnoaa.Gv
