/- The value of a polynomial (poly.At), which ranges over slices.Backward: what the call comes to, by whatever total function gf.Mul computes. -/
import Derived.RangeFuncBox
import Derived.RangeFuncLeaves
import Derived.RangeFuncNested
import Derived.RangeFuncBound
import Derived.RangeFuncCalls
import Derived.Shelf.Abstract
import Derived.Shelf.RegionOpen
import Derived.WalkKit
import Derived.OwnWalkIn
import Derived.TacticsInMore
import Derived.LoopNIn
import Derived.LoopIn
import Derived.Test.YtljkbkhaamlbmaaProg
import Derived.Test.YtljkbkhaamlbmaaWMore
set_option linter.unusedVariables false
set_option linter.unusedSimpArgs false
namespace Go.Proofs.Ytljkbkhaamlbmaa.EAt
open Go.RowKit Go.Shelf Go.Proofs.YtljkbkhaamlbmaaW.PrintWords
attribute [local go_sem] Oper.semAt_some
def upto {α : Type} (f : Nat → α) (k : Nat) : List α := (List.range k).map f
def pair (zs : List Int) (j : Nat) : Int × Int := ((zs.length : Int) - 1 - (j : Int), rd zs ((zs.length : Int) - 1 - (j : Int)))
def Cells (W : World) (A : Option Addr) (zs : List Int) : Prop := ∀ i : Int, 0 ≤ i → i < (zs.length : Int) → ∃ ad, A = some ad ∧ W.cell? (ad.add i.toNat) = some (.int .u32 (rd zs i))
def Kp (n₀ Bs : Nat) (W W' : World) : Prop := Below n₀ W W' ∧ ∀ u, W.cell? ⟨Bs, 0, none⟩ = some u → W'.cell? ⟨Bs, 0, none⟩ = some u
theorem Kp.refl (n₀ Bs : Nat) (W : World) : Kp n₀ Bs W W := ⟨Below.refl _ _, fun _ h => h⟩
theorem Kp.trans {n₀ Bs : Nat} {A B C : World} (h : Kp n₀ Bs A B) (k : Kp n₀ Bs B C) : Kp n₀ Bs A C := ⟨h.1.trans k.1, fun u hu => k.2 u (h.2 u hu)⟩
theorem Kp.b {n₀ Bs : Nat} {w : World} (hn : n₀ ≤ w.heap.size) (W : World) (l : Nat) (o o' : Obj) (hl : w.heap.size ≤ l) (h : W.heap[l]? = some o) (hc : o.isCells = false) (hw : o.isWalk = false) : Kp n₀ Bs W (W.putObj l o') :=
  ⟨belowK_b hn W l o o' hl h hc hw, fun u hu => cell_kept hu (grownBy_putObj' W l o') (fun r e => by cases e; exact ⟨o, h, hc⟩)⟩
def fold (m : Int → Int → Int) (x : Int) (pre : List (Int × Int)) : Int := pre.foldl (fun o c => Go.bits .xor .u32 (m o x) c.2) 0
end Go.Proofs.Ytljkbkhaamlbmaa.EAt
