-- Written by px.py, a program of this session (over the kit's print, with extensions of its own).
import Derived.Test.YtfjkiiajbeaaoaaProg
import Derived.Below
import Derived.Deep.Draws
import Derived.Deep.AppendLies
import Derived.Maps.AppendAt
import Derived.OwnWalk
import Derived.Laws.BytesArg
import Derived.Laws.MakeOwn
import Derived.Laws.OwnMore
import Derived.Deep.OwnRows
import Derived.Tactics
import Derived.Lib.ConvBytes
import Derived.Laws.Slices
import Derived.WalkKit
import Derived.KernelRfl
import Derived.RowKit3
import Derived.Deep.LoopGhost
import Derived.Deep.QuietTactic
import Derived.BigQuiet
import Derived.WideLaws
import Derived.Deep.DeepCutAuto
import Derived.Deep.CutBlock
import Derived.Deep.RegionHeld3
import Derived.Laws.Rows
import Derived.Lib.AppendStr
import Derived.ArgAppend
import Derived.Laws.IdiomCopy
import Derived.OrdersHeld
import Derived.Laws.BitsLemmas
import Derived.RowKit
import Derived.Lib.LazyBuf
import Derived.Test.YtfjkiiajbeaaoaaMOffW
import Derived.Test.YtfjkiiajbeaaoaaWWords
import Derived.Test.YtfjkiiajbeaaoaaWLast
import Derived.Test.YtfjkiiajbeaaoaaWTab
import Derived.Test.YtfjkiiajbeaaoaaWFour
import Derived.Test.YtfjkiiajbeaaoaaWQPut
import Derived.Test.YtfjkiiajbeaaoaaWApart
import Derived.Test.YtfjkiiajbeaaoaaWArr
import Derived.Test.YtfjkiiajbeaaoaaWZeros
import Derived.Test.YtfjkiiajbeaaoaaWFoot
import Derived.Test.YtfjkiiajbeaaoaaWKept
import Derived.Test.YtfjkiiajbeaaoaaWShare
import Derived.Test.YtfjkiiajbeaaoaaWN
import Derived.Test.YtfjkiiajbeaaoaaWFootNe
import Derived.Test.YtfjkiiajbeaaoaaWAt
import Derived.Test.YtfjkiiajbeaaoaaWEqStruct
import Derived.Test.YtfjkiiajbeaaoaaWRepsOne
import Derived.Test.YtfjkiiajbeaaoaaWInv
import Derived.Test.YtfjkiiajbeaaoaaWInvWords
import Derived.Test.YtfjkiiajbeaaoaaWGuard
import Derived.Test.YtfjkiiajbeaaoaaWNEv
import Derived.Test.YtfjkiiajbeaaoaaWMore
namespace Go.Proofs.Ytfjkiiajbeaaoaa.Q
open Go.RowKit Go.Proofs.YtfjkiiajbeaaoaaW.PrintWords Go.Proofs.YtfjkiiajbeaaoaaW.PrintLast Go.Proofs.YtfjkiiajbeaaoaaW.PrintMore
attribute [local go_sem] max2_int min2_int max_two min_two max_three min_three max_four min_four   -- for this text's walks alone
set_option linter.unusedVariables false
set_option linter.unusedSimpArgs false



def errW : Option Int → Value
  | none => .nilIface
  | some c => .iface 38 (.int .i64 c)
theorem errW_none : errW none = .nilIface := rfl
theorem errW_some (c : Int) : errW (some c) = .iface 38 (.int .i64 c) := rfl

theorem px_len_ {α : Type} {R : α → List Value → Prop} {size : Nat} {w : World} {A : Option Addr} {n m : Nat} {ps : List α} (h : ReadsRow R size w A n ps) (e : n = m) : ReadsRow R size w A m ps := e ▸ h
theorem info30 : (Try.prog.info? 30).map (fun i => (i.zero, i.size, i.bytes)) = some (some (.int .u32 0), 1, 4) := by kernel_rfl
-- the values' own types
def rd_L1 (xs : List (List Int)) (i : Int) : (List Int) := xs.getD i.toNat ([] : List Int)
theorem at_L1 {w : World} {A : Option Addr} {n : Nat} {xs : List (List Int)} (h : Kd.C (Kd.slice 30 (Kd.int .u32)) w A n xs) (i : Int) (h0 : 0 ≤ i) (h1 : i < n) : ∃ ad A0 c0, A = some ad ∧ w.cell? (ad.add i.toNat) = some (.slice A0 (rd_L1 xs i).length c0) ∧ (rd_L1 xs i).length ≤ c0 ∧ (Kd.int .u32).C w A0 (rd_L1 xs i).length (rd_L1 xs i) := by
  obtain ⟨ad, c, e, _, hK, hc0⟩ := Kd.C_get h ([] : List Int) i h0 h1
  have hc : ∀ j u, c[j]? = some u → w.cell? (ad.add (i.toNat * 1 + j)) = some u := hc0
  obtain ⟨A0, c0, rfl, l0, g0⟩ := hK
  exact ⟨ad, A0, c0, e, by have hq := hc 0 _ rfl; rwa [Nat.mul_one, Nat.add_zero] at hq, l0, g0⟩

end Go.Proofs.Ytfjkiiajbeaaoaa.Q
