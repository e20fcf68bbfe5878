-- Written by px.py, a program of this session (over the kit's print, with extensions of its own).
import Derived.Test.YtecdfejhidnedaaProg
import Derived.Below
import Derived.Deep.Draws
import Derived.Deep.AppendLies
import Derived.Maps.AppendAt
import Derived.OwnWalk
import Derived.Laws.BytesArg
import Derived.Laws.MakeOwn
import Derived.Laws.OwnMore
import Derived.Deep.OwnRows
import Derived.Tactics
import Derived.Lib.ConvBytes
import Derived.Laws.Slices
import Derived.WalkKit
import Derived.KernelRfl
import Derived.RowKit3
import Derived.Deep.LoopGhost
import Derived.Deep.QuietTactic
import Derived.BigQuiet
import Derived.WideLaws
import Derived.Deep.DeepCutAuto
import Derived.Deep.CutBlock
import Derived.Deep.RegionHeld3
import Derived.Laws.Rows
import Derived.Lib.AppendStr
import Derived.ArgAppend
import Derived.Laws.IdiomCopy
import Derived.OrdersHeld
import Derived.Laws.BitsLemmas
import Derived.RowKit
import Derived.Lib.LazyBuf
import Derived.Test.YtecdfejhidnedaaSipRR
import Derived.Test.YtecdfejhidnedaaSipH
import Derived.Test.YtecdfejhidnedaaWWords
import Derived.Test.YtecdfejhidnedaaWLast
import Derived.Test.YtecdfejhidnedaaWTab
import Derived.Test.YtecdfejhidnedaaWFour
import Derived.Test.YtecdfejhidnedaaWQPut
import Derived.Test.YtecdfejhidnedaaWApart
import Derived.Test.YtecdfejhidnedaaWArr
import Derived.Test.YtecdfejhidnedaaWZeros
import Derived.Test.YtecdfejhidnedaaWFoot
import Derived.Test.YtecdfejhidnedaaWKept
import Derived.Test.YtecdfejhidnedaaWShare
import Derived.Test.YtecdfejhidnedaaWN
import Derived.Test.YtecdfejhidnedaaWFootNe
import Derived.Test.YtecdfejhidnedaaWAt
import Derived.Test.YtecdfejhidnedaaWEqStruct
import Derived.Test.YtecdfejhidnedaaWRepsOne
import Derived.Test.YtecdfejhidnedaaWInv
import Derived.Test.YtecdfejhidnedaaWInvWords
import Derived.Test.YtecdfejhidnedaaWGuard
import Derived.Test.YtecdfejhidnedaaWNEv
import Derived.Test.YtecdfejhidnedaaWMore
namespace Go.Proofs.Ytecdfejhidnedaa.Q
open Go.RowKit Go.Proofs.YtecdfejhidnedaaW.PrintWords Go.Proofs.YtecdfejhidnedaaW.PrintLast Go.Proofs.YtecdfejhidnedaaW.PrintMore
attribute [local go_sem] max2_int min2_int max_two min_two max_three min_three max_four min_four   -- for this text's walks alone
set_option linter.unusedVariables false
set_option linter.unusedSimpArgs false



def errW : Option Int → Value
  | none => .nilIface
  | some c => .iface 0 (.int .i64 c)
theorem errW_none : errW none = .nilIface := rfl
theorem errW_some (c : Int) : errW (some c) = .iface 0 (.int .i64 c) := rfl

theorem px_len_ {α : Type} {R : α → List Value → Prop} {size : Nat} {w : World} {A : Option Addr} {n m : Nat} {ps : List α} (h : ReadsRow R size w A n ps) (e : n = m) : ReadsRow R size w A m ps := e ▸ h
theorem info5 : (Try.prog.info? 5).map (fun i => (i.zero, i.size, i.bytes)) = some (some (.int .u8 0), 1, 1) := by kernel_rfl
-- the values' own types

end Go.Proofs.Ytecdfejhidnedaa.Q
