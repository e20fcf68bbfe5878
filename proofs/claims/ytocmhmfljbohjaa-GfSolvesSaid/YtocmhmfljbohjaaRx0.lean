-- Written by px.py, a program of this session (over the kit's print, with extensions of its own).
import Derived.Test.YtocmhmfljbohjaaProg
import Derived.Below
import Derived.Deep.Draws
import Derived.Deep.AppendLies
import Derived.Maps.AppendAt
import Derived.OwnWalk
import Derived.Laws.BytesArg
import Derived.Laws.MakeOwn
import Derived.Laws.OwnMore
import Derived.Deep.OwnRows
import Derived.Tactics
import Derived.Lib.ConvBytes
import Derived.Laws.Slices
import Derived.WalkKit
import Derived.KernelRfl
import Derived.RowKit3
import Derived.Deep.LoopGhost
import Derived.Deep.QuietTactic
import Derived.BigQuiet
import Derived.WideLaws
import Derived.Deep.DeepCutAuto
import Derived.Deep.CutBlock
import Derived.Deep.RegionHeld3
import Derived.Laws.Rows
import Derived.Lib.AppendStr
import Derived.ArgAppend
import Derived.Laws.IdiomCopy
import Derived.OrdersHeld
import Derived.Laws.BitsLemmas
import Derived.RowKit
import Derived.Lib.LazyBuf
import Derived.Test.YtocmhmfljbohjaaETab
import Derived.Test.YtocmhmfljbohjaaEMul
import Derived.Test.YtocmhmfljbohjaaWalkRSolve
import Derived.Test.YtocmhmfljbohjaaWWords
import Derived.Test.YtocmhmfljbohjaaWLast
import Derived.Test.YtocmhmfljbohjaaWTab
import Derived.Test.YtocmhmfljbohjaaWFour
import Derived.Test.YtocmhmfljbohjaaWQPut
import Derived.Test.YtocmhmfljbohjaaWApart
import Derived.Test.YtocmhmfljbohjaaWArr
import Derived.Test.YtocmhmfljbohjaaWZeros
import Derived.Test.YtocmhmfljbohjaaWFoot
import Derived.Test.YtocmhmfljbohjaaWKept
import Derived.Test.YtocmhmfljbohjaaWShare
import Derived.Test.YtocmhmfljbohjaaWN
import Derived.Test.YtocmhmfljbohjaaWFootNe
import Derived.Test.YtocmhmfljbohjaaWAt
import Derived.Test.YtocmhmfljbohjaaWEqStruct
import Derived.Test.YtocmhmfljbohjaaWRepsOne
import Derived.Test.YtocmhmfljbohjaaWInv
import Derived.Test.YtocmhmfljbohjaaWInvWords
import Derived.Test.YtocmhmfljbohjaaWGuard
import Derived.Test.YtocmhmfljbohjaaWNEv
import Derived.Test.YtocmhmfljbohjaaWMore
namespace Go.Proofs.Ytocmhmfljbohjaa.R
open Go.RowKit Go.Proofs.YtocmhmfljbohjaaW.PrintWords Go.Proofs.YtocmhmfljbohjaaW.PrintLast Go.Proofs.YtocmhmfljbohjaaW.PrintMore
attribute [local go_sem] max2_int min2_int max_two min_two max_three min_three max_four min_four   -- for this text's walks alone
set_option linter.unusedVariables false
set_option linter.unusedSimpArgs false



def errW : Option Int → Value
  | none => .nilIface
  | some c => .iface 0 (.int .i64 c)
theorem errW_none : errW none = .nilIface := rfl
theorem errW_some (c : Int) : errW (some c) = .iface 0 (.int .i64 c) := rfl

theorem px_len_ {α : Type} {R : α → List Value → Prop} {size : Nat} {w : World} {A : Option Addr} {n m : Nat} {ps : List α} (h : ReadsRow R size w A n ps) (e : n = m) : ReadsRow R size w A m ps := e ▸ h
-- the values' own types

end Go.Proofs.Ytocmhmfljbohjaa.R
