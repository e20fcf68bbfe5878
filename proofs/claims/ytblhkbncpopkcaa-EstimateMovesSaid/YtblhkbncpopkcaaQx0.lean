-- Written by px.py, a program of this session (over the kit's print, with extensions of its own).
import Derived.Test.YtblhkbncpopkcaaProg
import Derived.Below
import Derived.Deep.Draws
import Derived.Deep.AppendLies
import Derived.Maps.AppendAt
import Derived.OwnWalk
import Derived.Laws.BytesArg
import Derived.Laws.MakeOwn
import Derived.Laws.OwnMore
import Derived.Deep.OwnRows
import Derived.Tactics
import Derived.Lib.ConvBytes
import Derived.Laws.Slices
import Derived.WalkKit
import Derived.KernelRfl
import Derived.RowKit3
import Derived.Deep.LoopGhost
import Derived.Deep.QuietTactic
import Derived.BigQuiet
import Derived.WideLaws
import Derived.Deep.DeepCutAuto
import Derived.Deep.CutBlock
import Derived.Deep.RegionHeld3
import Derived.Laws.Rows
import Derived.Lib.AppendStr
import Derived.ArgAppend
import Derived.Laws.IdiomCopy
import Derived.OrdersHeld
import Derived.Laws.BitsLemmas
import Derived.RowKit
import Derived.Test.YtblhkbncpopkcaaWWords
import Derived.Test.YtblhkbncpopkcaaWLast
import Derived.Test.YtblhkbncpopkcaaWTab
import Derived.Test.YtblhkbncpopkcaaWFour
import Derived.Test.YtblhkbncpopkcaaWQPut
import Derived.Test.YtblhkbncpopkcaaWApart
import Derived.Test.YtblhkbncpopkcaaWArr
import Derived.Test.YtblhkbncpopkcaaWZeros
import Derived.Test.YtblhkbncpopkcaaWFoot
import Derived.Test.YtblhkbncpopkcaaWKept
import Derived.Test.YtblhkbncpopkcaaWShare
import Derived.Test.YtblhkbncpopkcaaWN
import Derived.Test.YtblhkbncpopkcaaWFootNe
import Derived.Test.YtblhkbncpopkcaaWAt
import Derived.Test.YtblhkbncpopkcaaWEqStruct
import Derived.Test.YtblhkbncpopkcaaWRepsOne
import Derived.Test.YtblhkbncpopkcaaWInv
import Derived.Test.YtblhkbncpopkcaaWInvWords
import Derived.Test.YtblhkbncpopkcaaWGuard
import Derived.Test.YtblhkbncpopkcaaWNEv
import Derived.Test.YtblhkbncpopkcaaWMore
namespace Go.Proofs.Ytblhkbncpopkcaa.Q
open Go.RowKit Go.Proofs.YtblhkbncpopkcaaW.PrintWords Go.Proofs.YtblhkbncpopkcaaW.PrintLast Go.Proofs.YtblhkbncpopkcaaW.PrintMore
attribute [local go_sem] max2_int min2_int max_two min_two max_three min_three max_four min_four   -- for this text's walks alone
set_option linter.unusedVariables false
set_option linter.unusedSimpArgs false



def errW : Option Int → Value
  | none => .nilIface
  | some c => .iface 46 (.int .i64 c)
theorem errW_none : errW none = .nilIface := rfl
theorem errW_some (c : Int) : errW (some c) = .iface 46 (.int .i64 c) := rfl

theorem info3 : (Try.prog.info? 3).map (fun i => (i.zero, i.size, i.bytes)) = some (some (.int .i64 0), 1, 8) := by kernel_rfl
-- the values' own types

end Go.Proofs.Ytblhkbncpopkcaa.Q
