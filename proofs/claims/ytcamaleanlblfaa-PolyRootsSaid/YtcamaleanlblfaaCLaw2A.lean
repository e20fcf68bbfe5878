/- What the statements of this chapter share: their fixed fact. -/
import Derived.Test.YtcamaleanlblfaaQx2
import Derived.Test.YtcamaleanlblfaaCPoly
set_option linter.unusedVariables false
set_option linter.unusedSimpArgs false
namespace Go.Proofs.Ytcamaleanlblfaa.Q
open Go.RowKit Go.Proofs.YtcamaleanlblfaaW.PrintWords Go.Proofs.YtcamaleanlblfaaW.PrintLast Go.Proofs.YtcamaleanlblfaaW.PrintMore Go.Proofs.Ytcamaleanlblfaa.Bits Go.Proofs.Ytcamaleanlblfaa GF PolyT
theorem alive_E : Ev (fun k => gossamerlaw02_alive.f k) true := Ev.of_mono 60 (by decide +kernel) (fun k r h => gossamerlaw02_alive.mono k r h)
end Go.Proofs.Ytcamaleanlblfaa.Q
