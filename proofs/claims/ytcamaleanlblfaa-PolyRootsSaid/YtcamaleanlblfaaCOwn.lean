/- What the statements of this chapter share. -/
import Derived.Test.YtcamaleanlblfaaQx2
import Derived.Test.YtcamaleanlblfaaCLaw2L
set_option linter.unusedVariables false
set_option linter.unusedSimpArgs false
namespace Go.Proofs.Ytcamaleanlblfaa.Q
open Go.RowKit Go.Proofs.YtcamaleanlblfaaW.PrintWords Go.Proofs.YtcamaleanlblfaaW.PrintLast Go.Proofs.YtcamaleanlblfaaW.PrintMore Go.Proofs.Ytcamaleanlblfaa.Bits Go.Proofs.Ytcamaleanlblfaa GF PolyT
theorem own_V (l : List F) (hs : Small l) : gossamerlaw02_own.f (V l) = some (V l) := by
  unfold gossamerlaw02_own.f
  simp only [Option.bind_some, List.nil_append, List.length_nil, V_length]
  rw [if_pos (by omega)]
end Go.Proofs.Ytcamaleanlblfaa.Q
