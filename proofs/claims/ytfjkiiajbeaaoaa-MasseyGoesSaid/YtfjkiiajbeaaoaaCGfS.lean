/- What the printed functions of the field come to, at words that are spelled as bit vectors. -/
import Derived.Test.YtfjkiiajbeaaoaaQx1
import Derived.Test.YtfjkiiajbeaaoaaCGf
set_option linter.unusedVariables false
set_option linter.unusedSimpArgs false
namespace Go.Proofs.Ytfjkiiajbeaaoaa.Q
open Go.RowKit Go.Proofs.YtfjkiiajbeaaoaaW.PrintWords Go.Proofs.YtfjkiiajbeaaoaaW.PrintLast Go.Proofs.YtfjkiiajbeaaoaaW.PrintMore Go.Proofs.Ytfjkiiajbeaaoaa.Bits Go.Proofs.Ytfjkiiajbeaaoaa
/-! gf.shift -/
/-! gf.Square -/
theorem square_v (a : BitVec 32) (k : Nat) (hk : 33 ≤ k) : gf_Square.f k (v a) = some (v (GF.sq a)) := by
  unfold gf_Square.f; rw [mul_v a a k hk]; rfl

end Go.Proofs.Ytfjkiiajbeaaoaa.Q
