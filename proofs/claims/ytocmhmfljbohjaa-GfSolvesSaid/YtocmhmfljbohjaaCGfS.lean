/- What the printed functions of the field come to, at words that are spelled as bit vectors. -/
import Derived.Test.YtocmhmfljbohjaaRx1
import Derived.Test.YtocmhmfljbohjaaCGf
set_option linter.unusedVariables false
set_option linter.unusedSimpArgs false
namespace Go.Proofs.Ytocmhmfljbohjaa.R
open Go.RowKit Go.Proofs.YtocmhmfljbohjaaW.PrintWords Go.Proofs.YtocmhmfljbohjaaW.PrintLast Go.Proofs.YtocmhmfljbohjaaW.PrintMore Go.Proofs.Ytocmhmfljbohjaa.Bits Go.Proofs.Ytocmhmfljbohjaa
/-! gf.shift -/
/-! gf.Square -/
theorem square_v (a : BitVec 32) (k : Nat) (hk : 33 ≤ k) : gf_Square.f k (v a) = some (v (GF.sq a)) := by
  unfold gf_Square.f; rw [mul_v a a k hk]; rfl

end Go.Proofs.Ytocmhmfljbohjaa.R
