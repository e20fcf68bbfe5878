/- massey.run: the bounds of what is under way. -/
import Derived.Test.YtfjkiiajbeaaoaaMTakeX
set_option linter.unusedVariables false
set_option linter.unusedSimpArgs false
namespace Go.Proofs.Ytfjkiiajbeaaoaa.MW
open Go.RowKit Go.Proofs.Ytfjkiiajbeaaoaa.Q Go.Proofs.YtfjkiiajbeaaoaaW.PrintWords Go.Proofs.YtfjkiiajbeaaoaaW.PrintLast Go.Proofs.YtfjkiiajbeaaoaaW.PrintMore Go.Proofs.Ytfjkiiajbeaaoaa.Bits Go.Proofs.Ytfjkiiajbeaaoaa GF PolyT MV Massey
theorem run_bounds (f : S) (n : Nat) : (run f n).now.length ≤ n + 1 ∧ (run f n).old.length ≤ n + 1 ∧ (run f n).gap ≤ n ∧ 1 ≤ (run f n).now.length ∧ (run f n).len ≤ n := by
  have h := inv_run f n
  have h1 := h.rec_.1
  have h2 := h.len
  refine ⟨by omega, ?_, ?_, h.pos, h2⟩
  · rcases h.old with ⟨_, _, e⟩ | ⟨m, l, a, b, _, _, c, _⟩
    · rw [e]; simp
    · omega
  · rcases h.old with ⟨_, e, _⟩ | ⟨m, l, a, b, c, _⟩
    · omega
    · omega
end Go.Proofs.Ytfjkiiajbeaaoaa.MW
