/- A moved factor lies between where it was and the right one, and is no farther from it.
   Conditions: none. -/
import Derived.Test.YtblhkbncpopkcaaQx2
import Derived.Test.YtblhkbncpopkcaaCEst
set_option linter.unusedVariables false
namespace Go.Proofs.Ytblhkbncpopkcaa.Pure
open Go.RowKit Go.Proofs.Ytblhkbncpopkcaa.Q Go.Proofs.YtblhkbncpopkcaaW.PrintWords Go.Proofs.YtblhkbncpopkcaaW.PrintLast Go.Proofs.YtblhkbncpopkcaaW.PrintMore
theorem EstimateNears : gossamerlaw24_EstimateNears.Pure := by
  intro q r _ _
  refine ⟨4, ?_⟩
  unfold gossamerlaw24_EstimateNears.f
  rw [alive_w 0]
  simp only [Option.bind_some, if_true]
  by_cases h : inR q ∧ inR r
  · rw [move_in h.1 h.2 0]
    simp only [Option.bind_some, Option.isNone_none, if_true]
    have h1 := h.1; have h2 := h.2
    unfold inR at h1 h2
    unfold mx mn moved
    by_cases e : r < q
    · have e' : ¬ q < r := by omega
      simp only [if_pos e, if_neg e']
      rw [w_small (n := q - r) (by omega) (by omega), if_pos (by omega), if_pos (by omega)]
      by_cases e2 : q - r < 4
      · rw [if_pos e2]
      · rw [if_neg e2]; congr 1; rw [bne_iff_ne]; omega
    · by_cases e3 : q < r
      · simp only [if_neg e, if_pos e3]
        rw [w_small (n := r - q) (by omega) (by omega), if_pos (by omega), if_pos (by omega)]
        by_cases e2 : r - q < 4
        · rw [if_pos e2]
        · rw [if_neg e2]; congr 1; rw [bne_iff_ne]; omega
      · simp only [if_neg e, if_neg e3]
        rw [w_small (n := q - q) (by omega) (by omega), if_pos (by omega), if_pos (by omega), if_pos (by omega)]
  · rw [move_out h 0]; rfl

end Go.Proofs.Ytblhkbncpopkcaa.Pure
