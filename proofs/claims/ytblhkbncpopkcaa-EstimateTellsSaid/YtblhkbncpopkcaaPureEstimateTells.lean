/- The estimate and the capacity of any sizes, by any factor, are the document's.
   Conditions: none. -/
import Derived.Test.YtblhkbncpopkcaaQx2
import Derived.Test.YtblhkbncpopkcaaCEst
import Derived.Test.YtblhkbncpopkcaaCEstRef
set_option linter.unusedVariables false
namespace Go.Proofs.Ytblhkbncpopkcaa.Pure
open Go.RowKit Go.Proofs.Ytblhkbncpopkcaa.Q Go.Proofs.YtblhkbncpopkcaaW.PrintWords Go.Proofs.YtblhkbncpopkcaaW.PrintLast Go.Proofs.YtblhkbncpopkcaaW.PrintMore
theorem EstimateTells : gossamerlaw24_EstimateTells.Pure := by
  intro a b q _ _ _
  refine ⟨4, ?_⟩
  unfold gossamerlaw24_EstimateTells.f
  rw [alive_w 0]
  simp only [Option.bind_some, if_true]
  by_cases h : inR a ∧ inR b ∧ inR q
  · rw [estimate_in h.1 h.2.1 h.2.2 0, restimate_in h.1 h.2.1 h.2.2, capacity_in h.1 h.2.1 h.2.2 0]
    unfold gossamerref24_Capacity.f
    rw [restimate_in h.1 h.2.1 h.2.2]
    simp only [Option.bind_some, told_in, if_true]
    unfold mn
    by_cases e : est a b q > 20
    · rw [if_pos e, if_pos (by omega)]; simp [told_in]
    · rw [if_neg e, if_neg (by omega)]; simp [told_in]
  · rw [estimate_out h 0, restimate_out h, capacity_out h 0]
    unfold gossamerref24_Capacity.f
    rw [restimate_out h]
    simp [told_out]

end Go.Proofs.Ytblhkbncpopkcaa.Pure
