/- A recurrence is kept where the document says that it is.
   Conditions: none. -/
import Derived.Test.YtfjkiiajbeaaoaaRx3
import Derived.Test.YtfjkiiajbeaaoaaCM3
set_option linter.unusedVariables false
namespace Go.Proofs.Ytfjkiiajbeaaoaa.Pure
open Go.RowKit Go.Proofs.Ytfjkiiajbeaaoaa.R Go.Proofs.YtfjkiiajbeaaoaaW.PrintWords Go.Proofs.YtfjkiiajbeaaoaaW.PrintLast Go.Proofs.YtfjkiiajbeaaoaaW.PrintMore Go.Proofs.Ytfjkiiajbeaaoaa.Bits Go.Proofs.Ytfjkiiajbeaaoaa GF PolyT MV Massey
theorem MasseyKeeps : gossamerlaw03_MasseyKeeps.Pure := by
  intro l0 l1 _ _ h0 _ _ h1
  obtain ⟨c, rfl⟩ := V_of l0 h0
  obtain ⟨s, rfl⟩ := V_of l1 h1
  have : Ev (fun k => gossamerlaw03_MasseyKeeps.f k (V c) (V s)) true := by
    unfold gossamerlaw03_MasseyKeeps.f
    refine Ev.bind alive_E (Ev.pos rfl ?_)
    by_cases hc : c.length ≤ 24
    · refine Ev.neg (by rw [V_length]; omega) (Ev.succ ?_)
      simp only [gossamerlaw03_MasseyKeeps.j0]
      by_cases hs : s.length ≤ 48
      · obtain ⟨b, e1, k1⟩ := keeps_V c s (by unfold Small; omega) (by unfold Small; omega)
        obtain ⟨d, e2, k2⟩ := rkeeps_V c s (by unfold Small; omega) (by unfold Small; omega)
        have : b = d := Bool.eq_iff_iff.2 (e1.trans e2.symm)
        subst this
        exact Ev.neg (by rw [V_length]; simp; omega) (Ev.bind k1 (Ev.bind k2 (Ev.some'.to (by simp))))
      · exact Ev.pos (by rw [V_length]; simp; omega) Ev.some'
    · refine Ev.pos (by rw [V_length]; omega) (Ev.succ ?_)
      simp only [gossamerlaw03_MasseyKeeps.j0]
      exact Ev.pos trivial Ev.some'
  obtain ⟨K, hK⟩ := this
  exact ⟨K, hK K (Nat.le_refl _)⟩
end Go.Proofs.Ytfjkiiajbeaaoaa.Pure
