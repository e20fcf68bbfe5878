/- A beginning of a sequence has no greater length; where it grows, it grows as the law says.
   Conditions: none. -/
import Derived.Test.YtfjkiiajbeaaoaaRx2
import Derived.Test.YtfjkiiajbeaaoaaCM3
set_option linter.unusedVariables false
namespace Go.Proofs.Ytfjkiiajbeaaoaa.Pure
open Go.RowKit Go.Proofs.Ytfjkiiajbeaaoaa.R Go.Proofs.YtfjkiiajbeaaoaaW.PrintWords Go.Proofs.YtfjkiiajbeaaoaaW.PrintLast Go.Proofs.YtfjkiiajbeaaoaaW.PrintMore Go.Proofs.Ytfjkiiajbeaaoaa.Bits Go.Proofs.Ytfjkiiajbeaaoaa GF PolyT MV Massey
theorem less_loop (s : List F) (hs : s.length ≤ 40) : ∀ (n i : Nat), i + n = s.length → Ev (fun k => gossamerlaw03_MasseyLess.l0 k (V s) ((run (co s) i).len : Int) ((V s).length : Int) (i : Int)) true := by
  intro n
  induction n with
  | zero =>
    intro i hi
    refine Ev.succ ?_
    simp only [gossamerlaw03_MasseyLess.l0]
    exact Ev.neg (by rw [V_length]; omega) Ev.some'
  | succ n ih =>
    intro i hi
    refine Ev.succ ?_
    have hw2 : wrap64 ((i : Int) + 1) = ((i + 1 : Nat) : Int) := wrap_nat1 (by omega)
    have hl : (s.take (i + 1)).length = i + 1 := by rw [List.length_take]; omega
    have hL := length_V (s.take (i + 1)) (by omega)
    rw [hl, run_local (co (s.take (i + 1))) (co s) (i + 1) (fun j hj => by rw [PolyT.co_take, if_pos hj])] at hL
    have hst := len_step (co s) i
    have hb := (MW.run_bounds (co s) (i + 1)).2.2.2.2
    have hi2 := ih (i + 1) (by omega)
    simp only [gossamerlaw03_MasseyLess.l0]
    rw [hw2, Int.toNat_natCast, V_take]
    have hw3 : wrap64 (((i + 1 : Nat) : Int) - ((run (co s) i).len : Int)) = ((i + 1 - (run (co s) i).len : Nat) : Int) := wrap_sub (by have := (MW.run_bounds (co s) i).2.2.2.2; omega) (by omega)
    rw [hw3]
    generalize (run (co s) (i + 1)).len = p at *
    generalize (run (co s) i).len = q at *
    refine Ev.pos (by rw [V_length]; omega) (Ev.pos (by omega) (Ev.pos (by rw [V_length]; omega) (Ev.bind' hL ?_)))
    refine Ev.neg (by omega) ?_
    by_cases h : q < p
    · exact Ev.pos (by omega) (Ev.pos (by omega) (Ev.neg (by omega) hi2))
    · exact Ev.neg (by omega) (Ev.neg (by omega) hi2)
theorem MasseyLess : gossamerlaw03_MasseyLess.Pure := by
  intro l0 _ _ h0
  obtain ⟨s, rfl⟩ := V_of l0 h0
  have : Ev (fun k => gossamerlaw03_MasseyLess.f k (V s)) true := by
    unfold gossamerlaw03_MasseyLess.f
    refine Ev.bind alive_E (Ev.pos rfl ?_)
    by_cases hl : s.length ≤ 40
    · exact Ev.neg (by rw [V_length]; omega) (less_loop s hl s.length 0 (by omega))
    · exact Ev.pos (by rw [V_length]; omega) Ev.some'
  obtain ⟨K, hK⟩ := this
  exact ⟨K, hK K (Nat.le_refl _)⟩
end Go.Proofs.Ytfjkiiajbeaaoaa.Pure
