/- What the statements of this chapter share. -/
import Derived.Test.YtcamaleanlblfaaQx2
import Derived.Test.YtcamaleanlblfaaCLaw2A
set_option linter.unusedVariables false
set_option linter.unusedSimpArgs false
namespace Go.Proofs.Ytcamaleanlblfaa.Q
open Go.RowKit Go.Proofs.YtcamaleanlblfaaW.PrintWords Go.Proofs.YtcamaleanlblfaaW.PrintLast Go.Proofs.YtcamaleanlblfaaW.PrintMore Go.Proofs.Ytcamaleanlblfaa.Bits Go.Proofs.Ytcamaleanlblfaa GF PolyT
theorem long_loop (L : List (List Int)) (hs : L.length < 4096) : ∀ (n i : Nat), i + n = L.length → Ev (fun k => gossamerlaw02_long.l0 k L (L.length : Int) (i : Int)) ((L.drop i).any fun x => decide (24 < x.length)) := by
  intro n
  induction n with
  | zero =>
    intro i hi
    refine Ev.succ ?_
    simp only [gossamerlaw02_long.l0]
    rw [List.drop_of_length_le (by omega)]
    exact Ev.neg (by omega) Ev.some'
  | succ n ih =>
    intro i hi
    refine Ev.succ ?_
    have hw2 : wrap64 ((i : Int) + 1) = ((i + 1 : Nat) : Int) := wrap_nat1 (by omega)
    have e : rd_L1 L (i : Int) = L[i]'(by omega) := by
      unfold rd_L1
      rw [Int.toNat_natCast, List.getD_eq_getElem?_getD, List.getElem?_eq_getElem (by omega)]; rfl
    simp only [gossamerlaw02_long.l0]
    rw [hw2, e, List.drop_eq_getElem_cons (by omega), List.any_cons]
    refine Ev.pos (by omega) (Ev.pos (by omega) (Ev.pos (by omega) ?_))
    by_cases h : 24 < (L[i]'(by omega)).length
    · refine Ev.pos (by omega) (Ev.some'.to ?_)
      rw [decide_eq_true h, Bool.true_or]
    · refine Ev.neg (by omega) ?_
      rw [decide_eq_false h, Bool.false_or]
      exact ih (i + 1) (by omega)
theorem long_E (L : List (List Int)) (hs : L.length < 4096) : Ev (fun k => gossamerlaw02_long.f k L) (L.any fun x => decide (24 < x.length)) := by
  unfold gossamerlaw02_long.f
  exact long_loop L hs L.length 0 (by omega)
end Go.Proofs.Ytcamaleanlblfaa.Q
