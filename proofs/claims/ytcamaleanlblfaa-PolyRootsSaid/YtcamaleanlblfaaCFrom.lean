/- What the printed polynomials of roots come to. -/
import Derived.Test.YtcamaleanlblfaaQx1
import Derived.Test.YtcamaleanlblfaaQx2
import Derived.Test.YtcamaleanlblfaaCPoly
import Derived.Test.YtcamaleanlblfaaPolyR
set_option linter.unusedVariables false
set_option linter.unusedSimpArgs false
namespace Go.Proofs.Ytcamaleanlblfaa.Q
open Go.RowKit Go.Proofs.YtcamaleanlblfaaW.PrintWords Go.Proofs.YtcamaleanlblfaaW.PrintLast Go.Proofs.YtcamaleanlblfaaW.PrintMore Go.Proofs.Ytcamaleanlblfaa.Bits Go.Proofs.Ytcamaleanlblfaa GF PolyT
theorem from_loop (l : List F) (hs : Small l) (hl : l.length < 2048) : ∀ (n i : Nat) (p : List F), i + n = l.length → RootsOf (l.take i) p → ∃ q, Ev (fun k => poly_From.l0 k (V p) (V l) (l.length : Int) (i : Int)) (V q) ∧ RootsOf l q := by
  intro n
  induction n with
  | zero =>
    intro i p hi h
    rw [List.take_of_length_le (by omega)] at h
    refine ⟨p, ?_, h⟩
    refine Ev.succ ?_
    simp only [poly_From.l0]
    exact Ev.neg (by omega) Ev.some'
  | succ n ih =>
    intro i p hi h
    have hp := h.facts.2.1
    rw [List.length_take] at hp
    obtain ⟨c, c1, c2, c3, c4⟩ := mul_V p [co l i, 1#32] (by unfold Small at *; omega) (by unfold Small; simp)
    have hsn : RootsOf (l.take (i + 1)) c := by
      rw [List.take_succ_eq_append_getElem (by omega), ← co_lt (show i < l.length by omega)]
      exact .snoc h c3 c2
    obtain ⟨q, q1, q2⟩ := ih (i + 1) c (by omega) hsn
    refine ⟨q, ?_, q2⟩
    refine Ev.succ ?_
    simp only [poly_From.l0, V_length]
    rw [wrap_nat1 (by omega), rd_Vn]
    have e : [v (co l i), 1] = V [co l i, 1#32] := by
      simp only [V, List.map_cons, List.map_nil]; congr 2
    rw [e]
    exact Ev.pos (by omega) (Ev.pos (by omega) (Ev.pos (by omega) (Ev.bind c1 q1)))
theorem from_V (l : List F) (hl : l.length < 2048) : ∃ q, Ev (fun k => poly_From.f k (V l)) (V q) ∧ RootsOf l q := by
  obtain ⟨q, h1, h2⟩ := from_loop l (by unfold Small; omega) hl l.length 0 [1#32] (by omega) .nil
  refine ⟨q, ?_, h2⟩
  unfold poly_From.f
  rw [V_length]
  exact h1
end Go.Proofs.Ytcamaleanlblfaa.Q
