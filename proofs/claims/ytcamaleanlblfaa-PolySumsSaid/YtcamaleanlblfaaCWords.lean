/- Lists of words that are the same. -/
import Derived.Test.YtcamaleanlblfaaQx2
import Derived.Test.YtcamaleanlblfaaCPoly
set_option linter.unusedVariables false
set_option linter.unusedSimpArgs false
namespace Go.Proofs.Ytcamaleanlblfaa.Q
open Go.RowKit Go.Proofs.YtcamaleanlblfaaW.PrintWords Go.Proofs.YtcamaleanlblfaaW.PrintLast Go.Proofs.YtcamaleanlblfaaW.PrintMore Go.Proofs.Ytcamaleanlblfaa.Bits Go.Proofs.Ytcamaleanlblfaa GF PolyT
/-! ### words -/
theorem words_loop (l : List Int) (hs : l.length < 4096) : ∀ (n i : Nat), i + n = l.length → Ev (fun k => gossamernum_Words.l0 k l l (l.length : Int) (i : Int)) true := by
  intro n
  induction n with
  | zero =>
    intro i hi
    refine Ev.succ ?_
    simp only [gossamernum_Words.l0]
    exact Ev.neg (by omega) Ev.some'
  | succ n ih =>
    intro i hi
    refine Ev.succ ?_
    have hw2 : wrap64 ((i : Int) + 1) = ((i + 1 : Nat) : Int) := wrap_nat1 (by omega)
    simp only [gossamernum_Words.l0]
    rw [hw2]
    exact Ev.pos (by omega) (Ev.pos (by omega) (Ev.pos (by omega) (Ev.pos (by omega) (Ev.pos trivial (ih (i + 1) (by omega))))))
theorem words_self (l : List Int) (hs : l.length < 4096) : Ev (fun k => gossamernum_Words.f k l l) true := by
  unfold gossamernum_Words.f
  exact Ev.pos rfl (words_loop l hs l.length 0 (by omega))
theorem words_V {a b : List F} (h : a = b) (hs : Small a) : Ev (fun k => gossamernum_Words.f k (V a) (V b)) true := by
  subst h; exact words_self _ (by rw [V_length]; exact hs)
end Go.Proofs.Ytcamaleanlblfaa.Q
