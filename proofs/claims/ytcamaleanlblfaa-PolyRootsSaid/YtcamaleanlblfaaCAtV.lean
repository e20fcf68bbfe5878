/- What the printed sums and values of polynomials come to. -/
import Derived.Test.YtcamaleanlblfaaQx2
import Derived.Test.YtcamaleanlblfaaCPoly
import Derived.Test.YtcamaleanlblfaaETabV
import Derived.Test.YtcamaleanlblfaaEAt
import Derived.Test.YtcamaleanlblfaaPolyE
set_option linter.unusedVariables false
set_option linter.unusedSimpArgs false
namespace Go.Proofs.Ytcamaleanlblfaa.Q
open Go.RowKit Go.Proofs.YtcamaleanlblfaaW.PrintWords Go.Proofs.YtcamaleanlblfaaW.PrintLast Go.Proofs.YtcamaleanlblfaaW.PrintMore Go.Proofs.Ytcamaleanlblfaa.Bits Go.Proofs.Ytcamaleanlblfaa GF PolyT
theorem at_fold (l : List F) (x : F) : ∀ k, k ≤ l.length → EAt.fold EMul.mulI (v x) (EAt.upto (EAt.pair (V l)) k) = v (ev (l.drop (l.length - k)) x) := by
  intro k
  induction k with
  | zero => intro _; rw [Nat.sub_zero, List.drop_length]; rfl
  | succ k ih =>
    intro hk
    have h := ih (by omega)
    have e : EAt.fold EMul.mulI (v x) (EAt.upto (EAt.pair (V l)) (k + 1)) = Go.bits .xor .u32 (EMul.mulI (EAt.fold EMul.mulI (v x) (EAt.upto (EAt.pair (V l)) k)) (v x)) (EAt.pair (V l) k).2 := by
      unfold EAt.fold EAt.upto
      rw [List.range_succ, List.map_append, List.foldl_append]; rfl
    rw [e, h, EMul.mulI_v]
    have e2 : (EAt.pair (V l) k).2 = v (co l (l.length - (k + 1))) := by
      show rd (V l) (((V l).length : Int) - 1 - (k : Int)) = _
      have : ((V l).length : Int) - 1 - (k : Int) = ((l.length - (k + 1) : Nat) : Int) := by rw [V_length]; omega
      rw [this, rd_Vn]
    have e3 : l.drop (l.length - (k + 1)) = co l (l.length - (k + 1)) :: l.drop (l.length - k) := by
      rw [List.drop_eq_getElem_cons (by omega), co_lt (by omega)]
      congr 2; omega
    rw [e2, xor_v, e3]; rfl
theorem at_V (l : List F) (x : F) (hs : Small l) : poly_At.f (V l) (v x) = some (v (ev l x)) := by
  unfold poly_At.f
  rw [V_length, if_pos (by omega), at_fold l x l.length (Nat.le_refl _), Nat.sub_self, List.drop_zero]
end Go.Proofs.Ytcamaleanlblfaa.Q
