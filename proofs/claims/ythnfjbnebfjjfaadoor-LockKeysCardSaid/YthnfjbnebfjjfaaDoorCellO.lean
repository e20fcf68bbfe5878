/- An array's cells, opened. -/
import Derived.Test.YthnfjbnebfjjfaaDoorShaO
set_option linter.unusedVariables false
namespace Go.Proofs.YthnfjbnebfjjfaaDoor.Laid
open Go Go.ChangeShapes Go.WideShapes Go.RowKit Go.Proofs.YthnfjbnebfjjfaaDoorW.PrintWords Go.Proofs.YthnfjbnebfjjfaaDoor.Bits Sha ShaW
section
variable {H : Type} {enc : TypeId × Value → H} {P : Program} {w : World} {base : Nat} {sp : Nat → Bool} {held : Bool}
theorem open_cells {k e : TypeId} {n : Nat} {q : IntKind} {fuel : Nat} {cs : List Value} {y : DataW H × List MemPlace} (hu : P.underlying k = some (.array n e)) (he : P.underlying e = some (.int q)) (h1 : P.cellsOf e = 1) (hC : P.cellsOf k = n) (hlen : cs.length = n)
    (hf : DataW.trod enc P w base sp held fuel k cs = some y) : ∃ zs : List Int, cs = zs.map (Value.int q) ∧ ∀ z ∈ zs, (Lit.int q z).wf = true := by
  cases fuel with
  | zero => simp [DataW.trod] at hf
  | succ m =>
    rw [DataW.trod_step] at hf
    unfold DataW.trodStep at hf
    simp only [hu, h1, Nat.mul_one] at hf
    rw [if_pos (by rw [hC]; exact hlen)] at hf
    simp only [Option.map_eq_some_iff] at hf
    obtain ⟨ys, hy, e1⟩ := hf
    rw [← hlen] at hy
    obtain ⟨zs, hL, _, hw⟩ := Arrs.each he _ _ hy
    exact ⟨zs, hL, hw⟩
end
end Go.Proofs.YthnfjbnebfjjfaaDoor.Laid
