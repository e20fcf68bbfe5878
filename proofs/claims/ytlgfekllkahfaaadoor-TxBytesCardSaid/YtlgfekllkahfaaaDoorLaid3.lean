/- What the three listed tables hold when a call begins. -/
import Derived.Test.YtlgfekllkahfaaaDoorLaid
import Derived.Test.YtlgfekllkahfaaaDoorShaR
set_option linter.unusedVariables false
set_option linter.unusedSimpArgs false
namespace Go.Proofs.YtlgfekllkahfaaaDoor.Laid
open Go Go.ChangeShapes Go.WideShapes Go.RowKit Go.Proofs.YtlgfekllkahfaaaDoorW.PrintWords Go.Proofs.YtlgfekllkahfaaaDoor.Bits Sha ShaW
theorem gK : Tryd.prog.globalNamed "gossamer/gossamerref07.k" = some 1 := by kernel_rfl
theorem tK : (Tryd.prog.globals[1]?).map (·.type) = some 109 := by kernel_rfl
theorem datK : Rows.laid_gossamer_gossamerref07_k = (DataW.agg ((ks.map v).map fun z => .lit (.int .u32 z)) : DataW Unit) := by kernel_rfl
abbrev laid3 : List (String × DataW Unit) := [("gossamer/gossamerref07.k", Rows.laid_gossamer_gossamerref07_k), ("gossamer/digest.constants", Rows.laid_gossamer_digest_constants), ("gossamer/digest.beginning", Rows.laid_gossamer_digest_beginning)]
/-- what the three tables' data give -/
theorem of_laid3 {W : World} (h : laidMetH Tryd.prog laid3 W) : Kst W ∧ Bst W ∧ Rst W := by
  rw [MakeChecks.laidMetH_plain _ _ _ (by kernel_rfl)] at h
  obtain ⟨ps, ⟨g2, t2, cs2, f2, p2, q2, hg2, ht2, hv2, hd2, ⟨g0, t0, cs0, f0, p0, q0, hg0, ht0, hv0, hd0, ⟨g1, t1, cs1, f1, p1, q1, hg1, ht1, hv1, hd1, _, _⟩, _⟩, _⟩, _, _⟩ := h
  obtain rfl := Option.some.inj (gK.symm.trans hg2)
  obtain rfl := Option.some.inj (gC.symm.trans hg0)
  obtain rfl := Option.some.inj (gB.symm.trans hg1)
  obtain rfl := Option.some.inj (tK.symm.trans ht2)
  obtain rfl := Option.some.inj (tC.symm.trans ht0)
  obtain rfl := Option.some.inj (tB.symm.trans ht1)
  rw [datK] at hd2
  rw [datC] at hd0
  rw [datB] at hd1
  exact ⟨fun i hi => one Tryd.underlying109 cC (by decide) gC hv0 hd0 i hi, fun i hi => one Tryd.underlying100 cB (by decide) gB hv1 hd1 i hi, fun i hi => one Tryd.underlying109 cC (by decide) gK hv2 hd2 i hi⟩
theorem door_met3 (os : Os) (args : Array Value) : laidMetH Tryd.prog laid3 ((World.doorLaid Tryd.prog 24 os).forCall (fun _ _ => 0) ⟨#[], args, []⟩).memory :=
  laidMetH_of_parts3 (fuel := 8) (laidMet_of_run' 8 (by kernel_rfl) (by kernel_rfl)) (by kernel_rfl) (by kernel_rfl)
end Go.Proofs.YtlgfekllkahfaaaDoor.Laid
