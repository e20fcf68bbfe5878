-- Written by px.py, a program of this session (over the kit's print, with extensions of its own).
import Derived.Test.YtblhkbncpopkcaaRows
import Derived.Test.YtblhkbncpopkcaaQx3
import Derived.Test.YtblhkbncpopkcaaPureEstimateGood
import Derived.WalkKit
import Derived.ProofKit
import Derived.OpenShut
import Derived.ShutString
import Derived.ChangeOld
import Derived.Below
import Derived.SizedLaws
import Derived.Test.YtblhkbncpopkcaaArrs
namespace Go.Proofs.Ytblhkbncpopkcaa.estimateGood
open Go.ChangeShapes Go.WideShapes Go.ChangeAt Go.RowKit
open Go.ChangeMaps (open_string shut_string)
set_option linter.unusedVariables false
theorem own : ownKnob Try.prog.godebug = none := by kernel_rfl
set_option maxRecDepth 100000 in
theorem lifted (os : Os) (started : os.Started) (H : Type) (enc : TypeId × Value → H) :
    ReturnsInHanded {} Try.checked os 5 .any (Rows.estimateGoodSpec.pre6 enc Try.prog Try.f5 Rows.estimateGoodRow.domain false) (Rows.estimateGoodSpec.post enc Try.prog Try.f5 false true false false) := by
  refine returnsInHanded_of_change_sized (C := Try.checked) own started (by kernel_rfl) Try.func5
    (ChangeSpec.witness6 (enc := enc) (C := Try.checked) false ⟨#[], #[.agg #[.int .i64 0, .int .i64 0, .int .i64 0, .int .i64 0]], []⟩ 8 (by kernel_rfl) (by kernel_rfl) (by kernel_rfl) (by kernel_rfl)) ?_
  intro W base args ds gs before hval0 hW hcnd hsz0 _
  have hsz : (DataW.weightsEach Try.prog (Try.f5.params.toList ++ Rows.estimateGoodSpec.plain.varTypes Try.prog) (ds ++ gs)).all (· ≤ reachBytes) = true := hsz0
  have hval : ∀ (j : Nat) t v, Try.f5.params[j]? = some t → args[j]? = some v → Value.okWide Try.prog W .any base t v := hval0
  have hW' := hW
  obtain ⟨p, q, hA0, hV, rfl, hfz, hnd⟩ := hW
  have hA : DataW.TrodAll enc Try.prog W 0 (fun _ => true) true Try.f5.params.toList args.toList ds p := hA0
  rw [Try.params5] at hA hval hsz
  obtain ⟨v0, vs0, d0, ds0, p0, q0, hargs, rfl, rfl, h0, r0⟩ := trodAll_cons hA
  obtain ⟨rfl, rfl, rfl⟩ := trodAll_nil r0
  obtain rfl : args = #[v0] := by cases args; simp_all
  obtain ⟨rfl, rfl⟩ := trodVars_none hV
  obtain ⟨z0, zl0, rfl, rfl, rfl, zw0⟩ := Arrs.open_ints Try.underlying33 Try.underlying3 (by kernel_rfl) (by kernel_rfl) (hval 0 33 v0 rfl rfl) h0
  have k0 := fun W' sp_ => Arrs.shut_ints (enc := enc) (w := W') (base := 0) (sp := sp_) (held := true) Try.underlying33 Try.underlying3 (by kernel_rfl) (by kernel_rfl) zl0 zw0
  obtain ⟨a0_0, a0_1, a0_2, a0_3, rfl⟩ := Arrs.list4 zl0
  have w0_0 := zw0 a0_0 (by simp)
  have w0_1 := zw0 a0_1 (by simp)
  have w0_2 := zw0 a0_2 (by simp)
  have w0_3 := zw0 a0_3 (by simp)
  clear hA0 hval0 hsz0 hsz
  refine (Q.gossamerlaw24_EstimateGood.walk Pure.EstimateGood a0_0 a0_1 a0_2 a0_3 W w0_0 w0_1 w0_2 w0_3).mono fun e W' ⟨he, bel⟩ => ?_
  subst he
  exact ⟨_, rfl, _, _, _, [], _, [], hW', trodAll_mk1 (shut_bool Try.underlying4 _), (trodAll_cons_mk (k0 _ _) trodAll_mk0), rfl, bel.frame _, fun h => by cases h⟩
theorem over : Rows.estimateGoodRow.holds Try.pinned (OpenSpec.ofChange Rows.estimateGoodSpec) :=
  OpenClaim.holds_of_wide 5 Try.f5 rfl rfl rfl rfl rfl rfl rfl ⟨rfl, rfl, rfl, rfl, rfl⟩ rfl rfl rfl rfl rfl (by kernel_rfl) Try.func5 (by kernel_rfl)
    (of_decide_eq_true (by kernel_rfl)) (by unfold Func.isWrapper; first | (rw [if_pos (by decide +kernel)]; kernel_rfl) | (rw [if_neg (by decide +kernel)]; exact ⟨rfl, rfl⟩))
    (fun os started H enc _ => lifted os started H enc)
theorem proved : Rows.EstimateGoodSaid := over
#print axioms proved
end Go.Proofs.Ytblhkbncpopkcaa.estimateGood
namespace Go.Proofs.Ytblhkbncpopkcaa
/-- The row, under a short name, for the claim. -/
theorem estimateGood_holds : Rows.EstimateGoodSaid := estimateGood.proved
end Go.Proofs.Ytblhkbncpopkcaa
