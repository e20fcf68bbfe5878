/- What the listed tables hold when a call begins. -/
import Derived.Test.YtlgfekllkahfaaaDoorRows
import Derived.Test.YtlgfekllkahfaaaDoorArrs
import Derived.Test.YtlgfekllkahfaaaDoorShaG
import Derived.LaidMore
import Derived.ProofKit
import Derived.OpenShut
import Derived.Stop.Joined
set_option linter.unusedVariables false
set_option linter.unusedSimpArgs false
namespace Go.Proofs.YtlgfekllkahfaaaDoor.Laid
open Go Go.ChangeShapes Go.WideShapes Go.RowKit Go.Proofs.YtlgfekllkahfaaaDoorW.PrintWords Go.Proofs.YtlgfekllkahfaaaDoor.Bits Sha ShaW
section
variable {H : Type} {enc : TypeId × Value → H} {P : Program} {k e : TypeId} {n : Nat} {q : IntKind} {w : World} {base : Nat} {sp : Nat → Bool} {held : Bool}
theorem trod_arr (hu : P.underlying k = some (.array n e)) (he : P.underlying e = some (.int q)) (h1 : P.cellsOf e = 1) (hC : P.cellsOf k = n) {m : Nat} {L : List Value} {d : DataW H} {ps : List MemPlace} (hn : 0 < n)
    (hf : DataW.trod enc P w base sp held m k L = some (d, ps)) : ∃ zs : List Int, zs.length = n ∧ L = zs.map (Value.int q) ∧ d = .agg (zs.map fun z => .lit (.int q z)) := by
  cases m with
  | zero => simp [DataW.trod] at hf
  | succ m =>
    rw [DataW.trod_step] at hf
    unfold DataW.trodStep at hf
    simp only [hu, h1, Nat.mul_one] at hf
    split at hf
    · rename_i hc
      have hl : L.length = n := by rw [← hC]; simpa using hc
      simp only [Option.map_eq_some_iff] at hf
      obtain ⟨ys, hy, e1⟩ := hf
      rw [← hl] at hy
      obtain ⟨zs, hL, rfl, hw⟩ := Arrs.each he _ _ hy
      refine ⟨zs, by rw [← hl, hL]; simp, hL, ?_⟩
      obtain ⟨rfl, _⟩ := Prod.mk.inj e1
      simp [List.map_map, Function.comp_def]
    · cases hf
end
theorem lit_inj {H : Type} {a b : List Int} (h : (DataW.agg (a.map fun z => .lit (.int .u32 z)) : DataW H) = .agg (b.map fun z => .lit (.int .u32 z))) : a = b := by
  have h1 : (a.map fun z => (DataW.lit (.int .u32 z) : DataW H)) = b.map fun z => .lit (.int .u32 z) := by injection h
  have : Function.Injective (fun z : Int => (DataW.lit (.int .u32 z) : DataW H)) := fun x y e => by simpa using e
  exact List.map_inj_right this |>.1 h1
theorem gB : Tryd.prog.globalNamed "gossamer/digest.beginning" = some 0 := by kernel_rfl
theorem gC : Tryd.prog.globalNamed "gossamer/digest.constants" = some 2 := by kernel_rfl
theorem tB : (Tryd.prog.globals[0]?).map (·.type) = some 100 := by kernel_rfl
theorem tC : (Tryd.prog.globals[2]?).map (·.type) = some 109 := by kernel_rfl
theorem c1 : Tryd.prog.cellsOf 99 = 1 := by kernel_rfl
theorem datC : Rows.laid_gossamer_digest_constants = (DataW.agg ((ks.map v).map fun z => .lit (.int .u32 z)) : DataW Unit) := by kernel_rfl
theorem datB : Rows.laid_gossamer_digest_beginning = (DataW.agg ((beg.l.map v).map fun z => .lit (.int .u32 z)) : DataW Unit) := by kernel_rfl
/-- one listed table -/
theorem one {W : World} {nm : String} {g t n : Nat} {l : List F} {cs : Array Value} {m : Nat} {ps : List MemPlace} {enc : TypeId × Value → Unit} {base : Nat} {sp : Nat → Bool} {held : Bool} (hu : Tryd.prog.underlying t = some (.array n 99)) (hcells : Tryd.prog.cellsOf t = n) (hn : 0 < n)
    (hg : Tryd.prog.globalNamed nm = some g) (hv : World.var? Tryd.prog W nm = some cs) (hd : DataW.trod enc Tryd.prog W base sp held m t cs.toList = some (DataW.agg ((l.map v).map fun z => .lit (.int .u32 z)), ps)) :
    ∀ i : Nat, i < l.length → W.cell? ⟨g, i, none⟩ = some (.int .u32 (v (at_ l i))) := by
  obtain ⟨zs, hz, hL, hd2⟩ := trod_arr hu Tryd.underlying99 c1 hcells hn hd
  have := lit_inj hd2
  subst this
  intro i hi
  have h1 := World.var?_cell hg hv i
  rw [h1, ← Array.getElem?_toList, hL]
  simp [at_, List.getD_eq_getElem?_getD, hi]
theorem cB : Tryd.prog.cellsOf 100 = 8 := by kernel_rfl
theorem cC : Tryd.prog.cellsOf 109 = 64 := by kernel_rfl
abbrev laid2 : List (String × DataW Unit) := [("gossamer/digest.constants", Rows.laid_gossamer_digest_constants), ("gossamer/digest.beginning", Rows.laid_gossamer_digest_beginning)]
/-- what the two tables' data give -/
theorem of_laid2 {W : World} (h : laidMetH Tryd.prog laid2 W) : Kst W ∧ Bst W := by
  rw [MakeChecks.laidMetH_plain _ _ _ (by kernel_rfl)] at h
  obtain ⟨ps, ⟨g0, t0, cs0, f0, p0, q0, hg0, ht0, hv0, hd0, ⟨g1, t1, cs1, f1, p1, q1, hg1, ht1, hv1, hd1, _, _⟩, _⟩, _, _⟩ := h
  obtain rfl := Option.some.inj (gC.symm.trans hg0)
  obtain rfl := Option.some.inj (gB.symm.trans hg1)
  obtain rfl := Option.some.inj (tC.symm.trans ht0)
  obtain rfl := Option.some.inj (tB.symm.trans ht1)
  rw [datC] at hd0
  rw [datB] at hd1
  exact ⟨fun i hi => one Tryd.underlying109 cC (by decide) gC hv0 hd0 i hi, fun i hi => one Tryd.underlying100 cB (by decide) gB hv1 hd1 i hi⟩
theorem door_met2 (os : Os) (args : Array Value) : laidMetH Tryd.prog laid2 ((World.doorLaid Tryd.prog 24 os).forCall (fun _ _ => 0) ⟨#[], args, []⟩).memory :=
  laidMetH_of_parts3 (fuel := 8) (laidMet_of_run' 8 (by kernel_rfl) (by kernel_rfl)) (by kernel_rfl) (by kernel_rfl)
end Go.Proofs.YtlgfekllkahfaaaDoor.Laid
