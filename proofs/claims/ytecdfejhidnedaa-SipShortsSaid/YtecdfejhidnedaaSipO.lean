/- A parameter that is a slice of digests: opened. -/
import Derived.Test.YtecdfejhidnedaaArrs
import Derived.Test.YtecdfejhidnedaaSipD
import Derived.Deep.Slices
set_option linter.unusedVariables false
namespace Go.Proofs.Ytecdfejhidnedaa.Sip
open Go Go.ChangeShapes Go.WideShapes Go.Proofs.YtecdfejhidnedaaW.PrintWords Go.Proofs.Ytecdfejhidnedaa Go.Proofs.Ytecdfejhidnedaa.Bits
section
variable {H : Type} {enc : TypeId × Value → H} {P : Program} {w : World} {base : Nat} {sp : Nat → Bool} {held : Bool}
theorem open_cells {k e : TypeId} {n : Nat} {q : IntKind} {fuel : Nat} {cs : List Value} {y : DataW H × List MemPlace} (hu : P.underlying k = some (.array n e)) (he : P.underlying e = some (.int q)) (h1 : P.cellsOf e = 1) (hC : P.cellsOf k = n) (hlen : cs.length = n)
    (hf : DataW.trod enc P w base sp held fuel k cs = some y) : ∃ zs : List Int, cs = zs.map (Value.int q) ∧ ∀ z ∈ zs, (Lit.int q z).wf = true := by
  cases fuel with
  | zero => simp [DataW.trod] at hf
  | succ m =>
    rw [DataW.trod_step] at hf
    unfold DataW.trodStep at hf
    simp only [hu, h1, Nat.mul_one] at hf
    rw [if_pos (by rw [hC]; exact hlen)] at hf
    simp only [Option.map_eq_some_iff] at hf
    obtain ⟨ys, hy, e1⟩ := hf
    rw [← hlen] at hy
    obtain ⟨zs, hL, _, hw⟩ := Arrs.each he _ _ hy
    exact ⟨zs, hL, hw⟩
theorem open_digests {fuel : Nat} {a : Option Addr} {len cap : Nat} {x : DataW H × List MemPlace} (hf : DataW.trod enc Try.prog w base sp held fuel 42 [.slice a len cap] = some x) :
    ∃ L : List (List Int), L.length = len ∧ len ≤ cap ∧ cap ≤ maxLen ∧ Dg w a L := by
  have hc : Try.prog.cellsOf 36 = 32 := by kernel_rfl
  rcases Deep.open_slice Try.underlying42 hf with ⟨hcs, _⟩ | ⟨ad, l, c, m, n, D, Pl, hcs, _, hl, hm, hmm, _, hx⟩
  · simp only [List.cons.injEq, and_true, Value.slice.injEq] at hcs
    obtain ⟨rfl, rfl, rfl⟩ := hcs
    exact ⟨[], rfl, Nat.le_refl _, Nat.zero_le _, fun i h hi => by simp at hi⟩
  · simp only [List.cons.injEq, and_true, Value.slice.injEq] at hcs
    obtain ⟨rfl, rfl, rfl⟩ := hcs
    have hlm : len ≤ m := by rw [hmm]; split <;> omega
    obtain ⟨Z, hZ⟩ := Deep.choose_lt (α := List Int) (n := m) (p := fun i zs => zs.length = 32 ∧ (∀ z ∈ zs, (Lit.int .u8 z).wf = true) ∧ ∀ j : Nat, j < 32 → w.cell? (ad.add (i * 32 + j)) = some (.int .u8 (zs.getD j 0))) (fun i hi => by
      obtain ⟨cs', h1, h2⟩ := hx i hi
      rw [hc] at h1
      obtain ⟨_, hlen, hcell⟩ := World.cells?_some h1
      obtain ⟨zs, rfl, hw⟩ := open_cells Try.underlying36 Try.underlying5 (by kernel_rfl) hc hlen h2
      rw [List.length_map] at hlen
      refine ⟨zs, hlen, hw, fun j hj => ?_⟩
      have e0 := hcell j (by omega)
      rw [Deep.add_add] at e0
      rw [e0]
      simp [List.getElem?_eq_getElem (show j < zs.length by omega)])
    refine ⟨(List.range len).map Z, by simp, hl, hm, fun i h hi => ?_⟩
    have hil : i < len := by have := (List.getElem?_eq_some_iff.1 hi).1; simpa using this
    have hh : h = Z i := by simp [List.getElem?_map, List.getElem?_range hil] at hi; exact hi.symm
    obtain ⟨z1, z2, z3⟩ := hZ i (by omega)
    subst hh
    exact ⟨z1, fun z hz => wf_u8 (z2 z hz), ad, rfl, z3⟩
end
end Go.Proofs.Ytecdfejhidnedaa.Sip
