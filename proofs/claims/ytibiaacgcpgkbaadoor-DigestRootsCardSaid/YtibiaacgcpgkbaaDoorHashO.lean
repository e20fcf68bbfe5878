/- A parameter that is a slice of digests: opened. -/
import Derived.Test.YtibiaacgcpgkbaaDoorShaO
import Derived.Test.YtibiaacgcpgkbaaDoorHashK
import Derived.Deep.Slices
set_option linter.unusedVariables false
namespace Go.Proofs.YtibiaacgcpgkbaaDoor.Laid
open Go Go.ChangeShapes Go.WideShapes Go.RowKit Go.Proofs.YtibiaacgcpgkbaaDoorW.PrintWords Go.Proofs.YtibiaacgcpgkbaaDoor.Bits Sha ShaW
section
variable {H : Type} {enc : TypeId × Value → H} {P : Program} {w : World} {base : Nat} {sp : Nat → Bool} {held : Bool}
theorem open_cells {k e : TypeId} {n : Nat} {q : IntKind} {fuel : Nat} {cs : List Value} {y : DataW H × List MemPlace} (hu : P.underlying k = some (.array n e)) (he : P.underlying e = some (.int q)) (h1 : P.cellsOf e = 1) (hC : P.cellsOf k = n) (hlen : cs.length = n)
    (hf : DataW.trod enc P w base sp held fuel k cs = some y) : ∃ zs : List Int, cs = zs.map (Value.int q) ∧ ∀ z ∈ zs, (Lit.int q z).wf = true := by
  cases fuel with
  | zero => simp [DataW.trod] at hf
  | succ m =>
    rw [DataW.trod_step] at hf
    unfold DataW.trodStep at hf
    simp only [hu, h1, Nat.mul_one] at hf
    rw [if_pos (by rw [hC]; exact hlen)] at hf
    simp only [Option.map_eq_some_iff] at hf
    obtain ⟨ys, hy, e1⟩ := hf
    rw [← hlen] at hy
    obtain ⟨zs, hL, _, hw⟩ := Arrs.each he _ _ hy
    exact ⟨zs, hL, hw⟩
theorem open_hashes {fuel : Nat} {a : Option Addr} {len cap : Nat} {x : DataW H × List MemPlace} (hf : DataW.trod enc Tryd.prog w base sp held fuel 35 [.slice a len cap] = some x) :
    ∃ L : List (List Int), L.length = len ∧ len ≤ cap ∧ cap ≤ maxLen ∧ kh.C w a L.length L ∧ ∀ h ∈ L, Bytes h := by
  have hc : Tryd.prog.cellsOf 25 = 32 := by kernel_rfl
  rcases Deep.open_slice Tryd.underlying35 hf with ⟨hcs, _⟩ | ⟨ad, l, c, m, n, D, Pl, hcs, _, hl, hm, hmm, _, hx⟩
  · simp only [List.cons.injEq, and_true, Value.slice.injEq] at hcs
    obtain ⟨rfl, rfl, rfl⟩ := hcs
    exact ⟨[], rfl, Nat.le_refl _, Nat.zero_le _, Kd.C_nil _ _, fun h hh => by cases hh⟩
  · simp only [List.cons.injEq, and_true, Value.slice.injEq] at hcs
    obtain ⟨rfl, rfl, rfl⟩ := hcs
    have hlm : len ≤ m := by rw [hmm]; split <;> omega
    obtain ⟨Z, hZ⟩ := Deep.choose_lt (α := List Int) (n := m) (p := fun i zs => zs.length = 32 ∧ (∀ z ∈ zs, (Lit.int .u8 z).wf = true) ∧ ∀ (j : Nat) (u : Value), (nums .u8 zs)[j]? = some u → w.cell? (ad.add (i * 32 + j)) = some u) (fun i hi => by
      obtain ⟨cs', h1, h2⟩ := hx i hi
      rw [hc] at h1
      obtain ⟨_, hlen, hcell⟩ := World.cells?_some h1
      obtain ⟨zs, rfl, hw⟩ := open_cells Tryd.underlying25 Tryd.underlying5 (by kernel_rfl) hc hlen h2
      rw [List.length_map] at hlen
      refine ⟨zs, hlen, hw, fun j u hu => ?_⟩
      have hj : j < zs.length := by have := (List.getElem?_eq_some_iff.1 hu).1; simpa [nums] using this
      have e0 := hcell j (by omega)
      rw [Deep.add_add] at e0
      rw [e0]; exact hu)
    have hlen : ((List.range len).map Z).length = len := by simp
    have hget : ∀ i p, ((List.range len).map Z)[i]? = some p → i < len ∧ p = Z i := fun i p hi => by
      have hil : i < len := by have := (List.getElem?_eq_some_iff.1 hi).1; simpa using this
      refine ⟨hil, ?_⟩
      simp [List.getElem?_map, List.getElem?_range hil] at hi; exact hi.symm
    refine ⟨(List.range len).map Z, hlen, hl, hm, ⟨rfl, by rw [hlen]; unfold maxLen at hm; omega, fun _ => ⟨ad, rfl, fun i p hi => ?_⟩⟩, fun p hp => ?_⟩
    · obtain ⟨hil, rfl⟩ := hget i p hi
      obtain ⟨z1, z2, z3⟩ := hZ i (by omega)
      exact ⟨nums .u8 (Z i), by simp [nums, z1]; rfl, kh_mk z1, fun j u hu => z3 j u hu⟩
    · obtain ⟨i, hi, rfl⟩ := List.mem_map.1 hp
      exact fun z hz => wf_u8 ((hZ i (by have := List.mem_range.1 hi; omega)).2.1 z hz)
end
end Go.Proofs.YtibiaacgcpgkbaaDoor.Laid
