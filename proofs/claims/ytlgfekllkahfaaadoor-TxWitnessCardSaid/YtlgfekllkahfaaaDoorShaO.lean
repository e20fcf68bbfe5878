/- A parameter that is a list of texts: opened. -/
import Derived.Test.YtlgfekllkahfaaaDoorLaid
import Derived.Deep.Slices
set_option linter.unusedVariables false
namespace Go.Proofs.YtlgfekllkahfaaaDoor.Laid
open Go Go.ChangeShapes Go.WideShapes Go.RowKit Go.Proofs.YtlgfekllkahfaaaDoorW.PrintWords Go.Proofs.YtlgfekllkahfaaaDoor.Bits Sha ShaW
section
variable {H : Type} {enc : TypeId × Value → H} {w : World} {base : Nat} {sp : Nat → Bool} {held : Bool}
/-- one text -/
theorem open_text {fuel : Nat} {cs : List Value} {y : DataW H × List MemPlace} (hl : cs.length = 1) (hf : DataW.trod enc Tryd.prog w base sp held fuel 40 cs = some y) :
    ∃ (p : List Int) (A : Option Addr) (c : Nat), cs = [.slice A p.length c] ∧ p.length ≤ c ∧ Kd.C (Kd.int .u8) w A p.length p ∧ Bytes p := by
  rcases open_ints Tryd.underlying40 Tryd.underlying5 (by kernel_rfl) hf with ⟨hcs, _⟩ | ⟨x, l, c, zs, hcs, _, hl, hm, hz, _, hcell, hwz⟩
  · exact ⟨[], none, 0, hcs, Nat.le_refl _, Kd.C_nil _ _, fun x hx => by cases hx⟩
  · have hzl : l ≤ zs.length := by rw [hz]; split <;> omega
    have hlz : (zs.take l).length = l := by rw [List.length_take]; omega
    refine ⟨zs.take l, some x, c, by rw [hlz]; exact hcs, by omega, ?_, fun z hz' => wf_u8 (hwz z (List.mem_of_mem_take hz'))⟩
    refine Kd.C_of_reads (d := (0 : Int)) (h1 := fun _ => rfl) ⟨rfl, by rw [hlz]; unfold maxLen at hm; omega, fun _ => ⟨x, rfl, fun j hj => ?_⟩⟩
    rw [hlz] at hj
    rw [hcell j (by omega)]
    simp only [List.getD_eq_getElem?_getD]
    rw [List.getElem?_take_of_lt hj]
theorem open_texts {fuel : Nat} {a : Option Addr} {len cap : Nat} {x : DataW H × List MemPlace} (hf : DataW.trod enc Tryd.prog w base sp held fuel 75 [.slice a len cap] = some x) :
    ∃ L : List (List Int), L.length = len ∧ len ≤ cap ∧ cap ≤ maxLen ∧ kp.C w a L.length L ∧ ∀ p ∈ L, Bytes p := by
  have hc : Tryd.prog.cellsOf 40 = 1 := by kernel_rfl
  rcases Deep.open_slice Tryd.underlying75 hf with ⟨hcs, _⟩ | ⟨ad, l, c, m, n, D, Pl, hcs, _, hl, hm, hmm, _, hx⟩
  · simp only [List.cons.injEq, and_true, Value.slice.injEq] at hcs
    obtain ⟨rfl, rfl, rfl⟩ := hcs
    exact ⟨[], rfl, Nat.le_refl _, Nat.zero_le _, Kd.C_nil _ _, fun p hp => by cases hp⟩
  · simp only [List.cons.injEq, and_true, Value.slice.injEq] at hcs
    obtain ⟨rfl, rfl, rfl⟩ := hcs
    have hlm : len ≤ m := by rw [hmm]; split <;> omega
    obtain ⟨Z, hZ⟩ := Deep.choose_lt (α := List Int) (n := m) (p := fun i p => Bytes p ∧ ∃ (A : Option Addr) (c' : Nat), p.length ≤ c' ∧ Kd.C (Kd.int .u8) w A p.length p ∧ w.cell? (ad.add i) = some (.slice A p.length c')) (fun i hi => by
      obtain ⟨cs', h1, h2⟩ := hx i hi
      rw [hc] at h1
      obtain ⟨_, hlen, hcell⟩ := World.cells?_some h1
      obtain ⟨p, A, c', rfl, k1, k2, k3⟩ := open_text hlen h2
      have e0 := hcell 0 (by omega)
      rw [Deep.add_add] at e0
      exact ⟨p, k3, A, c', k1, k2, by simpa using e0⟩)
    have hlen : ((List.range len).map Z).length = len := by simp
    have hget : ∀ i p, ((List.range len).map Z)[i]? = some p → i < len ∧ p = Z i := fun i p hi => by
      have hil : i < len := by have := (List.getElem?_eq_some_iff.1 hi).1; simpa using this
      refine ⟨hil, ?_⟩
      simp [List.getElem?_map, List.getElem?_range hil] at hi; exact hi.symm
    refine ⟨(List.range len).map Z, hlen, hl, hm, ⟨rfl, by rw [hlen]; unfold maxLen at hm; omega, fun _ => ⟨ad, rfl, fun i p hi => ?_⟩⟩, fun p hp => ?_⟩
    · obtain ⟨hil, rfl⟩ := hget i p hi
      obtain ⟨k3, A, c', k1, k2, k4⟩ := hZ i (by omega)
      refine ⟨[.slice A (Z i).length c'], rfl, ⟨A, c', rfl, k1, k2⟩, fun j u hu => ?_⟩
      have hj : j = 0 ∧ u = .slice A (Z i).length c' := by
        match j, hu with
        | 0, hu => exact ⟨rfl, (Option.some.inj hu).symm⟩
      obtain ⟨rfl, rfl⟩ := hj
      have e : i * kp.sz + 0 = i := by show i * 1 + 0 = i; omega
      rw [e]; exact k4
    · obtain ⟨i, hi, rfl⟩ := List.mem_map.1 hp
      exact (hZ i (by have := List.mem_range.1 hi; omega)).1
end
end Go.Proofs.YtlgfekllkahfaaaDoor.Laid
