/- Small words of this session's hand-made walks: literals of slices, what is new and what is elder. -/
import Derived.Test.YtcamaleanlblfaaProg
import Derived.Test.YtcamaleanlblfaaWMore
import Derived.Test.YtcamaleanlblfaaWShare
set_option linter.unusedVariables false
set_option linter.unusedSimpArgs false
namespace Go.Proofs.Ytcamaleanlblfaa.Hand
open Go.RowKit Go.Proofs.YtcamaleanlblfaaW.PrintWords
/-- a literal of slices, in the block that it was laid in -/
theorem C_lits {α : Type} (d : Kd α) (e t : Nat) (W : World) (L : List (Option Addr × Nat × List α)) (hm : L.length ≤ 9223372036854775807) (h : ∀ x ∈ L, x.2.2.length ≤ x.2.1 ∧ Kd.C d W x.1 x.2.2.length x.2.2) :
    Kd.C (Kd.slice e d) (W.alloc (.cells (L.map fun x => Value.slice x.1 x.2.2.length x.2.1).toArray t)) (some ⟨W.heap.size, 0, none⟩) (L.map fun x => x.2.2).length (L.map fun x => x.2.2) := by
  refine ⟨rfl, by simpa using hm, fun _ => ⟨_, rfl, fun j p hj => ?_⟩⟩
  rw [List.getElem?_map] at hj
  obtain ⟨x, hx, rfl⟩ := Option.map_eq_some_iff.1 hj
  have hmem := List.mem_of_getElem? hx
  obtain ⟨h1, h2⟩ := h x hmem
  refine ⟨[.slice x.1 x.2.2.length x.2.1], rfl, ⟨x.1, x.2.1, rfl, h1, Kd.C_below h2 (below_alloc (Below.refl _ _) _)⟩, fun i u hu => ?_⟩
  cases i with
  | zero =>
    simp at hu
    subst hu
    have e1 : (⟨W.heap.size, 0, none⟩ : Addr).add (j * 1 + 0) = ⟨W.heap.size, j, none⟩ := by rw [add_plain, Nat.mul_one, Nat.add_zero]
    show (W.alloc _).cell? ((⟨W.heap.size, 0, none⟩ : Addr).add (j * 1 + 0)) = _
    rw [e1, World.cell?_alloc_new]
    simp [hx]
  | succ i => simp at hu
theorem C_lit1 {α : Type} (d : Kd α) (e t : Nat) (W : World) {A : Option Addr} {c : Nat} {l : List α} (h : Kd.C d W A l.length l) (hc : l.length ≤ c) :
    Kd.C (Kd.slice e d) (W.alloc (.cells #[.slice A l.length c] t)) (some ⟨W.heap.size, 0, none⟩) 1 [l] :=
  C_lits d e t W [(A, c, l)] (by simp) (by intro x hx; simp at hx; subst hx; exact ⟨hc, h⟩)
theorem C_lit2 {α : Type} (d : Kd α) (e t : Nat) (W : World) {A B : Option Addr} {c k : Nat} {l m : List α} (h : Kd.C d W A l.length l) (hc : l.length ≤ c) (h2 : Kd.C d W B m.length m) (hc2 : m.length ≤ k) :
    Kd.C (Kd.slice e d) (W.alloc (.cells #[.slice A l.length c, .slice B m.length k] t)) (some ⟨W.heap.size, 0, none⟩) 2 [l, m] :=
  C_lits d e t W [(A, c, l), (B, k, m)] (by simp) (by
    intro x hx
    simp at hx
    rcases hx with rfl | rfl
    · exact ⟨hc, h⟩
    · exact ⟨hc2, h2⟩)
/-- behind a step that keeps what lies below some block -/
theorem below_to {B : Nat} {w w1 w2 : World} (h : Below B w w1) (hB : B ≤ w1.heap.size) (k : Below w1.heap.size w1 w2) : Below B w w2 := below_then h hB k
theorem size_to {B : Nat} {w w1 : World} (h : B ≤ w.heap.size) (k : Below w.heap.size w w1) : B ≤ w1.heap.size := Nat.le_trans h k.size
end Go.Proofs.Ytcamaleanlblfaa.Hand
