/- (*state).mended: what the call comes to. -/
import Derived.Test.YtfjkiiajbeaaoaaQx1
import Derived.Test.YtfjkiiajbeaaoaaMM3
import Derived.Test.YtfjkiiajbeaaoaaMV
import Derived.Test.YtfjkiiajbeaaoaaEMul
import Derived.Test.YtfjkiiajbeaaoaaMassey
set_option linter.unusedVariables false
set_option linter.unusedSimpArgs false
namespace Go.Proofs.Ytfjkiiajbeaaoaa.MW
open Go.RowKit Go.Proofs.Ytfjkiiajbeaaoaa.Q Go.Proofs.YtfjkiiajbeaaoaaW.PrintWords Go.Proofs.YtfjkiiajbeaaoaaW.PrintLast Go.Proofs.YtfjkiiajbeaaoaaW.PrintMore Go.Proofs.Ytfjkiiajbeaaoaa.Bits Go.Proofs.Ytfjkiiajbeaaoaa GF PolyT MV Massey
/-- the state behind a pointer: its five places -/
structure At (W : World) (B : Nat) (A0 : Option Addr) (n0 c0 : Nat) (A1 : Option Addr) (n1 c1 : Nat) (len gap : Nat) (was : F) : Prop where
  m0 : W.cell? ⟨B, 0, none⟩ = some (.slice A0 n0 c0)
  m1 : W.cell? ⟨B, 1, none⟩ = some (.slice A1 n1 c1)
  m2 : W.cell? ⟨B, 2, none⟩ = some (.int .i64 len)
  m3 : W.cell? ⟨B, 3, none⟩ = some (.int .i64 gap)
  m4 : W.cell? ⟨B, 4, none⟩ = some (.int .u32 (v was))
theorem At.below {W W1 : World} {B : Nat} {A0 A1 : Option Addr} {n0 c0 n1 c1 len gap : Nat} {was : F} (h : At W B A0 n0 c0 A1 n1 c1 len gap was) (hb : Below W.heap.size W W1) : At W1 B A0 n0 c0 A1 n1 c1 len gap was := by
  have hB := World.block_lt_of_cell? W _ h.m0
  exact ⟨(hb.cell hB).trans h.m0, (hb.cell (p := ⟨B, 1, none⟩) hB).trans h.m1, (hb.cell (p := ⟨B, 2, none⟩) hB).trans h.m2, (hb.cell (p := ⟨B, 3, none⟩) hB).trans h.m3, (hb.cell (p := ⟨B, 4, none⟩) hB).trans h.m4⟩
/-- what has been mended after so many elements of the old one -/
def mendTo (now old : List F) (gap : Nat) (b : F) (k : Nat) : List F := (List.range (max now.length (gap + old.length))).map fun i => co now i ^^^ mul b (shn gap (co (old.take k)) i)
theorem mendTo_length (now old : List F) (gap : Nat) (b : F) (k : Nat) : (mendTo now old gap b k).length = max now.length (gap + old.length) := by simp [mendTo]
theorem mendTo_all (now old : List F) (gap : Nat) (b : F) : mendTo now old gap b old.length = mend now old gap b := by unfold mendTo mend; rw [List.take_length]
theorem co_take (l : List F) (k i : Nat) : co (l.take k) i = if i < k then co l i else 0#32 := by
  unfold co
  rw [List.getD_eq_getElem?_getD, List.getD_eq_getElem?_getD, List.getElem?_take]
  split <;> rfl
theorem mendTo_zero (now old : List F) (gap : Nat) (b : F) : mendTo now old gap b 0 = now ++ List.replicate (max now.length (gap + old.length) - now.length) 0#32 := by
  have hz : ∀ i, shn gap (co (old.take 0)) i = 0#32 := fun i => by
    unfold shn; split
    · rw [co_take]; simp
    · rfl
  apply List.ext_getElem?
  intro i
  unfold mendTo
  rw [List.getElem?_map]
  by_cases h : i < max now.length (gap + old.length)
  · rw [List.getElem?_range h]
    simp only [Option.map_some, hz, GF.mul_zero, BitVec.xor_zero]
    by_cases h2 : i < now.length
    · rw [List.getElem?_append_left h2]
      unfold co; rw [List.getD_eq_getElem?_getD, List.getElem?_eq_getElem h2]; rfl
    · rw [List.getElem?_append_right (by omega), co_ge (by omega), List.getElem?_replicate, if_pos (by omega)]
  · rw [List.getElem?_eq_none (by simpa using h), List.getElem?_eq_none (by rw [List.length_append, List.length_replicate]; omega)]; rfl
theorem co_map_range (f : Nat → F) (n i : Nat) (h : i < n) : co ((List.range n).map f) i = f i := by
  unfold co; rw [List.getD_eq_getElem?_getD, List.getElem?_map, List.getElem?_range h]; rfl
theorem mendTo_at (now old : List F) (gap : Nat) (b : F) (k i : Nat) (h : i < max now.length (gap + old.length)) : co (mendTo now old gap b k) i = co now i ^^^ mul b (shn gap (co (old.take k)) i) := co_map_range _ _ _ h
theorem mendTo_succ (now old : List F) (gap : Nat) (b : F) (k : Nat) (hk : k < old.length) : (mendTo now old gap b k).set (gap + k) (co (mendTo now old gap b k) (gap + k) ^^^ mul (co old k) b) = mendTo now old gap b (k + 1) := by
  have e1 : co (mendTo now old gap b k) (gap + k) = co now (gap + k) := by
    rw [mendTo_at _ _ _ _ _ _ (by omega)]
    unfold shn; rw [if_pos (by omega), co_take, if_neg (by omega), GF.mul_zero, BitVec.xor_zero]
  rw [e1]
  apply List.ext_getElem?
  intro i
  rw [List.getElem?_set]
  by_cases h : gap + k = i
  · subst h
    rw [if_pos rfl, if_pos (by rw [mendTo_length]; omega)]
    unfold mendTo
    rw [List.getElem?_map, List.getElem?_range (by omega)]
    simp only [Option.map_some]
    congr 1
    unfold shn; rw [if_pos (by omega), co_take, if_pos (by omega), show gap + k - gap = k by omega, GF.mul_comm]
  · rw [if_neg h]
    unfold mendTo
    rw [List.getElem?_map, List.getElem?_map]
    by_cases h2 : i < max now.length (gap + old.length)
    · rw [List.getElem?_range h2]
      simp only [Option.map_some]
      congr 2
      unfold shn
      by_cases h3 : gap ≤ i
      · rw [if_pos h3, if_pos h3, co_take, co_take]
        by_cases h4 : i - gap < k
        · rw [if_pos h4, if_pos (by omega)]
        · rw [if_neg h4, if_neg (by omega)]
      · rw [if_neg h3, if_neg h3]
    · rw [List.getElem?_eq_none (by simpa using h2)]; rfl
end Go.Proofs.Ytfjkiiajbeaaoaa.MW
