/- A local array of words: its block's cells as a list. -/
import Derived.Test.YtocmhmfljbohjaaProg
import Derived.Test.YtocmhmfljbohjaaWMore
import Derived.Test.YtocmhmfljbohjaaBits
import Derived.RangeFuncBox
set_option linter.unusedVariables false
set_option linter.unusedSimpArgs false
namespace Go.Proofs.Ytocmhmfljbohjaa.Arr
open Go.RowKit Go.Proofs.YtocmhmfljbohjaaW.PrintWords Go.Proofs.Ytocmhmfljbohjaa.Bits
/-- the block B holds these words -/
def A64 (W : World) (B T : Nat) (rs : List (BitVec 64)) : Prop := W.heap[B]? = some (.cells (rs.map fun r => Value.int .u64 (q r)).toArray T (0, 0))
variable {W W1 : World} {B T : Nat} {rs : List (BitVec 64)}
theorem A64.at (h : A64 W B T rs) (i : Nat) (hi : i < rs.length) : W.cell? ⟨B, i, none⟩ = some (.int .u64 (q (rs.getD i 0#64))) := by
  rw [blk_cell h]
  simp [hi]
theorem A64.fz (h : A64 W B T rs) (i : Nat) : W.frozen? ⟨B, i, none⟩ = false := blk_frozen h _
theorem A64.put (h : A64 W B T rs) (i : Nat) (x : BitVec 64) : A64 (W.setCell ⟨B, i, none⟩ (.int .u64 (q x))) B T (rs.set i x) := by
  have := blk_set h i (.int .u64 (q x))
  unfold A64
  rw [this]
  congr 2
  apply Array.ext
  · simp
  · intro j h1 h2
    simp [List.getElem_set]
    first
    | done
    | (rw [Array.getElem_setIfInBounds (by simpa using h1)]
       by_cases e : i = j
       · subst e; simp
       · simp [e])
theorem A64.new (w : World) (T : Nat) (rs : List (BitVec 64)) : A64 (w.alloc (.cells (rs.map fun r => Value.int .u64 (q r)).toArray T)) w.heap.size T rs := by unfold A64 World.alloc; simp
theorem A64.drewN (h : A64 W B T rs) (n : Nat) : A64 (W.drewN n) B T rs := h
theorem A64.below (h : A64 W B T rs) (hb : Below W.heap.size W W1) : A64 W1 B T rs := by
  have hlt : B < W.heap.size := (Array.getElem?_eq_some_iff.1 h).1
  unfold A64; rw [hb.block B hlt]; exact h
theorem A64.lt (h : A64 W B T rs) : B < W.heap.size := (Array.getElem?_eq_some_iff.1 h).1
/-- a bit of a word, as Go asks for it -/
theorem bit_true {r : BitVec 64} {b : Nat} (h : r.getLsbD b = true) : Int.tmod (q r / 2 ^ b) 2 = 1 := by
  have h1 : q r / 2 ^ b = q (r >>> b) := by
    unfold q; rw [BitVec.toNat_ushiftRight, Nat.shiftRight_eq_div_pow, pow_cast]; exact ediv_cast _ _
  rw [h1, Int.tmod_eq_emod_of_nonneg (Bits.q_lt _).1, bit_q, h]; rfl
theorem bit_false {r : BitVec 64} {b : Nat} (h : r.getLsbD b = false) : Int.tmod (q r / 2 ^ b) 2 = 0 := by
  have h1 : q r / 2 ^ b = q (r >>> b) := by
    unfold q; rw [BitVec.toNat_ushiftRight, Nat.shiftRight_eq_div_pow, pow_cast]; exact ediv_cast _ _
  rw [h1, Int.tmod_eq_emod_of_nonneg (Bits.q_lt _).1, bit_q, h]; rfl
end Go.Proofs.Ytocmhmfljbohjaa.Arr
