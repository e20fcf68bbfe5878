/- Tables of multiples, at words that are spelled as bit vectors: a table multiplies. -/
import Derived.Test.YtljkbkhaamlbmaaETab
import Derived.Test.YtljkbkhaamlbmaaEMul
set_option linter.unusedVariables false
set_option linter.unusedSimpArgs false
namespace Go.Proofs.Ytljkbkhaamlbmaa.ETab
open Go.RowKit Go.Proofs.YtljkbkhaamlbmaaW.PrintWords Go.Proofs.YtljkbkhaamlbmaaW.PrintMore Go.Proofs.Ytljkbkhaamlbmaa.Bits Go.Proofs.Ytljkbkhaamlbmaa EMul
def part (b : BitVec 32) (i : Nat) : BitVec 32 := ((b >>> (8 * i)) &&& 255#32) <<< (8 * i)
theorem idx_v (b : BitVec 32) (i : Nat) : idx (v b) i = v ((b >>> (8 * i)) &&& 255#32) := by
  unfold idx
  have e1 : (255 : Int) = v 255#32 := by decide
  have e2 : v b / 2 ^ (8 * i) = v (b >>> (8 * i)) := by
    unfold v
    rw [pow_cast, ediv_cast, BitVec.toNat_ushiftRight, Nat.shiftRight_eq_div_pow]
  rw [e2, show Go.bits .and .u32 (v (b >>> (8 * i))) 255 = Go.bits .and .u32 (v (b >>> (8 * i))) (v 255#32) by rw [← e1], and_v]
theorem ent_v (a b : BitVec 32) (i : Nat) (hi : i < 4) : ent mulI (v a) (i * 256 + (idx (v b) i).toNat) = v (GF.mul a (part b i)) := by
  have hb := idx_bd (v b) i
  rw [idx_v] at *
  unfold ent
  have e1 : (i * 256 + (v ((b >>> (8 * i)) &&& 255#32)).toNat) % 256 = (v ((b >>> (8 * i)) &&& 255#32)).toNat := by omega
  have e2 : (i * 256 + (v ((b >>> (8 * i)) &&& 255#32)).toNat) / 256 = i := by omega
  rw [e1, e2, ← mulI_v]
  congr 1
  unfold part v
  rw [BitVec.toNat_shiftLeft, Nat.shiftLeft_eq]
  obtain ⟨x, hx⟩ : ∃ x, x = ((b >>> (8 * i)) &&& 255#32).toNat := ⟨_, rfl⟩
  have hx2 : x < 256 := by have := hb.2; unfold v at this; omega
  rw [← hx]
  have : x * 2 ^ (8 * i) < 4294967296 := by
    have h1 : i = 0 ∨ i = 1 ∨ i = 2 ∨ i = 3 := by omega
    rcases h1 with e | e | e | e <;> subst e <;> simp <;> omega
  rw [Nat.mod_eq_of_lt (by exact this)]
  simp
theorem part_xor (a b : BitVec 32) (i : Nat) : part (a ^^^ b) i = part a i ^^^ part b i := by
  unfold part
  rw [BitVec.ushiftRight_xor_distrib, GF.xor_and, BitVec.shiftLeft_xor_distrib]
theorem xor8 (a b c d e f g h : BitVec 32) : 0#32 ^^^ (a ^^^ b) ^^^ (c ^^^ d) ^^^ (e ^^^ f) ^^^ (g ^^^ h) = (0#32 ^^^ a ^^^ c ^^^ e ^^^ g) ^^^ (0#32 ^^^ b ^^^ d ^^^ f ^^^ h) := by
  rw [BitVec.zero_xor, BitVec.zero_xor, BitVec.zero_xor]; ac_rfl
theorem parts (b : BitVec 32) : 0#32 ^^^ part b 0 ^^^ part b 1 ^^^ part b 2 ^^^ part b 3 = b :=
  GF.lin_ext (fun b => 0#32 ^^^ part b 0 ^^^ part b 1 ^^^ part b 2 ^^^ part b 3) (fun b => b)
    (fun x y => by rw [part_xor, part_xor, part_xor, part_xor]; exact xor8 _ _ _ _ _ _ _ _) (fun _ _ => rfl) (by decide +kernel) b
theorem tm_v (a b : BitVec 32) : tm mulI (v a) (v b) 4 = v (GF.mul a b) := by
  have h0 : (0 : Int) = v (GF.mul a 0#32) := by rw [GF.mul_zero]; decide
  simp only [tm]
  rw [ent_v a b 0 (by omega), ent_v a b 1 (by omega), ent_v a b 2 (by omega), ent_v a b 3 (by omega), h0, xor_v, xor_v, xor_v, xor_v, ← GF.mul_xor, ← GF.mul_xor, ← GF.mul_xor, ← GF.mul_xor, parts]
end Go.Proofs.Ytljkbkhaamlbmaa.ETab
