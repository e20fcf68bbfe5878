/- What the printed functions of the field come to, at words that are spelled as bit vectors. -/
import Derived.Test.YtocmhmfljbohjaaRx1
import Derived.Test.YtocmhmfljbohjaaGF
import Derived.Test.YtocmhmfljbohjaaBits
set_option linter.unusedVariables false
set_option linter.unusedSimpArgs false
namespace Go.Proofs.Ytocmhmfljbohjaa.R
open Go.RowKit Go.Proofs.YtocmhmfljbohjaaW.PrintWords Go.Proofs.YtocmhmfljbohjaaW.PrintLast Go.Proofs.YtocmhmfljbohjaaW.PrintMore Go.Proofs.Ytocmhmfljbohjaa.Bits Go.Proofs.Ytocmhmfljbohjaa
/-! gf.shift -/
theorem shift_v (x : BitVec 32) : gf_shift.f (v x) = some (v (GF.sh x)) := by
  unfold gf_shift.f
  have h1 : Go.bits .and .u32 (v x) 2147483648 = if x.getLsbD 31 then 2147483648 else 0 := by
    have : (2147483648 : Int) = v (1#32 <<< 31) := by decide
    rw [this, and_v]
    have h2 : x &&& (1#32 <<< 31) = if x.getLsbD 31 then (1#32 <<< 31) else 0#32 := by
      apply BitVec.eq_of_getLsbD_eq; intro i hi
      by_cases e : i = 31
      · subst e
        have h31 : ((1#32 <<< 31 : BitVec 32)).getLsbD 31 = true := by decide
        rw [BitVec.getLsbD_and, h31, Bool.and_true]
        cases x.getLsbD 31
        · rfl
        · exact h31.symm
      · have h31 : ((1#32 <<< 31 : BitVec 32)).getLsbD i = false := by
          rw [BitVec.getLsbD_shiftLeft]; have : i < 31 := by omega
          simp [this]
        rw [BitVec.getLsbD_and, h31, Bool.and_false]
        cases x.getLsbD 31
        · exact (BitVec.getLsbD_zero ..).symm
        · exact h31.symm
    rw [h2]
    cases x.getLsbD 31 <;> rfl
  have h3 : (v x * (2 : Int)) % (4294967296 : Int) = v (x <<< 1) := by
    unfold v; rw [BitVec.toNat_shiftLeft, Nat.shiftLeft_eq]
    exact (congrArg (· % (4294967296 : Int)) (mul_cast x.toNat 2)).trans (emod_cast _ 4294967296)
  rw [h1, h3]
  unfold GF.sh
  cases x.getLsbD 31
  · simp
  · have : (141 : Int) = v 0x8d#32 := by decide
    rw [if_neg (by decide), this, xor_v]; rfl

/-! gf.Mul -/
theorem mul_loop (a b : BitVec 32) : ∀ (n : Nat) (i : Int), n ≤ 32 → i = (n : Int) - 1 → ∀ k, n < k → gf_Mul.l0 k (v a) (v b) (v (GF.mulH a b (32 - n))) i = some (v (GF.mul a b)) := by
  intro n
  induction n with
  | zero =>
    intro i _ hi k hk
    obtain ⟨k, rfl⟩ : ∃ m, k = m + 1 := ⟨k - 1, by omega⟩
    simp only [gf_Mul.l0]; rw [if_neg (by omega)]; rfl
  | succ n ih =>
    intro i hn hi k hk
    obtain ⟨k, rfl⟩ : ∃ m, k = m + 1 := ⟨k - 1, by omega⟩
    obtain rfl : i = (n : Int) := by omega
    have hw : wrap64 ((n : Int) - 1) = (n : Int) - 1 := wrap64_small (by omega) (by omega)
    have e1 : (1 : Int) = v 1#32 := by decide
    simp only [gf_Mul.l0]
    rw [if_pos (by omega), shift_v, Option.bind_some, if_pos (by omega), shr_v b n (by omega)]
    have hb : Go.bits .and .u32 (v (b >>> n)) 1 = if b.getLsbD n then 1 else 0 := by
      have e1 : (1 : Int) = v 1#32 := by decide
      rw [show Go.bits .and .u32 (v (b >>> n)) 1 = Go.bits .and .u32 (v (b >>> n)) (v 1#32) by rw [← e1], and_v, bit_v]
    rw [hb, hw]
    have hs : GF.mulH a b (32 - n) = GF.sh (GF.mulH a b (32 - (n + 1))) ^^^ (if b.getLsbD n then a else 0#32) := by
      have e2 : 32 - n = (32 - (n + 1)) + 1 := by omega
      rw [e2]; simp only [GF.mulH]
      have e3 : 31 - (32 - (n + 1)) = n := by omega
      rw [e3]
    have := ih ((n : Int) - 1) (by omega) rfl k (by omega)
    rw [hs] at this
    cases hbn : b.getLsbD n
    · rw [if_neg (by decide)]
      rw [hbn] at this; simpa using this
    · rw [if_pos (by decide), xor_v]
      rw [hbn] at this; exact this
theorem mul_v (a b : BitVec 32) (k : Nat) (hk : 33 ≤ k) : gf_Mul.f k (v a) (v b) = some (v (GF.mul a b)) :=
  mul_loop a b 32 31 (by omega) (by omega) k (by omega)

theorem v_zero : (0 : Int) = v 0#32 := by decide
theorem v_one : (1 : Int) = v 1#32 := by decide
end Go.Proofs.Ytocmhmfljbohjaa.R
