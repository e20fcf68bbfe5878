/- What the printed functions of the field come to, at words that are spelled as bit vectors. -/
import Derived.Test.YtfjkiiajbeaaoaaQx1
import Derived.Test.YtfjkiiajbeaaoaaGF
import Derived.Test.YtfjkiiajbeaaoaaBits
set_option linter.unusedVariables false
set_option linter.unusedSimpArgs false
namespace Go.Proofs.Ytfjkiiajbeaaoaa.Q
open Go.RowKit Go.Proofs.YtfjkiiajbeaaoaaW.PrintWords Go.Proofs.YtfjkiiajbeaaoaaW.PrintLast Go.Proofs.YtfjkiiajbeaaoaaW.PrintMore Go.Proofs.Ytfjkiiajbeaaoaa.Bits Go.Proofs.Ytfjkiiajbeaaoaa
/-! gf.shift -/
theorem shift_v (x : BitVec 32) : gf_shift.f (v x) = some (v (GF.sh x)) := by
  unfold gf_shift.f
  have h1 : Go.bits .and .u32 (v x) 2147483648 = if x.getLsbD 31 then 2147483648 else 0 := by
    have : (2147483648 : Int) = v (1#32 <<< 31) := by decide
    rw [this, and_v]
    have h2 : x &&& (1#32 <<< 31) = if x.getLsbD 31 then (1#32 <<< 31) else 0#32 := by
      apply BitVec.eq_of_getLsbD_eq; intro i hi
      by_cases e : i = 31
      · subst e
        have h31 : ((1#32 <<< 31 : BitVec 32)).getLsbD 31 = true := by decide
        rw [BitVec.getLsbD_and, h31, Bool.and_true]
        cases x.getLsbD 31
        · rfl
        · exact h31.symm
      · have h31 : ((1#32 <<< 31 : BitVec 32)).getLsbD i = false := by
          rw [BitVec.getLsbD_shiftLeft]; have : i < 31 := by omega
          simp [this]
        rw [BitVec.getLsbD_and, h31, Bool.and_false]
        cases x.getLsbD 31
        · exact (BitVec.getLsbD_zero ..).symm
        · exact h31.symm
    rw [h2]
    cases x.getLsbD 31 <;> rfl
  have h3 : (v x * (2 : Int)) % (4294967296 : Int) = v (x <<< 1) := by
    unfold v; rw [BitVec.toNat_shiftLeft, Nat.shiftLeft_eq]
    exact (congrArg (· % (4294967296 : Int)) (mul_cast x.toNat 2)).trans (emod_cast _ 4294967296)
  rw [h1, h3]
  unfold GF.sh
  cases x.getLsbD 31
  · simp
  · have : (141 : Int) = v 0x8d#32 := by decide
    rw [if_neg (by decide), this, xor_v]; rfl

/-! gf.Mul -/
theorem mul_loop (a b : BitVec 32) : ∀ (n : Nat) (i : Int), n ≤ 32 → i = (n : Int) - 1 → ∀ k, n < k → gf_Mul.l0 k (v a) (v b) (v (GF.mulH a b (32 - n))) i = some (v (GF.mul a b)) := by
  intro n
  induction n with
  | zero =>
    intro i _ hi k hk
    obtain ⟨k, rfl⟩ : ∃ m, k = m + 1 := ⟨k - 1, by omega⟩
    simp only [gf_Mul.l0]; rw [if_neg (by omega)]; rfl
  | succ n ih =>
    intro i hn hi k hk
    obtain ⟨k, rfl⟩ : ∃ m, k = m + 1 := ⟨k - 1, by omega⟩
    obtain rfl : i = (n : Int) := by omega
    have hw : wrap64 ((n : Int) - 1) = (n : Int) - 1 := wrap64_small (by omega) (by omega)
    have e1 : (1 : Int) = v 1#32 := by decide
    simp only [gf_Mul.l0]
    rw [if_pos (by omega), shift_v, Option.bind_some, if_pos (by omega), shr_v b n (by omega)]
    have hb : Go.bits .and .u32 (v (b >>> n)) 1 = if b.getLsbD n then 1 else 0 := by
      have e1 : (1 : Int) = v 1#32 := by decide
      rw [show Go.bits .and .u32 (v (b >>> n)) 1 = Go.bits .and .u32 (v (b >>> n)) (v 1#32) by rw [← e1], and_v, bit_v]
    rw [hb, hw]
    have hs : GF.mulH a b (32 - n) = GF.sh (GF.mulH a b (32 - (n + 1))) ^^^ (if b.getLsbD n then a else 0#32) := by
      have e2 : 32 - n = (32 - (n + 1)) + 1 := by omega
      rw [e2]; simp only [GF.mulH]
      have e3 : 31 - (32 - (n + 1)) = n := by omega
      rw [e3]
    have := ih ((n : Int) - 1) (by omega) rfl k (by omega)
    rw [hs] at this
    cases hbn : b.getLsbD n
    · rw [if_neg (by decide)]
      rw [hbn] at this; simpa using this
    · rw [if_pos (by decide), xor_v]
      rw [hbn] at this; exact this
theorem mul_v (a b : BitVec 32) (k : Nat) (hk : 33 ≤ k) : gf_Mul.f k (v a) (v b) = some (v (GF.mul a b)) :=
  mul_loop a b 32 31 (by omega) (by omega) k (by omega)

theorem v_zero : (0 : Int) = v 0#32 := by decide
theorem v_one : (1 : Int) = v 1#32 := by decide
end Go.Proofs.Ytfjkiiajbeaaoaa.Q
/- What the printed functions of the field come to, at words that are spelled as bit vectors. -/
set_option linter.unusedVariables false
set_option linter.unusedSimpArgs false
namespace Go.Proofs.Ytfjkiiajbeaaoaa.Q
open Go.RowKit Go.Proofs.YtfjkiiajbeaaoaaW.PrintWords Go.Proofs.YtfjkiiajbeaaoaaW.PrintLast Go.Proofs.YtfjkiiajbeaaoaaW.PrintMore Go.Proofs.Ytfjkiiajbeaaoaa.Bits Go.Proofs.Ytfjkiiajbeaaoaa
/-! gf.shift -/
/-! gf.Square -/
theorem square_v (a : BitVec 32) (k : Nat) (hk : 33 ≤ k) : gf_Square.f k (v a) = some (v (GF.sq a)) := by
  unfold gf_Square.f; rw [mul_v a a k hk]; rfl

end Go.Proofs.Ytfjkiiajbeaaoaa.Q
/- What the printed powers and inverses come to, at words that are spelled as bit vectors. -/
set_option linter.unusedVariables false
set_option linter.unusedSimpArgs false
namespace Go.Proofs.Ytfjkiiajbeaaoaa.Q
open Go.RowKit Go.Proofs.YtfjkiiajbeaaoaaW.PrintWords Go.Proofs.YtfjkiiajbeaaoaaW.PrintLast Go.Proofs.YtfjkiiajbeaaoaaW.PrintMore Go.Proofs.Ytfjkiiajbeaaoaa.Bits Go.Proofs.Ytfjkiiajbeaaoaa
/-! gf.Power -/
theorem and1_u64 (n : Int) (h0 : 0 ≤ n) (h1 : n < 18446744073709551616) : Go.bits .and .u64 n 1 = n % 2 := by
  obtain ⟨x, rfl⟩ := q_of h0 h1
  have e1 : (1 : Int) = q 1#64 := by decide
  rw [show Go.bits .and .u64 (q x) 1 = Go.bits .and .u64 (q x) (q 1#64) by rw [← e1], and_q]
  unfold q
  rw [BitVec.toNat_and]
  show ((x.toNat &&& 1 : Nat) : Int) = _
  rw [Nat.and_one_is_mod]; exact (emod_cast _ 2).symm
theorem power_loop : ∀ (m : Nat) (a o : BitVec 32) (n : Nat), n < 2 ^ m → n < 18446744073709551616 → ∀ k, 33 + m < k → gf_Power.l0 k (v a) (n : Int) (v o) = some (v (GF.mul o (GF.pow a n))) := by
  intro m
  induction m with
  | zero =>
    intro a o n hn _ k hk
    obtain ⟨k, rfl⟩ : ∃ m, k = m + 1 := ⟨k - 1, by omega⟩
    obtain rfl : n = 0 := by simpa using hn
    simp only [gf_Power.l0]; rw [if_neg (by omega)]; simp [GF.pow, GF.mul_one]
  | succ m ih =>
    intro a o n hn hb k hk
    obtain ⟨k, rfl⟩ : ∃ m, k = m + 1 := ⟨k - 1, by omega⟩
    simp only [gf_Power.l0]
    by_cases h0 : n = 0
    · subst h0; rw [if_neg (by omega)]; simp [GF.pow, GF.mul_one]
    · rw [if_pos (by omega), and1_u64 _ (by omega) (by omega), square_v a k (by omega), mul_v o a k (by omega)]
      simp only [Option.bind_some]
      have hd : (n : Int) / 2 = ((n / 2 : Nat) : Int) := ediv_cast n 2
      have hm : (n : Int) % 2 = ((n % 2 : Nat) : Int) := emod_cast n 2
      have hn2 : n / 2 < 2 ^ m := by rw [Nat.pow_succ] at hn; omega
      rw [hd, hm, ih (GF.sq a) (GF.mul o a) (n / 2) hn2 (by omega) k (by omega), ih (GF.sq a) o (n / 2) hn2 (by omega) k (by omega), ← GF.pow_sq]
      by_cases h1 : n % 2 = 1
      · rw [if_pos (by omega)]
        have : GF.pow a n = GF.mul a (GF.pow a (2 * (n / 2))) := by
          have e : n = 2 * (n / 2) + 1 := by omega
          rw [GF.mul_comm]
          exact (congrArg (GF.pow a) e)
        rw [this, GF.mul_assoc]
      · rw [if_neg (by omega)]
        have e : 2 * (n / 2) = n := by omega
        rw [e]
theorem power_v (a : BitVec 32) (n : Nat) (hn : n < 18446744073709551616) (k : Nat) (hk : 98 ≤ k) : gf_Power.f k (v a) (n : Int) = some (v (GF.pow a n)) := by
  have h := power_loop 64 a 1#32 n hn hn k (by omega)
  rw [GF.one_mul] at h
  exact h

/-! gf.Inverse -/
theorem inverse_v (a : BitVec 32) (k : Nat) (hk : 98 ≤ k) : gf_Inverse.f k (v a) = some (v (GF.inv a)) := by
  unfold gf_Inverse.f
  have := power_v a 4294967294 (by decide) k hk
  have h : gf_Power.f k (v a) 4294967294 = some (v (GF.inv a)) := this
  rw [h]; rfl
end Go.Proofs.Ytfjkiiajbeaaoaa.Q
