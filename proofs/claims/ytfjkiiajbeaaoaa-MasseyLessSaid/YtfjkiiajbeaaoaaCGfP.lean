/- What the printed powers and inverses come to, at words that are spelled as bit vectors. -/
import Derived.Test.YtfjkiiajbeaaoaaQx1
import Derived.Test.YtfjkiiajbeaaoaaCGf
import Derived.Test.YtfjkiiajbeaaoaaCGfS
import Derived.Test.YtfjkiiajbeaaoaaGF
import Derived.Test.YtfjkiiajbeaaoaaBits
set_option linter.unusedVariables false
set_option linter.unusedSimpArgs false
namespace Go.Proofs.Ytfjkiiajbeaaoaa.Q
open Go.RowKit Go.Proofs.YtfjkiiajbeaaoaaW.PrintWords Go.Proofs.YtfjkiiajbeaaoaaW.PrintLast Go.Proofs.YtfjkiiajbeaaoaaW.PrintMore Go.Proofs.Ytfjkiiajbeaaoaa.Bits Go.Proofs.Ytfjkiiajbeaaoaa
/-! gf.Power -/
theorem and1_u64 (n : Int) (h0 : 0 ≤ n) (h1 : n < 18446744073709551616) : Go.bits .and .u64 n 1 = n % 2 := by
  obtain ⟨x, rfl⟩ := q_of h0 h1
  have e1 : (1 : Int) = q 1#64 := by decide
  rw [show Go.bits .and .u64 (q x) 1 = Go.bits .and .u64 (q x) (q 1#64) by rw [← e1], and_q]
  unfold q
  rw [BitVec.toNat_and]
  show ((x.toNat &&& 1 : Nat) : Int) = _
  rw [Nat.and_one_is_mod]; exact (emod_cast _ 2).symm
theorem power_loop : ∀ (m : Nat) (a o : BitVec 32) (n : Nat), n < 2 ^ m → n < 18446744073709551616 → ∀ k, 33 + m < k → gf_Power.l0 k (v a) (n : Int) (v o) = some (v (GF.mul o (GF.pow a n))) := by
  intro m
  induction m with
  | zero =>
    intro a o n hn _ k hk
    obtain ⟨k, rfl⟩ : ∃ m, k = m + 1 := ⟨k - 1, by omega⟩
    obtain rfl : n = 0 := by simpa using hn
    simp only [gf_Power.l0]; rw [if_neg (by omega)]; simp [GF.pow, GF.mul_one]
  | succ m ih =>
    intro a o n hn hb k hk
    obtain ⟨k, rfl⟩ : ∃ m, k = m + 1 := ⟨k - 1, by omega⟩
    simp only [gf_Power.l0]
    by_cases h0 : n = 0
    · subst h0; rw [if_neg (by omega)]; simp [GF.pow, GF.mul_one]
    · rw [if_pos (by omega), and1_u64 _ (by omega) (by omega), square_v a k (by omega), mul_v o a k (by omega)]
      simp only [Option.bind_some]
      have hd : (n : Int) / 2 = ((n / 2 : Nat) : Int) := ediv_cast n 2
      have hm : (n : Int) % 2 = ((n % 2 : Nat) : Int) := emod_cast n 2
      have hn2 : n / 2 < 2 ^ m := by rw [Nat.pow_succ] at hn; omega
      rw [hd, hm, ih (GF.sq a) (GF.mul o a) (n / 2) hn2 (by omega) k (by omega), ih (GF.sq a) o (n / 2) hn2 (by omega) k (by omega), ← GF.pow_sq]
      by_cases h1 : n % 2 = 1
      · rw [if_pos (by omega)]
        have : GF.pow a n = GF.mul a (GF.pow a (2 * (n / 2))) := by
          have e : n = 2 * (n / 2) + 1 := by omega
          rw [GF.mul_comm]
          exact (congrArg (GF.pow a) e)
        rw [this, GF.mul_assoc]
      · rw [if_neg (by omega)]
        have e : 2 * (n / 2) = n := by omega
        rw [e]
theorem power_v (a : BitVec 32) (n : Nat) (hn : n < 18446744073709551616) (k : Nat) (hk : 98 ≤ k) : gf_Power.f k (v a) (n : Int) = some (v (GF.pow a n)) := by
  have h := power_loop 64 a 1#32 n hn hn k (by omega)
  rw [GF.one_mul] at h
  exact h

/-! gf.Inverse -/
theorem inverse_v (a : BitVec 32) (k : Nat) (hk : 98 ≤ k) : gf_Inverse.f k (v a) = some (v (GF.inv a)) := by
  unfold gf_Inverse.f
  have := power_v a 4294967294 (by decide) k hk
  have h : gf_Power.f k (v a) 4294967294 = some (v (GF.inv a)) := this
  rw [h]; rfl
end Go.Proofs.Ytfjkiiajbeaaoaa.Q
