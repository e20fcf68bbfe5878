/- What the printed functions of the document's field come to, at words that are spelled as bit vectors: products. -/
import Derived.Test.YtljkbkhaamlbmaaTx8
import Derived.Test.YtljkbkhaamlbmaaGFRef
import Derived.Test.YtljkbkhaamlbmaaBits
set_option linter.unusedVariables false
set_option linter.unusedSimpArgs false
namespace Go.Proofs.Ytljkbkhaamlbmaa.T
open Go.RowKit Go.Proofs.YtljkbkhaamlbmaaW.PrintWords Go.Proofs.YtljkbkhaamlbmaaW.PrintLast Go.Proofs.YtljkbkhaamlbmaaW.PrintMore Go.Proofs.Ytljkbkhaamlbmaa.Bits Go.Proofs.Ytljkbkhaamlbmaa
theorem tmod_q (x : BitVec 64) : Int.tmod (q x) 2 = q x % 2 := Int.tmod_eq_emod_of_nonneg (q_lt x).1
theorem tmod_v (x : BitVec 32) : Int.tmod (v x) 2 = v x % 2 := Int.tmod_eq_emod_of_nonneg (v_lt x).1
theorem wrapu_nat {n : Nat} (h : n < 18446744073709551616) : IntKind.u64.wrap (n : Int) = (n : Int) := by rw [wrap_u64]; omega
theorem bitv_q (x : BitVec 32) (i : Nat) : v (x >>> i) % 2 = if x.getLsbD i then 1 else 0 := by
  have e : v (x >>> i) % 2 = ((x.toNat / 2 ^ i % 2 : Nat) : Int) := by
    unfold v
    rw [BitVec.toNat_ushiftRight, Nat.shiftRight_eq_div_pow]
    exact emod_cast _ 2
  rw [e, BitVec.getLsbD, Nat.testBit_eq_decide_div_mod_eq]
  by_cases h : x.toNat / 2 ^ i % 2 = 1
  · simp [h]
  · have h0 : x.toNat / 2 ^ i % 2 = 0 := by omega
    simp [h0]
theorem rest_loop : ∀ (n : Nat) (a : BitVec 64) (i : Int), n ≤ 32 → i = 31 + (n : Int) → ∀ k, n < k → gossamerref01_rest.l0 k (q a) i = some (v ((GF.restH n a).setWidth 32)) := by
  intro n
  induction n with
  | zero =>
    intro a i _ hi k hk
    obtain ⟨k, rfl⟩ : ∃ m, k = m + 1 := ⟨k - 1, by omega⟩
    simp only [gossamerref01_rest.l0]; rw [if_neg (by omega)]
    congr 1
  | succ n ih =>
    intro a i hn hi k hk
    obtain ⟨k, rfl⟩ : ∃ m, k = m + 1 := ⟨k - 1, by omega⟩
    obtain rfl : i = ((32 + n : Nat) : Int) := by omega
    have hw : wrap64 (((32 + n : Nat) : Int) - 1) = 31 + (n : Int) := by rw [wrap64_small] <;> omega
    have hw2 : IntKind.u64.wrap (wrap64 (((32 + n : Nat) : Int) - 32)) = (n : Int) := by rw [wrap64_small (by omega) (by omega), wrap_u64]; omega
    have em : (4294967437 : Int) = q 4294967437#64 := by decide
    simp only [gossamerref01_rest.l0]
    rw [if_pos (by omega), wrapu_nat (n := 32 + n) (by omega), if_pos (by omega), shr_q a (32 + n) (by omega), tmod_q, bit_q, hw, hw2, em, shl_q _ n (by omega), xor_q]
    simp only [GF.restH]
    have h0 : (0 : Int) ≤ (n : Int) := by omega
    rw [if_pos h0, ih _ _ (by omega) rfl k (by omega), ih _ _ (by omega) rfl k (by omega)]
    cases a.getLsbD (32 + n)
    · rw [if_neg (by decide)]; simp
    · rw [if_pos (by decide)]; rfl
theorem rest_q (a : BitVec 64) (k : Nat) (hk : 33 ≤ k) : gossamerref01_rest.f k (q a) = some (v (GF.rest a)) :=
  rest_loop 32 a 63 (by omega) (by omega) k (by omega)
theorem wide_q (a : BitVec 32) : IntKind.u64.wrap (v a) = q (GF.wide a) := by
  rw [wrap_u64]; unfold q; rw [GF.toNat_wide]; unfold v; have := a.isLt; omega
theorem rmul_loop (a b : BitVec 32) : ∀ (n i : Nat), i + n = 32 → ∀ k, n + 33 < k → gossamerref01_Mul.l0 k (v a) (v b) (q (GF.clN a b i)) (i : Int) = some (v (GF.mul a b)) := by
  intro n
  induction n with
  | zero =>
    intro i hi k hk
    obtain ⟨k, rfl⟩ : ∃ m, k = m + 1 := ⟨k - 1, by omega⟩
    obtain rfl : i = 32 := by omega
    simp only [gossamerref01_Mul.l0]; rw [if_neg (by omega), rest_q _ k (by omega), GF.rest_cl]; rfl
  | succ n ih =>
    intro i hi k hk
    obtain ⟨k, rfl⟩ : ∃ m, k = m + 1 := ⟨k - 1, by omega⟩
    have hw : wrap64 ((i : Int) + 1) = ((i + 1 : Nat) : Int) := by rw [wrap64_small] <;> omega
    simp only [gossamerref01_Mul.l0]
    rw [if_pos (by omega), wrapu_nat (n := i) (by omega), if_pos (by omega), shr_v b i (by omega), tmod_v, bitv_q, hw, wide_q, shl_q _ i (by omega), xor_q]
    have := ih (i + 1) (by omega) k (by omega)
    simp only [GF.clN] at this
    cases hb : b.getLsbD i
    · rw [if_neg (by decide)]; rw [hb] at this; simpa using this
    · rw [if_pos (by decide)]; rw [hb] at this; exact this
theorem rmul_v (a b : BitVec 32) (k : Nat) (hk : 66 ≤ k) : gossamerref01_Mul.f k (v a) (v b) = some (v (GF.mul a b)) :=
  rmul_loop a b 32 0 (by omega) k (by omega)
theorem tdiv2 (n : Nat) : Int.tdiv (n : Int) 2 = ((n / 2 : Nat) : Int) := by rw [Int.tdiv_eq_ediv_of_nonneg (by omega)]; exact ediv_cast n 2
end Go.Proofs.Ytljkbkhaamlbmaa.T
