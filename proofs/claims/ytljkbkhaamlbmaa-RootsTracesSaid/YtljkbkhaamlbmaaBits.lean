/- Go's operations on bits, at words that are spelled as bit vectors. -/
import Derived.Test.YtljkbkhaamlbmaaWMore
import Derived.Laws.BitsLemmas
set_option linter.unusedVariables false
namespace Go.Proofs.Ytljkbkhaamlbmaa.Bits
open Go.RowKit Go.Proofs.YtljkbkhaamlbmaaW.PrintWords Go.Proofs.YtljkbkhaamlbmaaW.PrintLast Go.Proofs.YtljkbkhaamlbmaaW.PrintMore
def v (x : BitVec 32) : Int := (x.toNat : Int)
def q (x : BitVec 64) : Int := (x.toNat : Int)
theorem v_lt (x : BitVec 32) : 0 ≤ v x ∧ v x < 4294967296 := by unfold v; have := x.isLt; omega
theorem q_lt (x : BitVec 64) : 0 ≤ q x ∧ q x < 18446744073709551616 := by unfold q; have := x.isLt; omega
theorem v_inj {x y : BitVec 32} : v x = v y ↔ x = y := by
  unfold v
  exact ⟨fun h => BitVec.eq_of_toNat_eq (by omega), fun h => by rw [h]⟩
theorem wf_u32 {a : Int} (h : (Lit.int .u32 a).wf = true) : 0 ≤ a ∧ a < 4294967296 := by
  simp [Lit.wf, IntKind.min, IntKind.max, IntKind.bits, IntKind.signed] at h
  omega
theorem v_of {a : Int} (h0 : 0 ≤ a) (h1 : a < 4294967296) : ∃ x, a = v x := by
  refine ⟨BitVec.ofNat 32 a.toNat, ?_⟩
  unfold v; rw [BitVec.toNat_ofNat]; omega
theorem q_of {a : Int} (h0 : 0 ≤ a) (h1 : a < 18446744073709551616) : ∃ x, a = q x := by
  refine ⟨BitVec.ofNat 64 a.toNat, ?_⟩
  unfold q; rw [BitVec.toNat_ofNat]; omega
theorem ofInt_v (x : BitVec 32) : BitVec.ofInt 32 (v x) = x := by
  unfold v; rw [BitVec.ofInt_natCast]; apply BitVec.eq_of_toNat_eq; rw [BitVec.toNat_ofNat]; exact Nat.mod_eq_of_lt x.isLt
theorem ofInt_q (x : BitVec 64) : BitVec.ofInt 64 (q x) = x := by
  unfold q; rw [BitVec.ofInt_natCast]; apply BitVec.eq_of_toNat_eq; rw [BitVec.toNat_ofNat]; exact Nat.mod_eq_of_lt x.isLt
theorem wrap_v (x : BitVec 32) : IntKind.u32.wrap (x.toNat : Int) = v x := by
  rw [IntKind.wrap_u32]; unfold v; have := x.isLt; omega
theorem wrap_u64 (n : Int) : IntKind.u64.wrap n = n % 18446744073709551616 := by simp [IntKind.wrap, IntKind.bits, IntKind.signed]
theorem wrap_q (x : BitVec 64) : IntKind.u64.wrap (x.toNat : Int) = q x := by
  rw [wrap_u64]; unfold q; have := x.isLt; omega
theorem xor_v (x y : BitVec 32) : Go.bits .xor .u32 (v x) (v y) = v (x ^^^ y) := by
  show IntKind.u32.wrap ((BitVec.ofInt 32 (v x) ^^^ BitVec.ofInt 32 (v y)).toNat : Int) = _
  rw [ofInt_v, ofInt_v, wrap_v]
theorem and_v (x y : BitVec 32) : Go.bits .and .u32 (v x) (v y) = v (x &&& y) := by
  show IntKind.u32.wrap ((BitVec.ofInt 32 (v x) &&& BitVec.ofInt 32 (v y)).toNat : Int) = _
  rw [ofInt_v, ofInt_v, wrap_v]
theorem xor_q (x y : BitVec 64) : Go.bits .xor .u64 (q x) (q y) = q (x ^^^ y) := by
  show IntKind.u64.wrap ((BitVec.ofInt 64 (q x) ^^^ BitVec.ofInt 64 (q y)).toNat : Int) = _
  rw [ofInt_q, ofInt_q, wrap_q]
theorem and_q (x y : BitVec 64) : Go.bits .and .u64 (q x) (q y) = q (x &&& y) := by
  show IntKind.u64.wrap ((BitVec.ofInt 64 (q x) &&& BitVec.ofInt 64 (q y)).toNat : Int) = _
  rw [ofInt_q, ofInt_q, wrap_q]
theorem pow_cast (n : Nat) : ((2 : Int) ^ n) = ((2 ^ n : Nat) : Int) := by simp
theorem ediv_cast (a b : Nat) : ((a : Int) / (b : Int)) = ((a / b : Nat) : Int) := rfl
theorem emod_cast (a b : Nat) : ((a : Int) % (b : Int)) = ((a % b : Nat) : Int) := rfl
theorem shr_v (x : BitVec 32) (i : Nat) (h : i ≤ 32) : shr .u32 (v x) (i : Int) = v (x >>> i) := by
  unfold shr v
  have : min (i : Int).toNat (IntKind.bits .u32) = i := by simp [IntKind.bits]; omega
  rw [this, pow_cast, ediv_cast, BitVec.toNat_ushiftRight, Nat.shiftRight_eq_div_pow]
theorem shr_q (x : BitVec 64) (i : Nat) (h : i ≤ 64) : shr .u64 (q x) (i : Int) = q (x >>> i) := by
  unfold shr q
  have : min (i : Int).toNat (IntKind.bits .u64) = i := by simp [IntKind.bits]; omega
  rw [this, pow_cast, ediv_cast, BitVec.toNat_ushiftRight, Nat.shiftRight_eq_div_pow]
theorem mul_cast (a b : Nat) : ((a : Int) * (b : Int)) = ((a * b : Nat) : Int) := by simp
theorem shl_q (x : BitVec 64) (i : Nat) (h : i ≤ 64) : shl .u64 (q x) (i : Int) = q (x <<< i) := by
  unfold shl q
  have : min (i : Int).toNat (IntKind.bits .u64) = i := by simp [IntKind.bits]; omega
  rw [this, pow_cast, mul_cast, wrap_u64, BitVec.toNat_shiftLeft, Nat.shiftLeft_eq]
  exact emod_cast _ 18446744073709551616
theorem bit_v (x : BitVec 32) (i : Nat) : v ((x >>> i) &&& 1#32) = if x.getLsbD i then 1 else 0 := by
  unfold v
  rw [BitVec.toNat_and, BitVec.toNat_ushiftRight]
  show ((x.toNat >>> i &&& 1 : Nat) : Int) = _
  rw [Nat.and_one_is_mod, BitVec.getLsbD, Nat.testBit_eq_decide_div_mod_eq, Nat.shiftRight_eq_div_pow]
  by_cases h : x.toNat / 2 ^ i % 2 = 1
  · simp [h]
  · have : x.toNat / 2 ^ i % 2 = 0 := by omega
    simp [this]
theorem bit_q (x : BitVec 64) (i : Nat) : q (x >>> i) % 2 = if x.getLsbD i then 1 else 0 := by
  have e : q (x >>> i) % 2 = ((x.toNat / 2 ^ i % 2 : Nat) : Int) := by
    unfold q
    rw [BitVec.toNat_ushiftRight, Nat.shiftRight_eq_div_pow]
    exact emod_cast _ 2
  rw [e, BitVec.getLsbD, Nat.testBit_eq_decide_div_mod_eq]
  by_cases h : x.toNat / 2 ^ i % 2 = 1
  · simp [h]
  · have h0 : x.toNat / 2 ^ i % 2 = 0 := by omega
    simp [h0]
theorem wrap64_small {n : Int} (h0 : -9223372036854775808 ≤ n) (h1 : n < 9223372036854775808) : wrap64 n = n := by unfold wrap64; omega
end Go.Proofs.Ytljkbkhaamlbmaa.Bits
