/- Squares of sums are sums of squares, roots are theirs, powers add up, and an element to 2^32 is itself.
   Conditions: none. -/
import Derived.Test.YtocmhmfljbohjaaQx1
import Derived.Test.YtocmhmfljbohjaaQx2
import Derived.Test.YtocmhmfljbohjaaCGf
import Derived.Test.YtocmhmfljbohjaaCGfP
set_option linter.unusedVariables false
namespace Go.Proofs.Ytocmhmfljbohjaa.Pure
open Go.RowKit Go.Proofs.Ytocmhmfljbohjaa.Q Go.Proofs.YtocmhmfljbohjaaW.PrintWords Go.Proofs.YtocmhmfljbohjaaW.PrintLast Go.Proofs.YtocmhmfljbohjaaW.PrintMore Go.Proofs.Ytocmhmfljbohjaa.Bits Go.Proofs.Ytocmhmfljbohjaa
theorem salive (k : Nat) (hk : 33 ≤ k) : gossamerlaw01_alive.f k = some true := by
  unfold gossamerlaw01_alive.f
  have h : gf_Mul.f k 2 2147483648 = some (v (GF.mul 2#32 2147483648#32)) := mul_v 2#32 2147483648#32 k hk
  rw [h]; decide +kernel
theorem sroot_loop : ∀ (n : Nat) (a : BitVec 32) (i : Int), n ≤ 31 → i + n = 31 → ∀ k, 33 + n < k → gf_Root.l0 k (v a) i = some (v (GF.sqN n a)) := by
  intro n
  induction n with
  | zero =>
    intro a i _ hi k hk
    obtain ⟨k, rfl⟩ : ∃ m, k = m + 1 := ⟨k - 1, by omega⟩
    simp only [gf_Root.l0]; rw [if_neg (by omega)]; rfl
  | succ n ih =>
    intro a i hn hi k hk
    obtain ⟨k, rfl⟩ : ∃ m, k = m + 1 := ⟨k - 1, by omega⟩
    have hw : wrap64 (i + 1) = i + 1 := wrap64_small (by omega) (by omega)
    simp only [gf_Root.l0]
    rw [if_pos (by omega), square_v a k (by omega), Option.bind_some, hw, ih (GF.sq a) (i + 1) (by omega) (by omega) k (by omega)]; rfl
theorem sroot_v (a : BitVec 32) (k : Nat) (hk : 65 ≤ k) : gf_Root.f k (v a) = some (v (GF.root a)) :=
  sroot_loop 31 a 0 (by omega) (by omega) k (by omega)
theorem uwrap {n : Nat} (h : n < 18446744073709551616) : IntKind.u64.wrap (n : Int) = (n : Int) := by rw [wrap_u64]; omega
theorem GfSquares : gossamerlaw01_GfSquares.Pure := by
  intro a0 a1 a2 a3 w0 w1 w2 w3
  obtain ⟨a, rfl⟩ := v_of (wf_u32 w0).1 (wf_u32 w0).2
  obtain ⟨b, rfl⟩ := v_of (wf_u32 w1).1 (wf_u32 w1).2
  obtain ⟨n, rfl⟩ := Int.eq_ofNat_of_zero_le (wf_u32 w2).1
  obtain ⟨m, rfl⟩ := Int.eq_ofNat_of_zero_le (wf_u32 w3).1
  have hn : n < 4294967296 := by have := (wf_u32 w2).2; omega
  have hm : m < 4294967296 := by have := (wf_u32 w3).2; omega
  refine ⟨200, ?_⟩
  have hc : ((n : Int) + (m : Int)) = ((n + m : Nat) : Int) := by omega
  have hp := power_v a 4294967296 (by decide) 200 (by omega)
  have hp2 : gf_Power.f 200 (v a) 4294967296 = some (v (GF.pow a 4294967296)) := hp
  rw [GF.pow_all] at hp2
  unfold gossamerlaw01_GfSquares.f
  simp only [salive 200 (by omega), Option.bind_some, if_true, xor_v, square_v _ 200 (by omega), sroot_v _ 200 (by omega), GF.sq_xor, GF.sq_root, GF.root_sq,
    uwrap (n := n) (by omega), uwrap (n := m) (by omega), hc, uwrap (n := n + m) (by omega), power_v a n (by omega) 200 (by omega), power_v a m (by omega) 200 (by omega), power_v a (n + m) (by omega) 200 (by omega),
    mul_v _ _ 200 (by omega), GF.pow_add, hp2]
  simp

end Go.Proofs.Ytocmhmfljbohjaa.Pure
