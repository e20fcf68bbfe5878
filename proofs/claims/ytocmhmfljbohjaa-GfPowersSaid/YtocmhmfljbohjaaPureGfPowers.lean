/- Powers, inverses and roots of all elements are the document's.
   Conditions: none. -/
import Derived.Test.YtocmhmfljbohjaaQx1
import Derived.Test.YtocmhmfljbohjaaQx2
import Derived.Test.YtocmhmfljbohjaaCGf
import Derived.Test.YtocmhmfljbohjaaCGfRef
set_option linter.unusedVariables false
namespace Go.Proofs.Ytocmhmfljbohjaa.Pure
open Go.RowKit Go.Proofs.Ytocmhmfljbohjaa.Q Go.Proofs.YtocmhmfljbohjaaW.PrintWords Go.Proofs.YtocmhmfljbohjaaW.PrintLast Go.Proofs.YtocmhmfljbohjaaW.PrintMore Go.Proofs.Ytocmhmfljbohjaa.Bits Go.Proofs.Ytocmhmfljbohjaa
theorem alive_w (k : Nat) (hk : 33 ≤ k) : gossamerlaw01_alive.f k = some true := by
  unfold gossamerlaw01_alive.f
  have h : gf_Mul.f k 2 2147483648 = some (v (GF.mul 2#32 2147483648#32)) := mul_v 2#32 2147483648#32 k hk
  rw [h]; decide +kernel
theorem root_loop : ∀ (n : Nat) (a : BitVec 32) (i : Int), n ≤ 31 → i + n = 31 → ∀ k, 33 + n < k → gf_Root.l0 k (v a) i = some (v (GF.sqN n a)) := by
  intro n
  induction n with
  | zero =>
    intro a i _ hi k hk
    obtain ⟨k, rfl⟩ : ∃ m, k = m + 1 := ⟨k - 1, by omega⟩
    simp only [gf_Root.l0]; rw [if_neg (by omega)]; rfl
  | succ n ih =>
    intro a i hn hi k hk
    obtain ⟨k, rfl⟩ : ∃ m, k = m + 1 := ⟨k - 1, by omega⟩
    have hw : wrap64 (i + 1) = i + 1 := wrap64_small (by omega) (by omega)
    simp only [gf_Root.l0]
    rw [if_pos (by omega), square_v a k (by omega), Option.bind_some, hw, ih (GF.sq a) (i + 1) (by omega) (by omega) k (by omega)]; rfl
theorem root_v (a : BitVec 32) (k : Nat) (hk : 65 ≤ k) : gf_Root.f k (v a) = some (v (GF.root a)) :=
  root_loop 31 a 0 (by omega) (by omega) k (by omega)
theorem GfPowers : gossamerlaw01_GfPowers.Pure := by
  intro a0 a1 w0 w1
  obtain ⟨a, rfl⟩ := v_of (wf_u32 w0).1 (wf_u32 w0).2
  obtain ⟨n, rfl⟩ := Int.eq_ofNat_of_zero_le (wf_u64 w1).1
  have hn : n < 18446744073709551616 := by have := (wf_u64 w1).2; omega
  refine ⟨200, ?_⟩
  unfold gossamerlaw01_GfPowers.f
  rw [alive_w 200 (by omega), Option.bind_some, if_pos rfl, power_v a n hn 200 (by omega), rpower_v a n hn 200 (by omega), inverse_v a 200 (by omega), rinverse_v a 200 (by omega), root_v a 200 (by omega), rroot_v a 200 (by omega)]
  simp

end Go.Proofs.Ytocmhmfljbohjaa.Pure
