/- It is a field: the laws of brackets, of order and of sharing out, one and nought, inverses, and no divisors of nought, for all elements a, b, c.
   Conditions: none. -/
import Derived.Test.YtocmhmfljbohjaaQx1
import Derived.Test.YtocmhmfljbohjaaCGf
set_option linter.unusedVariables false
namespace Go.Proofs.Ytocmhmfljbohjaa.Pure
open Go.RowKit Go.Proofs.Ytocmhmfljbohjaa.Q Go.Proofs.YtocmhmfljbohjaaW.PrintWords Go.Proofs.YtocmhmfljbohjaaW.PrintLast Go.Proofs.YtocmhmfljbohjaaW.PrintMore Go.Proofs.Ytocmhmfljbohjaa.Bits Go.Proofs.Ytocmhmfljbohjaa
/-! alive -/
theorem alive_v (k : Nat) (hk : 33 ≤ k) : gossamerlaw01_alive.f k = some true := by
  unfold gossamerlaw01_alive.f
  have h : gf_Mul.f k 2 2147483648 = some (v (GF.mul 2#32 2147483648#32)) := mul_v 2#32 2147483648#32 k hk
  rw [h]; decide +kernel
theorem rest_v (a b c : BitVec 32) (k : Nat) (hk : 98 ≤ k) : gossamerlaw01_GfField.j0 (k + 1) (v a) (v b) (v c) false = some true := by
  have g : 33 ≤ k := by omega
  simp only [gossamerlaw01_GfField.j0]
  rw [if_neg (by decide)]
  simp only [mul_v _ _ k g, xor_v, Option.bind_some, GF.mul_assoc, GF.mul_xor]
  rw [GF.mul_comm b a]
  simp only [if_true]
  have h1 : gf_Mul.f k (v a) 1 = some (v a) := by have := mul_v a 1#32 k g; rw [GF.mul_one] at this; exact this
  have h0 : gf_Mul.f k (v a) 0 = some 0 := by have := mul_v a 0#32 k g; rw [GF.mul_zero] at this; exact this
  rw [h1, h0]
  simp only [Option.bind_some, if_true]
  by_cases e : v (GF.mul a b) = 0
  · rw [if_pos e]
    have : GF.mul a b = 0#32 := v_inj.mp (e.trans v_zero)
    rcases GF.mul_eq_zero this with h | h
    · rw [if_pos (by rw [h]; rfl)]
    · by_cases ha : v a = 0
      · rw [if_pos ha]
      · rw [if_neg ha, h]; rfl
  · rw [if_neg e]
theorem GfField : gossamerlaw01_GfField.Pure := by
  intro a0 a1 a2 w0 w1 w2
  obtain ⟨a, rfl⟩ := v_of (wf_u32 w0).1 (wf_u32 w0).2
  obtain ⟨b, rfl⟩ := v_of (wf_u32 w1).1 (wf_u32 w1).2
  obtain ⟨c, rfl⟩ := v_of (wf_u32 w2).1 (wf_u32 w2).2
  refine ⟨99, ?_⟩
  unfold gossamerlaw01_GfField.f
  rw [alive_v 99 (by omega), Option.bind_some, if_pos rfl, inverse_v a 99 (by omega)]
  simp only [Option.bind_some]
  by_cases h : v a = 0
  · rw [if_pos h]
    have ha : a = 0#32 := v_inj.mp (h.trans v_zero)
    have : (v (GF.inv a) != 0) = false := by rw [ha, GF.inv_zero]; rfl
    rw [this]
    exact rest_v a b c 98 (by omega)
  · rw [if_neg h, mul_v a (GF.inv a) 99 (by omega)]
    have ha : a ≠ 0#32 := fun e => h (by rw [e]; rfl)
    rw [GF.mul_inv ha]
    simp only [Option.bind_some]
    rw [if_pos (by decide)]
    exact rest_v a b c 98 (by omega)

end Go.Proofs.Ytocmhmfljbohjaa.Pure
