/- What the printed traces and solutions come to, at words that are spelled as bit vectors. -/
import Derived.Test.YtocmhmfljbohjaaRx1
import Derived.Test.YtocmhmfljbohjaaCGf
import Derived.Test.YtocmhmfljbohjaaCGfS
set_option linter.unusedVariables false
set_option linter.unusedSimpArgs false
namespace Go.Proofs.Ytocmhmfljbohjaa.R
open Go.RowKit Go.Proofs.YtocmhmfljbohjaaW.PrintWords Go.Proofs.YtocmhmfljbohjaaW.PrintLast Go.Proofs.YtocmhmfljbohjaaW.PrintMore Go.Proofs.Ytocmhmfljbohjaa.Bits Go.Proofs.Ytocmhmfljbohjaa
theorem trace_loop : ∀ (n : Nat) (a o : BitVec 32) (i : Int), n ≤ 32 → i + n = 32 → ∀ k, 33 + n < k → gf_Trace.l0 k (v a) (v o) i = some (v (GF.trN n a o)) := by
  intro n
  induction n with
  | zero =>
    intro a o i _ hi k hk
    obtain ⟨k, rfl⟩ : ∃ m, k = m + 1 := ⟨k - 1, by omega⟩
    simp only [gf_Trace.l0]; rw [if_neg (by omega)]; rfl
  | succ n ih =>
    intro a o i hn hi k hk
    obtain ⟨k, rfl⟩ : ∃ m, k = m + 1 := ⟨k - 1, by omega⟩
    have hw : wrap64 (i + 1) = i + 1 := wrap64_small (by omega) (by omega)
    simp only [gf_Trace.l0]
    rw [if_pos (by omega), square_v a k (by omega), Option.bind_some, hw, xor_v, ih (GF.sq a) (o ^^^ a) (i + 1) (by omega) (by omega) k (by omega)]; rfl
theorem trace_v (a : BitVec 32) (k : Nat) (hk : 66 ≤ k) : gf_Trace.f k (v a) = some (v (GF.tr a)) :=
  trace_loop 32 a 0#32 0 (by omega) (by omega) k (by omega)
theorem tr_low : ∀ i, i < 25 → GF.tr (GF.e i) = 0#32 := by decide +kernel
theorem tr_25 : GF.tr (GF.e 25) = 1#32 := by decide +kernel
theorem e_double : ∀ i, i < 25 → (v (GF.e i) * (2 : Int)) % (4294967296 : Int) = v (GF.e (i + 1)) := by decide +kernel
theorem odd_loop : ∀ (n i : Nat), i + n = 25 → ∀ k, 66 + n < k → gf_odd.l0 k (v (GF.e i)) = some (v 0x2000000#32) := by
  intro n
  induction n with
  | zero =>
    intro i hi k hk
    obtain ⟨k, rfl⟩ : ∃ m, k = m + 1 := ⟨k - 1, by omega⟩
    obtain rfl : i = 25 := by omega
    simp only [gf_odd.l0]; rw [trace_v _ k (by omega), tr_25, Option.bind_some, if_neg (by decide)]; decide
  | succ n ih =>
    intro i hi k hk
    obtain ⟨k, rfl⟩ : ∃ m, k = m + 1 := ⟨k - 1, by omega⟩
    simp only [gf_odd.l0]; rw [trace_v _ k (by omega), tr_low i (by omega), Option.bind_some, if_pos (by decide), e_double i (by omega)]
    exact ih (i + 1) (by omega) k (by omega)
theorem odd_v (k : Nat) (hk : 92 ≤ k) : gf_odd.f k = some (v 0x2000000#32) := by
  have := odd_loop 25 0 (by omega) k (by omega)
  exact this
theorem solve_loop : ∀ (n : Nat) (c t y s : BitVec 32) (i : Int), n ≤ 32 → i + n = 32 → ∀ k, 33 + n < k →
    gf_Solve.l0 k (v c) (v t) (v y) (v s) i = some (v (GF.solN n c t y s &&& 0xfffffffe#32), true) := by
  intro n
  induction n with
  | zero =>
    intro c t y s i _ hi k hk
    obtain ⟨k, rfl⟩ : ∃ m, k = m + 1 := ⟨k - 1, by omega⟩
    have e1 : (1 : Int) = v 1#32 := by decide
    simp only [gf_Solve.l0]
    rw [if_neg (by omega), show Go.bits .andNot .u32 (v y) 1 = Go.bits .andNot .u32 (v y) (v 1#32) by rw [← e1], andNot_v]; rfl
  | succ n ih =>
    intro c t y s i hn hi k hk
    obtain ⟨k, rfl⟩ : ∃ m, k = m + 1 := ⟨k - 1, by omega⟩
    have hw : wrap64 (i + 1) = i + 1 := wrap64_small (by omega) (by omega)
    simp only [gf_Solve.l0]
    rw [if_pos (by omega), xor_v, mul_v _ _ k (by omega), Option.bind_some, square_v _ k (by omega), Option.bind_some, square_v _ k (by omega), Option.bind_some, hw, xor_v]
    exact ih _ _ _ _ (i + 1) (by omega) (by omega) k (by omega)
/-- the equation y*y + y = c: its even solution, and whether there is one -/
theorem solve_v (c : BitVec 32) (k : Nat) (hk : 100 ≤ k) : gf_Solve.f k (v c) = some (if GF.tr c = 0#32 then (v (GF.sol c &&& 0xfffffffe#32), true) else (0, false)) := by
  unfold gf_Solve.f
  rw [trace_v c k (by omega), Option.bind_some]
  by_cases h : GF.tr c = 0#32
  · rw [if_pos (by rw [h]; rfl), if_pos h, odd_v k (by omega), Option.bind_some]
    exact solve_loop 32 c 0x2000000#32 0#32 0#32 0 (by omega) (by omega) k (by omega)
  · have : v (GF.tr c) ≠ 0 := fun e => h (v_inj.mp (e.trans v_zero))
    rw [if_neg this, if_neg h]
end Go.Proofs.Ytocmhmfljbohjaa.R
