/- Traces, and which equations y*y + y = c have a solution, and which even one: as the document says, by elimination.
   Conditions: none. -/
import Derived.Test.YtocmhmfljbohjaaRx1
import Derived.Test.YtocmhmfljbohjaaRx2
import Derived.Test.YtocmhmfljbohjaaCGf
import Derived.Test.YtocmhmfljbohjaaCGfS
import Derived.Test.YtocmhmfljbohjaaCGfT
import Derived.Test.YtocmhmfljbohjaaCGfRefP
import Derived.Test.YtocmhmfljbohjaaRSolveN
set_option linter.unusedVariables false
namespace Go.Proofs.Ytocmhmfljbohjaa.Pure
open Go.RowKit Go.Proofs.Ytocmhmfljbohjaa.R Go.Proofs.YtocmhmfljbohjaaW.PrintWords Go.Proofs.YtocmhmfljbohjaaW.PrintLast Go.Proofs.YtocmhmfljbohjaaW.PrintMore Go.Proofs.Ytocmhmfljbohjaa.Bits Go.Proofs.Ytocmhmfljbohjaa
theorem alive_w (k : Nat) (hk : 33 ≤ k) : gossamerlaw01_alive.f k = some true := by
  unfold gossamerlaw01_alive.f
  have h : gf_Mul.f k 2 2147483648 = some (v (GF.mul 2#32 2147483648#32)) := mul_v 2#32 2147483648#32 k hk
  rw [h]; decide +kernel
theorem shl_one (i : Nat) (h : i < 32) : shl .u64 1 (IntKind.u64.wrap (i : Int)) = ((2 ^ i : Nat) : Int) := by
  have : ∀ i : Nat, i < 32 → shl .u64 1 (IntKind.u64.wrap (i : Int)) = ((2 ^ i : Nat) : Int) := by decide +kernel
  exact this i h
theorem rtrace_loop (a : BitVec 32) : ∀ (n i : Nat) (s : BitVec 32), i + n = 32 → ∀ k, 131 + n < k → gossamerref01_Trace.l0 k (v a) (v s) (i : Int) = some (v (GF.trN n (GF.sqN i a) s)) := by
  intro n
  induction n with
  | zero =>
    intro i s hi k hk
    obtain ⟨k, rfl⟩ : ∃ m, k = m + 1 := ⟨k - 1, by omega⟩
    simp only [gossamerref01_Trace.l0]; rw [if_neg (by omega)]; rfl
  | succ n ih =>
    intro i s hi k hk
    obtain ⟨k, rfl⟩ : ∃ m, k = m + 1 := ⟨k - 1, by omega⟩
    have hw : wrap64 ((i : Int) + 1) = ((i + 1 : Nat) : Int) := by rw [wrap64_small (by omega) (by omega)]; omega
    have hp : 2 ^ i < 18446744073709551616 := Nat.lt_of_lt_of_le (Nat.pow_lt_pow_right (by decide) (show i < 32 by omega)) (by decide)
    simp only [gossamerref01_Trace.l0]
    rw [if_pos (by omega), if_pos (by rw [wrap_u64]; omega), shl_one i (by omega), rpower_v a (2 ^ i) hp k (by omega), Option.bind_some, xor_v, hw, GF.pow_sqN, ih (i + 1) _ (by omega) k (by omega), ← GF.sq_sqN]
    rfl
theorem rtrace_v (a : BitVec 32) (k : Nat) (hk : 164 ≤ k) : gossamerref01_Trace.f k (v a) = some (v (GF.tr a)) :=
  rtrace_loop a 32 0 0#32 rfl k (by omega)
theorem lo_zero (c : BitVec 32) : RSolve.lo (RSolve.got c 32) = 0#32 ↔ GF.tr c = 0#32 := by
  rw [RSolve.lo_tr]
  rcases GF.tr_01 c with h | h
  · rw [h, GF.zero_mul]
  · rw [h, GF.one_mul]; decide
theorem GfSolves : gossamerlaw01_GfSolves.Pure := by
  intro a0 w0
  obtain ⟨c, rfl⟩ := v_of (wf_u32 w0).1 (wf_u32 w0).2
  refine ⟨200, ?_⟩
  have hlt := v_lt c
  unfold gossamerlaw01_GfSolves.f
  rw [alive_w 200 (by omega), Option.bind_some, if_pos rfl, solve_v c 200 (by omega), Option.bind_some]
  unfold gossamerref01_Solve.f
  rw [if_pos hlt, Option.bind_some, trace_v c 200 (by omega), Option.bind_some, rtrace_v c 200 (by omega), Option.bind_some, if_pos rfl, ofInt_v]
  by_cases h : GF.tr c = 0#32
  · have h0 := (lo_zero c).2 h
    have ha := RSolve.hi_art c
    rw [h0, BitVec.xor_zero] at ha
    have hs : RSolve.sols c = GF.sol c &&& 0xfffffffe#32 := by
      unfold RSolve.sols
      rw [if_pos h0, ← GF.sol_art (RSolve.hi (RSolve.got c 32)), ha]
    simp only [if_pos h, hs, h0, decide_true, beq_self_eq_true, if_true]
  · have h0 : ¬ RSolve.lo (RSolve.got c 32) = 0#32 := fun e => h ((lo_zero c).1 e)
    have hs : RSolve.sols c = 0#32 := by unfold RSolve.sols; rw [if_neg h0]
    simp only [if_neg h, hs, decide_eq_false h0]
    rfl
end Go.Proofs.Ytocmhmfljbohjaa.Pure
