/- Traces are 0 or 1, those of sums are sums, those of squares the same; the equation y*y + y = a has a solution just if a's trace is 0, and the even one that is answered solves it.
   Conditions: none. -/
import Derived.Test.YtocmhmfljbohjabQx1
import Derived.Test.YtocmhmfljbohjabCGf
import Derived.Test.YtocmhmfljbohjabCGfT
set_option linter.unusedVariables false
namespace Go.Proofs.Ytocmhmfljbohjab.Pure
open Go.RowKit Go.Proofs.Ytocmhmfljbohjab.Q Go.Proofs.YtocmhmfljbohjabW.PrintWords Go.Proofs.YtocmhmfljbohjabW.PrintLast Go.Proofs.YtocmhmfljbohjabW.PrintMore Go.Proofs.Ytocmhmfljbohjab.Bits Go.Proofs.Ytocmhmfljbohjab
theorem alive_w (k : Nat) (hk : 33 ≤ k) : gossamerlaw01_alive.f k = some true := by
  unfold gossamerlaw01_alive.f
  have h : gf_Mul.f k 2 2147483648 = some (v (GF.mul 2#32 2147483648#32)) := mul_v 2#32 2147483648#32 k hk
  rw [h]; decide +kernel
theorem even_v (x : BitVec 32) : Int.tmod (v (x &&& 0xfffffffe#32)) 2 = 0 := by
  rw [Int.tmod_eq_emod_of_nonneg (v_lt _).1]
  have h : (x &&& 0xfffffffe#32) &&& 1#32 = 0#32 := by
    rw [BitVec.and_assoc]
    have : (0xfffffffe#32 &&& 1#32 : BitVec 32) = 0#32 := by decide
    rw [this]; exact BitVec.and_zero
  have h2 : (x &&& 0xfffffffe#32).toNat % 2 = 0 := by
    have := congrArg BitVec.toNat h
    rw [BitVec.toNat_and] at this
    have e : (1#32 : BitVec 32).toNat = 1 := rfl
    rw [e, Nat.and_one_is_mod] at this
    exact this
  unfold v; omega
theorem GfTraces : gossamerlaw01_GfTraces.Pure := by
  intro a0 a1 w0 w1
  obtain ⟨a, rfl⟩ := v_of (wf_u32 w0).1 (wf_u32 w0).2
  obtain ⟨b, rfl⟩ := v_of (wf_u32 w1).1 (wf_u32 w1).2
  refine ⟨100, ?_⟩
  unfold gossamerlaw01_GfTraces.f
  rw [alive_w 100 (by omega), Option.bind_some, if_pos rfl, trace_v a 100 (by omega), Option.bind_some, trace_v b 100 (by omega), Option.bind_some, solve_v a 100 (by omega), Option.bind_some,
    square_v b 100 (by omega), Option.bind_some, xor_v, solve_v _ 100 (by omega), Option.bind_some, xor_v, trace_v _ 100 (by omega), xor_v, GF.tr_xor, Option.bind_some, if_pos rfl,
    square_v a 100 (by omega), Option.bind_some, trace_v _ 100 (by omega), Option.bind_some, GF.tr_sq, if_pos rfl, GF.tr_art, if_pos rfl]
  have h01 := GF.tr_01 a
  have hlt : v (GF.tr a) < 2 := by rcases h01 with h | h <;> rw [h] <;> decide
  rw [if_pos hlt]
  by_cases h : GF.tr a = 0#32
  · simp only [if_pos h]
    have h0 : (v (GF.tr a) == 0) = true := by rw [h]; rfl
    have hs : GF.sq (GF.sol a &&& 0xfffffffe#32) ^^^ (GF.sol a &&& 0xfffffffe#32) = a := by
      rw [GF.art_even, GF.sol_eq, h, GF.mul_zero, BitVec.xor_zero]
    rw [h0, square_v _ 100 (by omega), Option.bind_some, xor_v, hs, even_v]
    simp
  · simp only [if_neg h]
    have h1 : GF.tr a = 1#32 := by rcases h01 with e | e; exact absurd e h; exact e
    have h0 : (v (GF.tr a) == 0) = false := by rw [h1]; rfl
    rw [h0]; simp

end Go.Proofs.Ytocmhmfljbohjab.Pure
