/- What a nil table answers, a sum of nothing, the tables of nought and of one.
   Conditions: none. -/
import Derived.Test.YtocmhmfljbohjaaQx1
import Derived.Test.YtocmhmfljbohjaaQx3
import Derived.Test.YtocmhmfljbohjaaCGf
import Derived.Test.YtocmhmfljbohjaaETabV
set_option linter.unusedVariables false
set_option linter.unusedSimpArgs false
namespace Go.Proofs.Ytocmhmfljbohjaa.Walk
open Go.RowKit Go.Proofs.Ytocmhmfljbohjaa.Q Go.Proofs.YtocmhmfljbohjaaW.PrintWords Go.Proofs.YtocmhmfljbohjaaW.PrintLast Go.Proofs.YtocmhmfljbohjaaW.PrintMore Go.Proofs.Ytocmhmfljbohjaa.Bits Go.Proofs.Ytocmhmfljbohjaa ETab EMul
theorem alive_n : gossamerlaw01_alive.f 33 = some true := by
  unfold gossamerlaw01_alive.f
  have h : gf_Mul.f 33 2 2147483648 = some (v (GF.mul 2#32 2147483648#32)) := mul_v 2#32 2147483648#32 33 (by omega)
  rw [h]; decide +kernel
theorem tm_zero (a : Int) (w0 : (Lit.int .u32 a).wf = true) : tm mulI 0 a 4 = 0 := by
  obtain ⟨x, rfl⟩ := v_of (wf_u32 w0).1 (wf_u32 w0).2
  have := tm_v 0#32 x
  rw [GF.zero_mul] at this; exact this
theorem tm_one (a : Int) (w0 : (Lit.int .u32 a).wf = true) : tm mulI 1 a 4 = a := by
  obtain ⟨x, rfl⟩ := v_of (wf_u32 w0).1 (wf_u32 w0).2
  have := tm_v 1#32 x
  rw [GF.one_mul] at this; exact this
theorem drawn_below {B : Nat} {W W1 : World} (h : Below B W W1) (n : Nat) : Below B W (W1.drewN n) := h.trans ⟨rfl, rfl, rfl, Nat.le_refl _, fun _ _ => rfl⟩
theorem GfNone (a0 : Int) (w : World) (w0 : (Lit.int .u32 a0).wf = true) :
    Calls Try.prog 6 #[.int .u32 a0] w fun e w' => e = .returned (.bool true) ∧ Below w.heap.size w w' := by
  have h0 := tm_zero a0 w0
  have h1 := tm_one a0 w0
  obtain ⟨z, hz⟩ : ∃ z, z = tm mulI 0 a0 4 := ⟨_, rfl⟩
  go_enter Try.func6, Try.ntmps6
  go_wp2_with fail
  refine (gossamerlaw01_alive.calls 33 true _ alive_n).mono ?_
  rintro e w1 ⟨rfl, ⟨n1, rfl⟩⟩
  go_wp2_with fail
  refine (tmul_nil _ _).mono ?_
  rintro e w2 ⟨rfl, rfl⟩
  go_wp2_with fail
  refine (gf_Sum.calls 1 none 0 [] 0 _ ⟨rfl, by simp, by simp⟩ (Nat.le_refl _) (by decide)).mono ?_
  rintro e w3 ⟨rfl, ⟨n3, rfl⟩⟩
  go_wp2_with fail
  refine (by_calls mulI mul_still 0 _).mono ?_
  rintro e w4 ⟨rfl, hg4, hb4⟩
  go_wp2_with fail
  refine (tmul_calls mulI 0 a0 _ _ hg4).mono ?_
  rintro e w5 ⟨rfl, ⟨n5, rfl⟩⟩
  rw [h0]
  go_wp2_with fail
  refine (by_calls mulI mul_still 1 _).mono ?_
  rintro e w6 ⟨rfl, hg6, hb6⟩
  go_wp2_with fail
  refine (tmul_calls mulI 1 a0 _ _ hg6).mono ?_
  rintro e w7 ⟨rfl, ⟨n7, rfl⟩⟩
  rw [h1]
  go_wp2
  go_ret
  have hb4' : Below w.heap.size w w4 := ⟨hb4.os, hb4.tape, hb4.output, hb4.size, hb4.block⟩
  have hb6' : Below w.heap.size w4 w6 := Below.mono (B := w4.heap.size) ⟨hb6.os, hb6.tape, hb6.output, hb6.size, hb6.block⟩ hb4'.size
  exact ⟨rfl, drawn_below (hb4'.trans hb6') _⟩
end Go.Proofs.Ytocmhmfljbohjaa.Walk
