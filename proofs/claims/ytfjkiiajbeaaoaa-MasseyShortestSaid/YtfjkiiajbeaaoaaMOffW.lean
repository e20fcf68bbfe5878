/- massey.off: what the call comes to. -/
import Derived.WalkKit
import Derived.Test.YtfjkiiajbeaaoaaMV
import Derived.Test.YtfjkiiajbeaaoaaEMul
set_option linter.unusedVariables false
set_option linter.unusedSimpArgs false
namespace Go.Proofs.Ytfjkiiajbeaaoaa.MW
open Go.RowKit Go.Proofs.YtfjkiiajbeaaoaaW.PrintWords Go.Proofs.YtfjkiiajbeaaoaaW.PrintLast Go.Proofs.YtfjkiiajbeaaoaaW.PrintMore Go.Proofs.Ytfjkiiajbeaaoaa.Bits Go.Proofs.Ytfjkiiajbeaaoaa GF PolyT MV
theorem act_step (c s : List F) (at_ j : Nat) (h : j ≤ at_) : act (c.take (j + 1)) (co s) at_ = act (c.take j) (co s) at_ ^^^ mul (co c j) (co s (at_ - j)) := by
  rw [act_take_succ]
  show _ ^^^ mul (co c j) (shn j (co s) at_) = _
  unfold shn; rw [if_pos h]
set_option maxRecDepth 100000 in
set_option maxHeartbeats 400000 in
theorem off_calls (c s : List F) (A0 A1 : Option Addr) (c0 c1 : Nat) (at_ : Nat) (w : World) (h0 : Kd.C (Kd.int .u32) w A0 (V c).length (V c)) (hc0 : c.length ≤ c0) (h1 : Kd.C (Kd.int .u32) w A1 (V s).length (V s)) (hc1 : s.length ≤ c1) (ha : at_ < s.length) (hs : s.length < 1000000) (hcl : c.length < 1000000) :
    Calls Try.prog 22 #[.slice A0 c.length c0, .slice A1 s.length c1, .int .i64 at_] w fun e w' => e = .returned (.int .u32 (v (act c (co s) at_))) ∧ w = w' := by
  have hw : IntKind.i64.wrap ((at_ : Int) + 1) = (at_ : Int) + 1 := IntWalk.i64_in _ (by omega)
  obtain ⟨m, hm, h2, h3, h4⟩ : ∃ m : Nat, (if (at_ : Int) + 1 < (c.length : Int) then (at_ : Int) + 1 else (c.length : Int)) = (m : Int) ∧ m ≤ c.length ∧ m ≤ at_ + 1 ∧ (m = c.length ∨ m = at_ + 1) := by
    by_cases h : (at_ : Int) + 1 < (c.length : Int)
    · exact ⟨at_ + 1, by rw [if_pos h]; omega, by omega, by omega, .inr rfl⟩
    · exact ⟨c.length, by rw [if_neg h], by omega, by omega, .inl rfl⟩
  have hf : act (c.take m) (co s) at_ = act c (co s) at_ := by
    rcases h4 with h | h
    · rw [h, List.take_length]
    · rw [h, act_take _ _ _ _ (by omega)]
  have hfA := Aside0.mk hf
  have g0 : (0 : Int) ≤ (m : Int) := by omega
  have g1 : (m : Int) ≤ (c0 : Int) := by omega
  have g2 : (m : Int) ≤ (c.length : Int) := by omega
  clear h4 hf
  go_enter Try.func22, Try.ntmps22
  go_wp2_with fail
  clear hm hw g1
  go_loopw [18, 7] (fun i o wr => ∃ j : Nat, j ≤ m ∧ i = .int .i64 j ∧ o = .int .u32 (v (act (c.take j) (co s) at_)) ∧ w = wr) (fun i _ _ => m - (intOf i).toNat)
  case atStart => exact ⟨0, by omega, by simp, by rw [List.take_zero]; rfl, rfl⟩
  case round =>
    obtain ⟨j, hj, rfl, rfl, rfl⟩ := hrel
    by_cases hlt : j < m
    · have p0 : (0 : Int) ≤ (j : Int) := by omega
      have p1 : (j : Int) < (m : Int) := by omega
      have hw3 : IntKind.i64.wrap ((at_ : Int) - (j : Int)) = ((at_ - j : Nat) : Int) := by rw [IntWalk.i64_in _ (by omega)]; omega
      have hw4 : IntKind.i64.wrap ((j : Int) + 1) = (j : Int) + 1 := IntWalk.i64_in _ (by omega)
      have p2 : ((at_ - j : Nat) : Int) < (s.length : Int) := by omega
      have p3 : (0 : Int) ≤ ((at_ - j : Nat) : Int) := by omega
      obtain ⟨ad, e0, hx0⟩ := Kd.at_int h0 (j : Int) p0 (by rw [V_length]; omega)
      obtain ⟨ae, e1, hx1⟩ := Kd.at_int h1 ((at_ - j : Nat) : Int) p3 (by rw [V_length]; omega)
      subst e0 e1
      rw [rd_Vn, Int.toNat_natCast] at hx0 hx1
      have hst := Aside0.mk (act_step c s at_ j (by omega))
      obtain ⟨x, hx⟩ : ∃ x, x = act (c.take j) (co s) at_ := ⟨_, rfl⟩
      obtain ⟨y, hy⟩ : ∃ y, y = co c j := ⟨_, rfl⟩
      obtain ⟨z, hz⟩ : ∃ z, z = co s (at_ - j) := ⟨_, rfl⟩
      have hxx := xor_v x (mul y z)
      have hmu := EMul.mulI_v y z
      have hst2 := hst.out
      rw [← hx, ← hy, ← hz] at hst2
      rw [← hx]
      rw [← hy] at hx0
      rw [← hz] at hx1
      replace hst2 := Aside0.mk hst2
      obtain ⟨n, hn⟩ : ∃ n : Nat, n = at_ - j := ⟨_, rfl⟩
      rw [← hn] at p2 p3 hx1 hw3
      have hmc := EMul.mul_calls (v y) (v z) w
      rw [hmu] at hmc
      clear hx hy hz hst hmu hn
      go_wp2_with (go_at_call 28; with_reducible refine hmc.mono ?_; rintro e w' ⟨rfl, rfl⟩)
      go_roundw
      case rel => exact ⟨j + 1, by omega, by go_num, by rw [hst2.out], trivial⟩
      case measure => simp [intOf]; omega
    · obtain rfl : j = m := by omega
      rw [hfA.out]
      go_wp2
      go_ret
      exact ⟨rfl, rfl⟩
end Go.Proofs.Ytfjkiiajbeaaoaa.MW
