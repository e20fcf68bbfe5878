/- A round of SipHash, as the program does it: what the calls come to. -/
import Derived.WalkKit
import Derived.StillTailTactics
import Derived.Deep.QuietTactic
import Derived.BigQuiet
import Derived.RangeFuncBox
import Derived.Test.YtecdfejhidnedaaProg
import Derived.Test.YtecdfejhidnedaaWMore
import Derived.Test.YtecdfejhidnedaaSipM
set_option linter.unusedVariables false
set_option linter.unusedSimpArgs false
namespace Go.Proofs.Ytecdfejhidnedaa.Sip
open Go.RowKit Go.Proofs.YtecdfejhidnedaaW.PrintWords Go.Proofs.Ytecdfejhidnedaa Go.Proofs.Ytecdfejhidnedaa.Bits
theorem and63 : ∀ n : Nat, n < 64 → Go.bits .and .u64 (n : Int) 63 = n := by decide +kernel
set_option maxRecDepth 100000 in
set_option maxHeartbeats 1000000 in
theorem rot_calls (x : W) (n : Nat) (h : n < 64) (w : World) : Calls Try.prog 25 #[.int .u64 (q x), .int .i64 n] w fun e w' => e = .returned (.int .u64 (q (rotl x n))) ∧ w' = w := by
  have ha := and63 n h
  have hw : IntKind.u64.wrap (n : Int) = n := by rw [wrap_u64]; omega
  have hs : IntKind.u64.wrap (64 - (n : Int)) = ((64 - n : Nat) : Int) := by rw [wrap_u64]; omega
  have h0 : (n : Int) < 64 := by omega
  have hr := Aside0.mk (rot_q x n h)
  go_enter Try.func25, Try.ntmps25
  go_wp2
  go_ret
  refine ⟨?_, rfl⟩
  rw [← hr.out]; rfl
set_option maxRecDepth 100000 in
set_option maxHeartbeats 1000000 in
theorem turn_calls (x : W) (n : Nat) (h : n < 64) (w : World) : Calls Try.prog 26 #[.int .u64 (q x), .int .u64 n] w fun e w' => e = .returned (.int .u64 (q (rotl x n))) ∧ w' = w := by
  have hs : IntKind.u64.wrap (64 - (n : Int)) = ((64 - n : Nat) : Int) := by rw [wrap_u64]; omega
  have h0 : (n : Int) < 64 := by omega
  have hr := Aside0.mk (rot_q x n h)
  go_enter Try.func26, Try.ntmps26
  go_wp2
  go_ret
  refine ⟨?_, rfl⟩
  rw [← hr.out]; rfl
/-- the block of a state -/
def S51 (W : World) (B : Nat) (s : St) : Prop := W.heap[B]? = some (.cells #[.int .u64 (q s.v0), .int .u64 (q s.v1), .int .u64 (q s.v2), .int .u64 (q s.v3)] 51 (0, 0))
/-- a step writes the block B alone, and draws -/
def Step (B : Nat) (W W' : World) : Prop := W.grownBy W' (some B) ∧ W'.heap.size = W.heap.size
theorem Step.refl (B : Nat) (W : World) : Step B W W := ⟨World.grownBy.refl _ _, rfl⟩
theorem Step.trans {B : Nat} {W1 W2 W3 : World} (h : Step B W1 W2) (k : Step B W2 W3) : Step B W1 W3 := ⟨World.grownBy.trans h.1 k.1, k.2.trans h.2⟩
theorem Step.drew (B : Nat) (W : World) : Step B W W.drew := ⟨⟨rfl, rfl, rfl, Nat.le_refl _, fun _ _ _ => rfl⟩, rfl⟩
theorem Step.drewN (B : Nat) (W : World) (n : Nat) : Step B W (W.drewN n) := ⟨⟨rfl, rfl, rfl, Nat.le_refl _, fun _ _ _ => rfl⟩, rfl⟩
theorem Step.set (B i : Nat) (W : World) (u : Value) : Step B W (W.setCell ⟨B, i, none⟩ u) :=
  ⟨⟨rfl, rfl, rfl, by simp [World.setCell], fun k hk hne => Below.heap_setCell W ⟨B, i, none⟩ u k (fun e => hne (by rw [e]))⟩, by simp [World.setCell]⟩
section
variable {W : World} {B : Nat} {s : St}
theorem S51.c0 (h : S51 W B s) : W.cell? ⟨B, 0, none⟩ = some (.int .u64 (q s.v0)) := by rw [blk_cell h]; rfl
theorem S51.c1 (h : S51 W B s) : W.cell? ⟨B, 1, none⟩ = some (.int .u64 (q s.v1)) := by rw [blk_cell h]; rfl
theorem S51.c2 (h : S51 W B s) : W.cell? ⟨B, 2, none⟩ = some (.int .u64 (q s.v2)) := by rw [blk_cell h]; rfl
theorem S51.c3 (h : S51 W B s) : W.cell? ⟨B, 3, none⟩ = some (.int .u64 (q s.v3)) := by rw [blk_cell h]; rfl
theorem S51.fz (h : S51 W B s) (i : Nat) : W.frozen? ⟨B, i, none⟩ = false := blk_frozen h i
theorem S51.p0 (h : S51 W B s) (x : Sip.W) : S51 (W.setCell ⟨B, 0, none⟩ (.int .u64 (q x))) B { s with v0 := x } := blk_set h 0 _
theorem S51.p1 (h : S51 W B s) (x : Sip.W) : S51 (W.setCell ⟨B, 1, none⟩ (.int .u64 (q x))) B { s with v1 := x } := blk_set h 1 _
theorem S51.p2 (h : S51 W B s) (x : Sip.W) : S51 (W.setCell ⟨B, 2, none⟩ (.int .u64 (q x))) B { s with v2 := x } := blk_set h 2 _
theorem S51.p3 (h : S51 W B s) (x : Sip.W) : S51 (W.setCell ⟨B, 3, none⟩ (.int .u64 (q x))) B { s with v3 := x } := blk_set h 3 _
end
theorem rot_at (x : W) (n : Nat) (k : Int) (hk : k = n) (h : n < 64) (w : World) : Calls Try.prog 25 #[.int .u64 (q x), .int .i64 k] w fun e w' => e = .returned (.int .u64 (q (rotl x n))) ∧ w' = w := by subst hk; exact rot_calls x n h w
theorem rot_w (x : W) (n : Nat) (k : Int) (hk : k = n) (h : n < 64) (w : World) : Calls Try.prog 25 #[.int .u64 (q x), .int .i64 k] w fun e w' => e = .returned (.int .u64 (q (rotl x n))) ∧ w = w' := (rot_at x n k hk h w).mono fun _ _ ⟨a, b⟩ => ⟨a, b.symm⟩
theorem S51.drew {W : World} {B : Nat} {s : St} (h : S51 W B s) : S51 W.drew B s := h
set_option maxRecDepth 100000 in
set_option maxHeartbeats 8000000 in
theorem round_calls (B : Nat) (s0 : St) (W0 : World) (h0 : S51 W0 B s0) : Calls Try.prog 21 #[.pointer (some ⟨B, 0, none⟩)] W0 fun e w' => (∃ v, e = .returned v) ∧ S51 w' B s0.round ∧ Step B W0 w' := by
  have hS0 := Step.refl B W0
  go_enter Try.func21, Try.ntmps21
  go_wp2_with fail
  have g0 := h0.drew
  have k0 : Step B W0 W0.drew := hS0.trans (Step.drew B _)
  have c0 := h0.c0; have c1 := h0.c1; have c2 := h0.c2; have c3 := h0.c3; have fz := h0.fz 0
  have ev := add_q s0.v0 s0.v1
  go_still_tail 11, (by kernel_rfl)
  change wpList _ _ _ _ _ W0.drew
  clear c0 c1 c2 c3 fz h0 hS0
  generalize W0.drew = V0 at *
  have c0 := g0.c0; have c1 := g0.c1; have c2 := g0.c2; have c3 := g0.c3; have fz := g0.fz 0
  go_wp2_with fail
  clear c0 c1 c2 c3 fz ev
  have h1 : S51 (V0.setCell ⟨B, 0, none⟩ (.int .u64 (q (s0.v0 + s0.v1)))) B s0.s1 := g0.p0 _
  have hS1 : Step B W0 (V0.setCell ⟨B, 0, none⟩ (.int .u64 (q (s0.v0 + s0.v1)))) := k0.trans (Step.set B 0 _ _)
  clear g0 k0
  obtain ⟨W1, hW⟩ : ∃ W', W' = V0.setCell ⟨B, 0, none⟩ (.int .u64 (q (s0.v0 + s0.v1))) := ⟨_, rfl⟩
  rw [← hW] at h1 hS1 ⊢
  clear hW
  obtain ⟨s1, hs1⟩ : ∃ s', s' = s0.s1 := ⟨_, rfl⟩
  rw [← hs1] at h1
  replace hs1 := Aside0.mk hs1
  have g1 := h1.drew
  have k1 : Step B W0 W1.drew := hS1.trans (Step.drew B _)
  have c0 := h1.c0; have c1 := h1.c1; have c2 := h1.c2; have c3 := h1.c3; have fz := h1.fz 1
  have ev := xor_q (rotl s1.v1 13) s1.v0
  go_still_tail 13, (by kernel_rfl)
  still_call (rot_at s1.v1 13 13 rfl (by decide) _)
  repeat still_step
  refine wpStill_nil ?_
  change wpList _ _ _ _ _ W1.drew
  clear c0 c1 c2 c3 fz h1 hS1
  generalize W1.drew = V1 at *
  have c0 := g1.c0; have c1 := g1.c1; have c2 := g1.c2; have c3 := g1.c3; have fz := g1.fz 1
  go_wp2_with fail
  clear c0 c1 c2 c3 fz ev
  have h2 : S51 (V1.setCell ⟨B, 1, none⟩ (.int .u64 (q (rotl s1.v1 13 ^^^ s1.v0)))) B s1.s2 := g1.p1 _
  have hS2 : Step B W0 (V1.setCell ⟨B, 1, none⟩ (.int .u64 (q (rotl s1.v1 13 ^^^ s1.v0)))) := k1.trans (Step.set B 1 _ _)
  clear g1 k1
  obtain ⟨W2, hW⟩ : ∃ W', W' = V1.setCell ⟨B, 1, none⟩ (.int .u64 (q (rotl s1.v1 13 ^^^ s1.v0))) := ⟨_, rfl⟩
  rw [← hW] at h2 hS2 ⊢
  clear hW
  have c0 := h2.c0; have fz := h2.fz 0
  refine (rot_w s1.v0 32 32 rfl (by decide) _).mono ?_
  rintro e w' ⟨rfl, rfl⟩
  go_wp2_with fail
  clear c0 fz
  have h3 : S51 (W2.setCell ⟨B, 0, none⟩ (.int .u64 (q (rotl s1.v0 32)))) B s1.s2.s3 := h2.p0 _
  have hS3 : Step B W0 (W2.setCell ⟨B, 0, none⟩ (.int .u64 (q (rotl s1.v0 32)))) := hS2.trans (Step.set B 0 _ _)
  clear h2 hS2
  obtain ⟨W3, hW⟩ : ∃ W', W' = W2.setCell ⟨B, 0, none⟩ (.int .u64 (q (rotl s1.v0 32))) := ⟨_, rfl⟩
  rw [← hW] at h3 hS3 ⊢
  clear hW
  obtain ⟨s3, hs3⟩ : ∃ s', s' = s1.s2.s3 := ⟨_, rfl⟩
  rw [← hs3] at h3
  replace hs3 := Aside0.mk hs3
  have g3 := h3.drew
  have k3 : Step B W0 W3.drew := hS3.trans (Step.drew B _)
  have c0 := h3.c0; have c1 := h3.c1; have c2 := h3.c2; have c3 := h3.c3; have fz := h3.fz 2
  have ev := add_q s3.v2 s3.v3
  go_still_tail 11, (by kernel_rfl)
  change wpList _ _ _ _ _ W3.drew
  clear c0 c1 c2 c3 fz h3 hS3
  generalize W3.drew = V3 at *
  have c0 := g3.c0; have c1 := g3.c1; have c2 := g3.c2; have c3 := g3.c3; have fz := g3.fz 2
  go_wp2_with fail
  clear c0 c1 c2 c3 fz ev
  have h4 : S51 (V3.setCell ⟨B, 2, none⟩ (.int .u64 (q (s3.v2 + s3.v3)))) B s3.s4 := g3.p2 _
  have hS4 : Step B W0 (V3.setCell ⟨B, 2, none⟩ (.int .u64 (q (s3.v2 + s3.v3)))) := k3.trans (Step.set B 2 _ _)
  clear g3 k3
  obtain ⟨W4, hW⟩ : ∃ W', W' = V3.setCell ⟨B, 2, none⟩ (.int .u64 (q (s3.v2 + s3.v3))) := ⟨_, rfl⟩
  rw [← hW] at h4 hS4 ⊢
  clear hW
  obtain ⟨s4, hs4⟩ : ∃ s', s' = s3.s4 := ⟨_, rfl⟩
  rw [← hs4] at h4
  replace hs4 := Aside0.mk hs4
  have g4 := h4.drew
  have k4 : Step B W0 W4.drew := hS4.trans (Step.drew B _)
  have c0 := h4.c0; have c1 := h4.c1; have c2 := h4.c2; have c3 := h4.c3; have fz := h4.fz 3
  have ev := xor_q (rotl s4.v3 16) s4.v2
  go_still_tail 13, (by kernel_rfl)
  still_call (rot_at s4.v3 16 16 rfl (by decide) _)
  repeat still_step
  refine wpStill_nil ?_
  change wpList _ _ _ _ _ W4.drew
  clear c0 c1 c2 c3 fz h4 hS4
  generalize W4.drew = V4 at *
  have c0 := g4.c0; have c1 := g4.c1; have c2 := g4.c2; have c3 := g4.c3; have fz := g4.fz 3
  go_wp2_with fail
  clear c0 c1 c2 c3 fz ev
  have h5 : S51 (V4.setCell ⟨B, 3, none⟩ (.int .u64 (q (rotl s4.v3 16 ^^^ s4.v2)))) B s4.s5 := g4.p3 _
  have hS5 : Step B W0 (V4.setCell ⟨B, 3, none⟩ (.int .u64 (q (rotl s4.v3 16 ^^^ s4.v2)))) := k4.trans (Step.set B 3 _ _)
  clear g4 k4
  obtain ⟨W5, hW⟩ : ∃ W', W' = V4.setCell ⟨B, 3, none⟩ (.int .u64 (q (rotl s4.v3 16 ^^^ s4.v2))) := ⟨_, rfl⟩
  rw [← hW] at h5 hS5 ⊢
  clear hW
  obtain ⟨s5, hs5⟩ : ∃ s', s' = s4.s5 := ⟨_, rfl⟩
  rw [← hs5] at h5
  replace hs5 := Aside0.mk hs5
  have g5 := h5.drew
  have k5 : Step B W0 W5.drew := hS5.trans (Step.drew B _)
  have c0 := h5.c0; have c1 := h5.c1; have c2 := h5.c2; have c3 := h5.c3; have fz := h5.fz 0
  have ev := add_q s5.v0 s5.v3
  go_still_tail 11, (by kernel_rfl)
  change wpList _ _ _ _ _ W5.drew
  clear c0 c1 c2 c3 fz h5 hS5
  generalize W5.drew = V5 at *
  have c0 := g5.c0; have c1 := g5.c1; have c2 := g5.c2; have c3 := g5.c3; have fz := g5.fz 0
  go_wp2_with fail
  clear c0 c1 c2 c3 fz ev
  have h6 : S51 (V5.setCell ⟨B, 0, none⟩ (.int .u64 (q (s5.v0 + s5.v3)))) B s5.s6 := g5.p0 _
  have hS6 : Step B W0 (V5.setCell ⟨B, 0, none⟩ (.int .u64 (q (s5.v0 + s5.v3)))) := k5.trans (Step.set B 0 _ _)
  clear g5 k5
  obtain ⟨W6, hW⟩ : ∃ W', W' = V5.setCell ⟨B, 0, none⟩ (.int .u64 (q (s5.v0 + s5.v3))) := ⟨_, rfl⟩
  rw [← hW] at h6 hS6 ⊢
  clear hW
  obtain ⟨s6, hs6⟩ : ∃ s', s' = s5.s6 := ⟨_, rfl⟩
  rw [← hs6] at h6
  replace hs6 := Aside0.mk hs6
  have g6 := h6.drew
  have k6 : Step B W0 W6.drew := hS6.trans (Step.drew B _)
  have c0 := h6.c0; have c1 := h6.c1; have c2 := h6.c2; have c3 := h6.c3; have fz := h6.fz 3
  have ev := xor_q (rotl s6.v3 21) s6.v0
  go_still_tail 13, (by kernel_rfl)
  still_call (rot_at s6.v3 21 21 rfl (by decide) _)
  repeat still_step
  refine wpStill_nil ?_
  change wpList _ _ _ _ _ W6.drew
  clear c0 c1 c2 c3 fz h6 hS6
  generalize W6.drew = V6 at *
  have c0 := g6.c0; have c1 := g6.c1; have c2 := g6.c2; have c3 := g6.c3; have fz := g6.fz 3
  go_wp2_with fail
  clear c0 c1 c2 c3 fz ev
  have h7 : S51 (V6.setCell ⟨B, 3, none⟩ (.int .u64 (q (rotl s6.v3 21 ^^^ s6.v0)))) B s6.s7 := g6.p3 _
  have hS7 : Step B W0 (V6.setCell ⟨B, 3, none⟩ (.int .u64 (q (rotl s6.v3 21 ^^^ s6.v0)))) := k6.trans (Step.set B 3 _ _)
  clear g6 k6
  obtain ⟨W7, hW⟩ : ∃ W', W' = V6.setCell ⟨B, 3, none⟩ (.int .u64 (q (rotl s6.v3 21 ^^^ s6.v0))) := ⟨_, rfl⟩
  rw [← hW] at h7 hS7 ⊢
  clear hW
  obtain ⟨s7, hs7⟩ : ∃ s', s' = s6.s7 := ⟨_, rfl⟩
  rw [← hs7] at h7
  replace hs7 := Aside0.mk hs7
  have g7 := h7.drew
  have k7 : Step B W0 W7.drew := hS7.trans (Step.drew B _)
  have c0 := h7.c0; have c1 := h7.c1; have c2 := h7.c2; have c3 := h7.c3; have fz := h7.fz 2
  have ev := add_q s7.v2 s7.v1
  go_still_tail 11, (by kernel_rfl)
  change wpList _ _ _ _ _ W7.drew
  clear c0 c1 c2 c3 fz h7 hS7
  generalize W7.drew = V7 at *
  have c0 := g7.c0; have c1 := g7.c1; have c2 := g7.c2; have c3 := g7.c3; have fz := g7.fz 2
  go_wp2_with fail
  clear c0 c1 c2 c3 fz ev
  have h8 : S51 (V7.setCell ⟨B, 2, none⟩ (.int .u64 (q (s7.v2 + s7.v1)))) B s7.s8 := g7.p2 _
  have hS8 : Step B W0 (V7.setCell ⟨B, 2, none⟩ (.int .u64 (q (s7.v2 + s7.v1)))) := k7.trans (Step.set B 2 _ _)
  clear g7 k7
  obtain ⟨W8, hW⟩ : ∃ W', W' = V7.setCell ⟨B, 2, none⟩ (.int .u64 (q (s7.v2 + s7.v1))) := ⟨_, rfl⟩
  rw [← hW] at h8 hS8 ⊢
  clear hW
  obtain ⟨s8, hs8⟩ : ∃ s', s' = s7.s8 := ⟨_, rfl⟩
  rw [← hs8] at h8
  replace hs8 := Aside0.mk hs8
  have g8 := h8.drew
  have k8 : Step B W0 W8.drew := hS8.trans (Step.drew B _)
  have c0 := h8.c0; have c1 := h8.c1; have c2 := h8.c2; have c3 := h8.c3; have fz := h8.fz 1
  have ev := xor_q (rotl s8.v1 17) s8.v2
  go_still_tail 13, (by kernel_rfl)
  still_call (rot_at s8.v1 17 17 rfl (by decide) _)
  repeat still_step
  refine wpStill_nil ?_
  change wpList _ _ _ _ _ W8.drew
  clear c0 c1 c2 c3 fz h8 hS8
  generalize W8.drew = V8 at *
  have c0 := g8.c0; have c1 := g8.c1; have c2 := g8.c2; have c3 := g8.c3; have fz := g8.fz 1
  go_wp2_with fail
  clear c0 c1 c2 c3 fz ev
  have h9 : S51 (V8.setCell ⟨B, 1, none⟩ (.int .u64 (q (rotl s8.v1 17 ^^^ s8.v2)))) B s8.s9 := g8.p1 _
  have hS9 : Step B W0 (V8.setCell ⟨B, 1, none⟩ (.int .u64 (q (rotl s8.v1 17 ^^^ s8.v2)))) := k8.trans (Step.set B 1 _ _)
  clear g8 k8
  obtain ⟨W9, hW⟩ : ∃ W', W' = V8.setCell ⟨B, 1, none⟩ (.int .u64 (q (rotl s8.v1 17 ^^^ s8.v2))) := ⟨_, rfl⟩
  rw [← hW] at h9 hS9 ⊢
  clear hW
  have c2 := h9.c2; have fz := h9.fz 2
  refine (rot_w s8.v2 32 32 rfl (by decide) _).mono ?_
  rintro e w' ⟨rfl, rfl⟩
  go_wp2_with fail
  clear c2 fz
  have h10 : S51 (W9.setCell ⟨B, 2, none⟩ (.int .u64 (q (rotl s8.v2 32)))) B s8.s9.s10 := h9.p2 _
  have hS10 : Step B W0 (W9.setCell ⟨B, 2, none⟩ (.int .u64 (q (rotl s8.v2 32)))) := hS9.trans (Step.set B 2 _ _)
  have hs10 : s8.s9.s10 = s0.round := by
    rw [hs8.out, hs7.out, hs6.out, hs5.out, hs4.out, hs3.out, hs1.out]; rfl
  rw [hs10] at h10
  go_end0
  exact ⟨⟨_, rfl⟩, h10, hS10⟩
end Go.Proofs.Ytecdfejhidnedaa.Sip
