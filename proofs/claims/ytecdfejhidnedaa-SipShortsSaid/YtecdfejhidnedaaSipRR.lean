/- The document's rounds: what the call comes to. -/
import Derived.Test.YtecdfejhidnedaaSipR
set_option linter.unusedVariables false
set_option linter.unusedSimpArgs false
namespace Go.Proofs.Ytecdfejhidnedaa.Sip
open Go.RowKit Go.Proofs.YtecdfejhidnedaaW.PrintWords Go.Proofs.Ytecdfejhidnedaa Go.Proofs.Ytecdfejhidnedaa.Bits
/-- the block of a state -/
def S58 (W : World) (B : Nat) (s : St) : Prop := W.heap[B]? = some (.cells #[.int .u64 (q s.v0), .int .u64 (q s.v1), .int .u64 (q s.v2), .int .u64 (q s.v3)] 58 (0, 0))
section
variable {W : World} {B : Nat} {s : St}
theorem S58.c0 (h : S58 W B s) : W.cell? ⟨B, 0, none⟩ = some (.int .u64 (q s.v0)) := by rw [blk_cell h]; rfl
theorem S58.c1 (h : S58 W B s) : W.cell? ⟨B, 1, none⟩ = some (.int .u64 (q s.v1)) := by rw [blk_cell h]; rfl
theorem S58.c2 (h : S58 W B s) : W.cell? ⟨B, 2, none⟩ = some (.int .u64 (q s.v2)) := by rw [blk_cell h]; rfl
theorem S58.c3 (h : S58 W B s) : W.cell? ⟨B, 3, none⟩ = some (.int .u64 (q s.v3)) := by rw [blk_cell h]; rfl
theorem S58.fz (h : S58 W B s) (i : Nat) : W.frozen? ⟨B, i, none⟩ = false := blk_frozen h i
theorem S58.p0 (h : S58 W B s) (x : Sip.W) : S58 (W.setCell ⟨B, 0, none⟩ (.int .u64 (q x))) B { s with v0 := x } := blk_set h 0 _
theorem S58.p1 (h : S58 W B s) (x : Sip.W) : S58 (W.setCell ⟨B, 1, none⟩ (.int .u64 (q x))) B { s with v1 := x } := blk_set h 1 _
theorem S58.p2 (h : S58 W B s) (x : Sip.W) : S58 (W.setCell ⟨B, 2, none⟩ (.int .u64 (q x))) B { s with v2 := x } := blk_set h 2 _
theorem S58.p3 (h : S58 W B s) (x : Sip.W) : S58 (W.setCell ⟨B, 3, none⟩ (.int .u64 (q x))) B { s with v3 := x } := blk_set h 3 _
end

theorem turn_w (x : W) (n : Nat) (k : Int) (hk : k = n) (h : n < 64) (w : World) : Calls Try.prog 26 #[.int .u64 (q x), .int .u64 k] w fun e w' => e = .returned (.int .u64 (q (rotl x n))) ∧ w = w' := by
  subst hk; exact (turn_calls x n h w).mono fun _ _ ⟨a, b⟩ => ⟨a, b.symm⟩
theorem zv4 (w : World) : (zeroValue 58).run Try.prog w = .ok (.agg #[.int .u64 0, .int .u64 0, .int .u64 0, .int .u64 0]) w := by kernel_rfl
theorem agg_row (w : World) (B : Nat) (s : St) (h : S58 w B s) : True := trivial
set_option maxRecDepth 100000 in
set_option maxHeartbeats 8000000 in
theorem rounds_calls (s : St) (n : Nat) (hn : n ≤ 1000) (w : World) : Calls Try.prog 22 #[.agg #[.int .u64 (q s.v0), .int .u64 (q s.v1), .int .u64 (q s.v2), .int .u64 (q s.v3)], .int .i64 n] w fun e w' =>
    e = .returned (.agg #[.int .u64 (q (s.rounds n).v0), .int .u64 (q (s.rounds n).v1), .int .u64 (q (s.rounds n).v2), .int .u64 (q (s.rounds n).v3)]) ∧ Below w.heap.size w w' := by
  have hz := zv4
  have hnn := Aside0.mk hn
  go_enter Try.func22, Try.ntmps22
  go_wp2
  clear hz
  have h1 : S58 ((w.alloc (.cells #[.int .u64 (q s.v0), .int .u64 (q s.v1), .int .u64 (q s.v2), .int .u64 (q s.v3)] 58)).alloc (.cells #[.int .u64 0, .int .u64 0, .int .u64 0, .int .u64 0] 58)) w.heap.size s := by
    unfold S58; rw [(below_alloc (Below.refl (w.alloc _).heap.size (w.alloc _)) _).block _ (by simp)]; exact World.alloc_heap_new w _
  have h2 : ((w.alloc (.cells #[.int .u64 (q s.v0), .int .u64 (q s.v1), .int .u64 (q s.v2), .int .u64 (q s.v3)] 58)).alloc (.cells #[.int .u64 0, .int .u64 0, .int .u64 0, .int .u64 0] 58)).heap[w.heap.size + 1]? = some (.cells #[.int .u64 0, .int .u64 0, .int .u64 0, .int .u64 0] 58 (0, 0)) := by
    have := World.alloc_heap_new (w.alloc (.cells #[.int .u64 (q s.v0), .int .u64 (q s.v1), .int .u64 (q s.v2), .int .u64 (q s.v3)] 58)) (.cells #[.int .u64 0, .int .u64 0, .int .u64 0, .int .u64 0] 58)
    rwa [World.size_alloc] at this
  go_loopw [5] (fun i wr => ∃ k : Nat, k ≤ n ∧ i = .int .i64 k ∧ S58 wr w.heap.size (s.rounds k) ∧ wr.heap[w.heap.size + 1]? = some (.cells #[.int .u64 0, .int .u64 0, .int .u64 0, .int .u64 0] 58 (0, 0)) ∧ Below w.heap.size w wr) (fun i _ => n - (intOf i).toNat)
  case atStart => exact ⟨0, Nat.zero_le _, by simp, h1, h2, ((Below.refl _ w).alloc (Nat.le_refl _) _).alloc (by simp) _⟩
  case round =>
    obtain ⟨k, hk, rfl, h, hR, hB⟩ := hrel
    obtain ⟨u0, hu0⟩ : ∃ u, u = s.rounds k := ⟨_, rfl⟩
    rw [← hu0] at h
    replace hu0 := Aside0.mk hu0
    by_cases hlt : k < n
    · have hd : decide ((k : Int) < (n : Int)) = true := decide_eq_true (by omega)
      have hkn : (k : Int) < (n : Int) := by omega
      have hn4 : (n : Int) ≤ 1000 := by have := hnn.out; omega
      have hne : w.heap.size + 1 ≠ w.heap.size := by omega
      replace hne := Aside0.mk hne
      replace hR := Aside0.mk hR
      obtain ⟨W0, hW0⟩ : ∃ W0, W0 = wr := ⟨_, rfl⟩
      subst hW0
      have c0 := h.c0; have c1 := h.c1; have c2 := h.c2; have c3 := h.c3; have fz := h.fz
      have f0 := fz 0; have f1 := fz 1; have f2 := fz 2; have f3 := fz 3; clear fz
      have e0 := add_q u0.v0 u0.v1
      go_wp2_with fail
      clear c0 c1 c2 c3 f0 f1 f2 f3 e0
      have h' : S58 (W0.setCell ⟨w.heap.size, 0, none⟩ (.int .u64 (q (u0.v0 + u0.v1)))) w.heap.size u0.s1 := (h.p0 _)
      have hR' : (W0.setCell ⟨w.heap.size, 0, none⟩ (.int .u64 (q (u0.v0 + u0.v1)))).heap[w.heap.size + 1]? = some (.cells #[.int .u64 0, .int .u64 0, .int .u64 0, .int .u64 0] 58 (0, 0)) := (blk_far hR.out (p := ⟨w.heap.size, 0, none⟩) hne.out _)
      have hB' : Below w.heap.size w (W0.setCell ⟨w.heap.size, 0, none⟩ (.int .u64 (q (u0.v0 + u0.v1)))) := (hB.setCell (p := ⟨w.heap.size, 0, none⟩) (Nat.le_refl _) _)
      obtain ⟨W1, hW⟩ : ∃ W', W' = (W0.setCell ⟨w.heap.size, 0, none⟩ (.int .u64 (q (u0.v0 + u0.v1)))) := ⟨_, rfl⟩
      rw [← hW] at h' hR' hB' ⊢
      clear hW h hR hB
      have hR := Aside0.mk hR'
      clear hR'
      have hB := hB'
      clear hB'
      obtain ⟨u1, hu1⟩ : ∃ u, u = u0.s1 := ⟨_, rfl⟩
      rw [← hu1] at h'
      have h := h'
      clear h'
      have ee : u0.v1 = u1.v1 := by rw [hu1]; rfl
      replace hu1 := Aside0.mk hu1
      rw [ee]
      clear ee
      refine (turn_w u1.v1 13 13 rfl (by decide) _).mono ?_
      rintro e w' ⟨rfl, rfl⟩
      have c0 := h.c0; have c1 := h.c1; have c2 := h.c2; have c3 := h.c3; have fz := h.fz
      have f0 := fz 0; have f1 := fz 1; have f2 := fz 2; have f3 := fz 3; clear fz
      have e1 := xor_q (rotl u1.v1 13) u1.v0
      go_wp2_with fail
      clear c0 c1 c2 c3 f0 f1 f2 f3 e1
      have h' : S58 ((W1.setCell ⟨w.heap.size, 1, none⟩ (.int .u64 (q (rotl u1.v1 13)))).setCell ⟨w.heap.size, 1, none⟩ (.int .u64 (q (rotl u1.v1 13 ^^^ u1.v0)))) w.heap.size u1.s2 := ((h.p1 _).p1 _)
      have hR' : ((W1.setCell ⟨w.heap.size, 1, none⟩ (.int .u64 (q (rotl u1.v1 13)))).setCell ⟨w.heap.size, 1, none⟩ (.int .u64 (q (rotl u1.v1 13 ^^^ u1.v0)))).heap[w.heap.size + 1]? = some (.cells #[.int .u64 0, .int .u64 0, .int .u64 0, .int .u64 0] 58 (0, 0)) := (blk_far (blk_far hR.out (p := ⟨w.heap.size, 1, none⟩) hne.out _) (p := ⟨w.heap.size, 1, none⟩) hne.out _)
      have hB' : Below w.heap.size w ((W1.setCell ⟨w.heap.size, 1, none⟩ (.int .u64 (q (rotl u1.v1 13)))).setCell ⟨w.heap.size, 1, none⟩ (.int .u64 (q (rotl u1.v1 13 ^^^ u1.v0)))) := ((hB.setCell (p := ⟨w.heap.size, 1, none⟩) (Nat.le_refl _) _).setCell (p := ⟨w.heap.size, 1, none⟩) (Nat.le_refl _) _)
      obtain ⟨W2, hW⟩ : ∃ W', W' = ((W1.setCell ⟨w.heap.size, 1, none⟩ (.int .u64 (q (rotl u1.v1 13)))).setCell ⟨w.heap.size, 1, none⟩ (.int .u64 (q (rotl u1.v1 13 ^^^ u1.v0)))) := ⟨_, rfl⟩
      rw [← hW] at h' hR' hB' ⊢
      clear hW h hR hB
      have hR := Aside0.mk hR'
      clear hR'
      have hB := hB'
      clear hB'
      obtain ⟨u2, hu2⟩ : ∃ u, u = u1.s2 := ⟨_, rfl⟩
      rw [← hu2] at h'
      have h := h'
      clear h'
      have ee : u1.v0 = u2.v0 := by rw [hu2]; rfl
      replace hu2 := Aside0.mk hu2
      rw [ee]
      clear ee
      refine (turn_w u2.v0 32 32 rfl (by decide) _).mono ?_
      rintro e w' ⟨rfl, rfl⟩
      have c0 := h.c0; have c1 := h.c1; have c2 := h.c2; have c3 := h.c3; have fz := h.fz
      have f0 := fz 0; have f1 := fz 1; have f2 := fz 2; have f3 := fz 3; clear fz
      have e1 := add_q u2.v2 u2.v3
      go_wp2_with fail
      clear c0 c1 c2 c3 f0 f1 f2 f3 e1
      have h' : S58 ((W2.setCell ⟨w.heap.size, 0, none⟩ (.int .u64 (q (rotl u2.v0 32)))).setCell ⟨w.heap.size, 2, none⟩ (.int .u64 (q (u2.v2 + u2.v3)))) w.heap.size u2.s3.s4 := ((h.p0 _).p2 _)
      have hR' : ((W2.setCell ⟨w.heap.size, 0, none⟩ (.int .u64 (q (rotl u2.v0 32)))).setCell ⟨w.heap.size, 2, none⟩ (.int .u64 (q (u2.v2 + u2.v3)))).heap[w.heap.size + 1]? = some (.cells #[.int .u64 0, .int .u64 0, .int .u64 0, .int .u64 0] 58 (0, 0)) := (blk_far (blk_far hR.out (p := ⟨w.heap.size, 0, none⟩) hne.out _) (p := ⟨w.heap.size, 2, none⟩) hne.out _)
      have hB' : Below w.heap.size w ((W2.setCell ⟨w.heap.size, 0, none⟩ (.int .u64 (q (rotl u2.v0 32)))).setCell ⟨w.heap.size, 2, none⟩ (.int .u64 (q (u2.v2 + u2.v3)))) := ((hB.setCell (p := ⟨w.heap.size, 0, none⟩) (Nat.le_refl _) _).setCell (p := ⟨w.heap.size, 2, none⟩) (Nat.le_refl _) _)
      obtain ⟨W3, hW⟩ : ∃ W', W' = ((W2.setCell ⟨w.heap.size, 0, none⟩ (.int .u64 (q (rotl u2.v0 32)))).setCell ⟨w.heap.size, 2, none⟩ (.int .u64 (q (u2.v2 + u2.v3)))) := ⟨_, rfl⟩
      rw [← hW] at h' hR' hB' ⊢
      clear hW h hR hB
      have hR := Aside0.mk hR'
      clear hR'
      have hB := hB'
      clear hB'
      obtain ⟨u3, hu3⟩ : ∃ u, u = u2.s3.s4 := ⟨_, rfl⟩
      rw [← hu3] at h'
      have h := h'
      clear h'
      have ee : u2.v3 = u3.v3 := by rw [hu3]; rfl
      replace hu3 := Aside0.mk hu3
      rw [ee]
      clear ee
      refine (turn_w u3.v3 16 16 rfl (by decide) _).mono ?_
      rintro e w' ⟨rfl, rfl⟩
      have c0 := h.c0; have c1 := h.c1; have c2 := h.c2; have c3 := h.c3; have fz := h.fz
      have f0 := fz 0; have f1 := fz 1; have f2 := fz 2; have f3 := fz 3; clear fz
      have e1 := xor_q (rotl u3.v3 16) u3.v2
      have e2 := add_q u3.v0 (rotl u3.v3 16 ^^^ u3.v2)
      go_wp2_with fail
      clear c0 c1 c2 c3 f0 f1 f2 f3 e1 e2
      have h' : S58 (((W3.setCell ⟨w.heap.size, 3, none⟩ (.int .u64 (q (rotl u3.v3 16)))).setCell ⟨w.heap.size, 3, none⟩ (.int .u64 (q (rotl u3.v3 16 ^^^ u3.v2)))).setCell ⟨w.heap.size, 0, none⟩ (.int .u64 (q (u3.v0 + (rotl u3.v3 16 ^^^ u3.v2))))) w.heap.size u3.s5.s6 := (((h.p3 _).p3 _).p0 _)
      have hR' : (((W3.setCell ⟨w.heap.size, 3, none⟩ (.int .u64 (q (rotl u3.v3 16)))).setCell ⟨w.heap.size, 3, none⟩ (.int .u64 (q (rotl u3.v3 16 ^^^ u3.v2)))).setCell ⟨w.heap.size, 0, none⟩ (.int .u64 (q (u3.v0 + (rotl u3.v3 16 ^^^ u3.v2))))).heap[w.heap.size + 1]? = some (.cells #[.int .u64 0, .int .u64 0, .int .u64 0, .int .u64 0] 58 (0, 0)) := (blk_far (blk_far (blk_far hR.out (p := ⟨w.heap.size, 3, none⟩) hne.out _) (p := ⟨w.heap.size, 3, none⟩) hne.out _) (p := ⟨w.heap.size, 0, none⟩) hne.out _)
      have hB' : Below w.heap.size w (((W3.setCell ⟨w.heap.size, 3, none⟩ (.int .u64 (q (rotl u3.v3 16)))).setCell ⟨w.heap.size, 3, none⟩ (.int .u64 (q (rotl u3.v3 16 ^^^ u3.v2)))).setCell ⟨w.heap.size, 0, none⟩ (.int .u64 (q (u3.v0 + (rotl u3.v3 16 ^^^ u3.v2))))) := (((hB.setCell (p := ⟨w.heap.size, 3, none⟩) (Nat.le_refl _) _).setCell (p := ⟨w.heap.size, 3, none⟩) (Nat.le_refl _) _).setCell (p := ⟨w.heap.size, 0, none⟩) (Nat.le_refl _) _)
      obtain ⟨W4, hW⟩ : ∃ W', W' = (((W3.setCell ⟨w.heap.size, 3, none⟩ (.int .u64 (q (rotl u3.v3 16)))).setCell ⟨w.heap.size, 3, none⟩ (.int .u64 (q (rotl u3.v3 16 ^^^ u3.v2)))).setCell ⟨w.heap.size, 0, none⟩ (.int .u64 (q (u3.v0 + (rotl u3.v3 16 ^^^ u3.v2))))) := ⟨_, rfl⟩
      rw [← hW] at h' hR' hB' ⊢
      clear hW h hR hB
      have hR := Aside0.mk hR'
      clear hR'
      have hB := hB'
      clear hB'
      obtain ⟨u4, hu4⟩ : ∃ u, u = u3.s5.s6 := ⟨_, rfl⟩
      rw [← hu4] at h'
      have h := h'
      clear h'
      have ee : rotl u3.v3 16 ^^^ u3.v2 = u4.v3 := by rw [hu4]; rfl
      replace hu4 := Aside0.mk hu4
      rw [ee]
      clear ee
      refine (turn_w u4.v3 21 21 rfl (by decide) _).mono ?_
      rintro e w' ⟨rfl, rfl⟩
      have c0 := h.c0; have c1 := h.c1; have c2 := h.c2; have c3 := h.c3; have fz := h.fz
      have f0 := fz 0; have f1 := fz 1; have f2 := fz 2; have f3 := fz 3; clear fz
      have e1 := xor_q (rotl u4.v3 21) u4.v0
      have e2 := add_q u4.v2 u4.v1
      go_wp2_with fail
      clear c0 c1 c2 c3 f0 f1 f2 f3 e1 e2
      have h' : S58 (((W4.setCell ⟨w.heap.size, 3, none⟩ (.int .u64 (q (rotl u4.v3 21)))).setCell ⟨w.heap.size, 3, none⟩ (.int .u64 (q (rotl u4.v3 21 ^^^ u4.v0)))).setCell ⟨w.heap.size, 2, none⟩ (.int .u64 (q (u4.v2 + u4.v1)))) w.heap.size u4.s7.s8 := (((h.p3 _).p3 _).p2 _)
      have hR' : (((W4.setCell ⟨w.heap.size, 3, none⟩ (.int .u64 (q (rotl u4.v3 21)))).setCell ⟨w.heap.size, 3, none⟩ (.int .u64 (q (rotl u4.v3 21 ^^^ u4.v0)))).setCell ⟨w.heap.size, 2, none⟩ (.int .u64 (q (u4.v2 + u4.v1)))).heap[w.heap.size + 1]? = some (.cells #[.int .u64 0, .int .u64 0, .int .u64 0, .int .u64 0] 58 (0, 0)) := (blk_far (blk_far (blk_far hR.out (p := ⟨w.heap.size, 3, none⟩) hne.out _) (p := ⟨w.heap.size, 3, none⟩) hne.out _) (p := ⟨w.heap.size, 2, none⟩) hne.out _)
      have hB' : Below w.heap.size w (((W4.setCell ⟨w.heap.size, 3, none⟩ (.int .u64 (q (rotl u4.v3 21)))).setCell ⟨w.heap.size, 3, none⟩ (.int .u64 (q (rotl u4.v3 21 ^^^ u4.v0)))).setCell ⟨w.heap.size, 2, none⟩ (.int .u64 (q (u4.v2 + u4.v1)))) := (((hB.setCell (p := ⟨w.heap.size, 3, none⟩) (Nat.le_refl _) _).setCell (p := ⟨w.heap.size, 3, none⟩) (Nat.le_refl _) _).setCell (p := ⟨w.heap.size, 2, none⟩) (Nat.le_refl _) _)
      obtain ⟨W5, hW⟩ : ∃ W', W' = (((W4.setCell ⟨w.heap.size, 3, none⟩ (.int .u64 (q (rotl u4.v3 21)))).setCell ⟨w.heap.size, 3, none⟩ (.int .u64 (q (rotl u4.v3 21 ^^^ u4.v0)))).setCell ⟨w.heap.size, 2, none⟩ (.int .u64 (q (u4.v2 + u4.v1)))) := ⟨_, rfl⟩
      rw [← hW] at h' hR' hB' ⊢
      clear hW h hR hB
      have hR := Aside0.mk hR'
      clear hR'
      have hB := hB'
      clear hB'
      obtain ⟨u5, hu5⟩ : ∃ u, u = u4.s7.s8 := ⟨_, rfl⟩
      rw [← hu5] at h'
      have h := h'
      clear h'
      have ee : u4.v1 = u5.v1 := by rw [hu5]; rfl
      replace hu5 := Aside0.mk hu5
      rw [ee]
      clear ee
      refine (turn_w u5.v1 17 17 rfl (by decide) _).mono ?_
      rintro e w' ⟨rfl, rfl⟩
      have c0 := h.c0; have c1 := h.c1; have c2 := h.c2; have c3 := h.c3; have fz := h.fz
      have f0 := fz 0; have f1 := fz 1; have f2 := fz 2; have f3 := fz 3; clear fz
      have e1 := xor_q (rotl u5.v1 17) u5.v2
      go_wp2_with fail
      clear c0 c1 c2 c3 f0 f1 f2 f3 e1
      have h' : S58 ((W5.setCell ⟨w.heap.size, 1, none⟩ (.int .u64 (q (rotl u5.v1 17)))).setCell ⟨w.heap.size, 1, none⟩ (.int .u64 (q (rotl u5.v1 17 ^^^ u5.v2)))) w.heap.size u5.s9 := ((h.p1 _).p1 _)
      have hR' : ((W5.setCell ⟨w.heap.size, 1, none⟩ (.int .u64 (q (rotl u5.v1 17)))).setCell ⟨w.heap.size, 1, none⟩ (.int .u64 (q (rotl u5.v1 17 ^^^ u5.v2)))).heap[w.heap.size + 1]? = some (.cells #[.int .u64 0, .int .u64 0, .int .u64 0, .int .u64 0] 58 (0, 0)) := (blk_far (blk_far hR.out (p := ⟨w.heap.size, 1, none⟩) hne.out _) (p := ⟨w.heap.size, 1, none⟩) hne.out _)
      have hB' : Below w.heap.size w ((W5.setCell ⟨w.heap.size, 1, none⟩ (.int .u64 (q (rotl u5.v1 17)))).setCell ⟨w.heap.size, 1, none⟩ (.int .u64 (q (rotl u5.v1 17 ^^^ u5.v2)))) := ((hB.setCell (p := ⟨w.heap.size, 1, none⟩) (Nat.le_refl _) _).setCell (p := ⟨w.heap.size, 1, none⟩) (Nat.le_refl _) _)
      obtain ⟨W6, hW⟩ : ∃ W', W' = ((W5.setCell ⟨w.heap.size, 1, none⟩ (.int .u64 (q (rotl u5.v1 17)))).setCell ⟨w.heap.size, 1, none⟩ (.int .u64 (q (rotl u5.v1 17 ^^^ u5.v2)))) := ⟨_, rfl⟩
      rw [← hW] at h' hR' hB' ⊢
      clear hW h hR hB
      have hR := Aside0.mk hR'
      clear hR'
      have hB := hB'
      clear hB'
      obtain ⟨u6, hu6⟩ : ∃ u, u = u5.s9 := ⟨_, rfl⟩
      rw [← hu6] at h'
      have h := h'
      clear h'
      have ee : u5.v2 = u6.v2 := by rw [hu6]; rfl
      replace hu6 := Aside0.mk hu6
      rw [ee]
      clear ee
      refine (turn_w u6.v2 32 32 rfl (by decide) _).mono ?_
      rintro e w' ⟨rfl, rfl⟩
      have c0 := h.c0; have c1 := h.c1; have c2 := h.c2; have c3 := h.c3; have fz := h.fz
      have f0 := fz 0; have f1 := fz 1; have f2 := fz 2; have f3 := fz 3; clear fz
      go_wp2_with fail
      clear c0 c1 c2 c3 f0 f1 f2 f3 
      have h' : S58 (W6.setCell ⟨w.heap.size, 2, none⟩ (.int .u64 (q (rotl u6.v2 32)))) w.heap.size u6.s10 := (h.p2 _)
      have hR' : (W6.setCell ⟨w.heap.size, 2, none⟩ (.int .u64 (q (rotl u6.v2 32)))).heap[w.heap.size + 1]? = some (.cells #[.int .u64 0, .int .u64 0, .int .u64 0, .int .u64 0] 58 (0, 0)) := (blk_far hR.out (p := ⟨w.heap.size, 2, none⟩) hne.out _)
      have hB' : Below w.heap.size w (W6.setCell ⟨w.heap.size, 2, none⟩ (.int .u64 (q (rotl u6.v2 32)))) := (hB.setCell (p := ⟨w.heap.size, 2, none⟩) (Nat.le_refl _) _)
      have hu : u6.s10 = s.rounds (k + 1) := by
        show _ = (s.rounds k).round
        rw [← hu0.out, hu6.out, hu5.out, hu4.out, hu3.out, hu2.out, hu1.out]; rfl
      rw [hu] at h'
      go_roundw
      case rel => exact ⟨k + 1, by omega, by go_num, h', hR', hB'⟩
      case measure => simp [intOf]; omega
    · obtain rfl : k = n := by omega
      have c0 := h.c0; have c1 := h.c1; have c2 := h.c2; have c3 := h.c3
      have d0 : wr.cell? ⟨w.heap.size + 1, 0, none⟩ = some (.int .u64 0) := (blk_cell hR 0).trans rfl
      have d1 : wr.cell? ⟨w.heap.size + 1, 1, none⟩ = some (.int .u64 0) := (blk_cell hR 1).trans rfl
      have d2 : wr.cell? ⟨w.heap.size + 1, 2, none⟩ = some (.int .u64 0) := (blk_cell hR 2).trans rfl
      have d3 : wr.cell? ⟨w.heap.size + 1, 3, none⟩ = some (.int .u64 0) := (blk_cell hR 3).trans rfl
      have f0 := blk_frozen hR 0; have f1 := blk_frozen hR 1; have f2 := blk_frozen hR 2; have f3 := blk_frozen hR 3
      have hu := Try.underlying58
      have hd : decide ((k : Int) < (k : Int)) = false := decide_eq_false (by omega)
      have hRA := Aside0.mk hR
      clear hR h1 h2
      have hBz : Below w.heap.size w ((((wr.setCell ⟨w.heap.size + 1, 0, none⟩ (.int .u64 (q u0.v0))).setCell ⟨w.heap.size + 1, 1, none⟩ (.int .u64 (q u0.v1))).setCell ⟨w.heap.size + 1, 2, none⟩ (.int .u64 (q u0.v2))).setCell ⟨w.heap.size + 1, 3, none⟩ (.int .u64 (q u0.v3))) :=
        (((hB.setCell (p := ⟨w.heap.size + 1, 0, none⟩) (by simp) _).setCell (p := ⟨w.heap.size + 1, 1, none⟩) (by simp) _).setCell (p := ⟨w.heap.size + 1, 2, none⟩) (by simp) _).setCell (p := ⟨w.heap.size + 1, 3, none⟩) (by simp) _
      have hRz : ((((wr.setCell ⟨w.heap.size + 1, 0, none⟩ (.int .u64 (q u0.v0))).setCell ⟨w.heap.size + 1, 1, none⟩ (.int .u64 (q u0.v1))).setCell ⟨w.heap.size + 1, 2, none⟩ (.int .u64 (q u0.v2))).setCell ⟨w.heap.size + 1, 3, none⟩ (.int .u64 (q u0.v3))).heap[w.heap.size + 1]? = some (.cells #[.int .u64 (q u0.v0), .int .u64 (q u0.v1), .int .u64 (q u0.v2), .int .u64 (q u0.v3)] 58 (0, 0)) :=
        (blk_set (blk_set (blk_set (blk_set hRA.out 0 _) 1 _) 2 _) 3 _).trans rfl
      replace hRz := Aside0.mk hRz
      go_wp2
      refine bodyPost_ret (results_cell_row rfl _ _ (w.heap.size + 1) 58 #[.int .u64 (q u0.v0), .int .u64 (q u0.v1), .int .u64 (q u0.v2), .int .u64 (q u0.v3)] (0, 0) _ rfl hRz.out Try.underlying58 rfl (by kernel_rfl)) rfl ?_
      rw [← hu0.out]
      exact ⟨rfl, hBz⟩
end Go.Proofs.Ytecdfejhidnedaa.Sip
