/- Digests laid into an Out. -/
import Derived.Test.YtlgfekllkahfaaaTyC
set_option linter.unusedVariables false
set_option linter.unusedSimpArgs false
namespace Go.Proofs.Ytlgfekllkahfaaa.Pack
open Go.RowKit Go.Proofs.YtlgfekllkahfaaaW.PrintWords Go.Proofs.YtlgfekllkahfaaaW.PrintMore Go.Proofs.Ytlgfekllkahfaaa Go.Proofs.Ytlgfekllkahfaaa.Bits Sha ArrK ShaW
open Go.Proofs.Ytlgfekllkahfaaa.InRound (op_at)
theorem row_nums {W : World} {z t : Nat} {h : List Int} {n : Nat} (hn : h.length = n) (hm : n ≤ 1000000) (hZ : Blk W z t (nums .u8 h)) : ReadsRow (fun x cs => cs = [.int .u8 x]) 1 W (some ⟨z, 0, none⟩) n h := by
  refine ⟨hn, by omega, fun hp => ⟨_, rfl, fun j x hj => ⟨[.int .u8 x], rfl, rfl, fun i v hi => ?_⟩⟩⟩
  match i, hi with
  | 0, hi =>
    cases hi
    have := hZ.get j (.int .u8 x) (by simp [nums, hj])
    rw [Nat.mul_one, Nat.add_zero, add_plain]
    exact this
set_option maxRecDepth 100000 in
set_option maxHeartbeats 400000 in
theorem hash_calls (base B : Nat) (l h : List Int) (w : World) (hh : h.length = 32) (hO : OutP base w B l) (hb : base ≤ B) (hl : l.length ≤ 10000000) :
    Calls Try.prog 63 #[.pointer (some ⟨B, 0, none⟩), hv h] w fun e w' => (∃ v, e = .returned v) ∧ OutP base w' B (l ++ h) ∧ Kp8 B w w' ∧ Below base w w' := by
  obtain ⟨v, hX, hR⟩ := hO
  have hlt := hX.lt
  obtain ⟨W1, hW1⟩ : ∃ W1, W1 = w.alloc (.cells (nums .u8 h).toArray 31) := ⟨_, rfl⟩
  have hZX : Blk W1 w.heap.size 31 (nums .u8 h) := by rw [hW1]; exact Blk.new w _ _
  have hX1 : Blk W1 B 103 [v] := by rw [hW1]; exact hX.alloc _
  have hR1 : Kd.R (Kd.int .u8) 5 W1 base (fun _ => True) v l := by rw [hW1]; exact Kd.R_below hR (below_alloc (Below.refl _ _) _)
  have hB1 : Below base w W1 := by rw [hW1]; exact (below_alloc (Below.refl _ _) _).mono (by omega)
  have hK1 : Kp8 B w W1 := by rw [hW1]; exact (Kp8.refl B w).below (below_alloc (Below.refl _ _) _)
  have hWA := Aside0.mk hW1; have hRA := Aside0.mk hR1; have hXA := Aside0.mk hX1; have hKA := Aside0.mk hK1; have hBA := Aside0.mk hB1; have hZXA := Aside0.mk hZX
  have hsA := Aside0.mk (show base ≤ W1.heap.size by rw [hW1]; simp; omega)
  clear hW1 hX1 hR1 hB1 hK1 hZX hX hR
  obtain ⟨l2, hl2⟩ : ∃ l2, l ++ h = l2 := ⟨_, rfl⟩
  have hl2A := Aside0.mk hl2
  clear hl2
  rw [hl2A.out]
  go_enter Try.func63, Try.ntmps63
  go_wp2_with fail
  rw [← hWA.out]
  refine wp_region_noPanic ?_
  refine wp_region_held_drew (S := fun _ => True) (by kernel_rfl) trivial (fun _ => ?_)
  have H0 : True := trivial
  have hR0 : Aside0 (Kd.R (Kd.int .u8) 5 W1.drew base (fun _ => True) v l) := Aside0.mk (Kd.R_below hRA.out (pw_below_drewN (Below.refl W1.heap.size W1) 1))
  have hX0 : Blk W1.drew B 103 [v] := hXA.out
  have hZ0 : Aside0 (Blk W1.drew w.heap.size 31 (nums .u8 h)) := Aside0.mk hZXA.out
  have hK0 : Aside0 (Kp8 B w W1.drew) := Aside0.mk (hKA.out.below (pw_below_drewN (Below.refl W1.heap.size W1) 1))
  have hB0 : Aside0 (Below base w W1.drew) := Aside0.mk (pw_below_drewN hBA.out 1)
  have hhA := Aside0.mk hh
  have hlt0 : base ≤ w.heap.size := by omega
  clear hKA hBA hRA hXA hZXA hWA hsA
  generalize W1.drew = V0 at *
  -- REGION H
  refine wpAnyH_take (i := 0) (v := .pointer (some ⟨B, 0, none⟩)) (op_at rfl) (by kernel_rfl) (by kernel_rfl) (by kernel_rfl) (fun _ _ _ h => h) (Or.inl ⟨by rfl, fun w_ hSw => ?_⟩) H0 ?_
  · skip; go_simp
  try simp only [Act.put, List.setIfInBounds_toArray, List.set_cons_zero, List.set_cons_succ]
  refine wpAnyH_take (i := 1) (v := .pointer (some ⟨B, 0, none⟩)) (op_at rfl) (by kernel_rfl) (by kernel_rfl) (by kernel_rfl) (fun _ _ _ h => h) (Or.inl ⟨by rfl, fun w_ hSw => ?_⟩) H0 ?_
  · skip; go_simp
  try simp only [Act.put, List.setIfInBounds_toArray, List.set_cons_zero, List.set_cons_succ]
  refine wpAnyH_take (i := 2) (v := .pointer (some ⟨B, 0, none⟩)) (op_at rfl) (by kernel_rfl) (by kernel_rfl) (by kernel_rfl) (fun _ _ _ h => h) (Or.inl ⟨by rfl, fun w_ hSw => ?_⟩) H0 ?_
  · skip; go_simp
  try simp only [Act.put, List.setIfInBounds_toArray, List.set_cons_zero, List.set_cons_succ]
  refine wpAnyH_take (i := 3) (v := .pointer (some ⟨B, 0, none⟩)) (op_at rfl) (by kernel_rfl) (by kernel_rfl) (by kernel_rfl) (fun _ _ _ h => h) (Or.inl ⟨by rfl, fun w_ hSw => ?_⟩) H0 ?_
  · skip; go_simp
  try simp only [Act.put, List.setIfInBounds_toArray, List.set_cons_zero, List.set_cons_succ]
  refine wpAnyH_take (i := 5) (v := .slice (some ⟨w.heap.size, 0, none⟩) 32 32) (op_at rfl) (by kernel_rfl) (by kernel_rfl) (by kernel_rfl) (fun _ _ _ h => h) (Or.inl ⟨by rfl, fun w_ hSw => ?_⟩) H0 ?_
  · have hu_ := Try.underlying31; go_simp
  try simp only [Act.put, List.setIfInBounds_toArray, List.set_cons_zero, List.set_cons_succ]
  refine wpAnyH_ready (rs := [4]) (by kernel_rfl) (by simp) ?_
  refine AllReadyH.cons (op_at rfl) (fun K hK => ?_) AllReadyH.nil
  have hc_ := hX0.get 0 v rfl
  go_simp
  clear hc_
  refine hK.out _ _ H0 (fun H1_ => ?_)
  clear hK K
  try simp only [Act.put, List.setIfInBounds_toArray, List.set_cons_zero, List.set_cons_succ]
  refine wpAnyH_ready (rs := [6]) (by kernel_rfl) (by simp) ?_
  refine AllReadyH.cons (op_at rfl) (fun K hK => ?_) AllReadyH.nil
  refine Kd.R_append_rows_step (Kd.int .u8) (Rr := fun x cs => cs = [.int .u8 x]) (w0 := w) base (by rfl) (.tmp 10) (.tmp 11) 49 5 (.int .u8 0) 1 rfl Try.underlying49 info_u8 rfl (by decide) (by decide) v l h (some ⟨w.heap.size, 0, none⟩) 32 32 (fun _ => True) (fun _ => False) rfl rfl hR0.out (row_nums hhA.out (by decide) hZ0.out) (fun _ _ e => e) (fun _ h => h.elim) (fun _ _ => trivial) hB0.out (Nat.le_trans hlt0 hB0.out.size) (by omega) ?_
  intro v1_2 V2_ hR_ hB_ hg_ _
  rw [hl2A.out] at hR_
  refine hK.out _ _ trivial (fun H2_ => ?_)
  have X_2 := hX0.grown hg_ (Kd.R_ne hR0.out hX0 (by decide))
  have R_2 := Aside0.mk hR_
  have K_2 := Aside0.mk (hK0.out.grown hR0.out hg_)
  have B_2 := Aside0.mk hB_
  clear hK K hB_ hg_ hR_
  try simp only [Act.put, List.setIfInBounds_toArray, List.set_cons_zero, List.set_cons_succ]
  refine wpAnyH_take (i := 7) (v := .pointer (some ⟨B, 0, none⟩)) (op_at rfl) (by kernel_rfl) (by kernel_rfl) (by kernel_rfl) (fun _ _ _ h => h) (Or.inl ⟨by rfl, fun w_ hSw => ?_⟩) H2_ ?_
  · skip; go_simp
  try simp only [Act.put, List.setIfInBounds_toArray, List.set_cons_zero, List.set_cons_succ]
  refine wpAnyH_take (i := 8) (v := .pointer (some ⟨B, 0, none⟩)) (op_at rfl) (by kernel_rfl) (by kernel_rfl) (by kernel_rfl) (fun _ _ _ h => h) (Or.inl ⟨by rfl, fun w_ hSw => ?_⟩) H2_ ?_
  · skip; go_simp
  try simp only [Act.put, List.setIfInBounds_toArray, List.set_cons_zero, List.set_cons_succ]
  refine wpAnyH_ready (rs := [9]) (by kernel_rfl) (by simp) ?_
  refine AllReadyH.cons (op_at rfl) (fun K hK => ?_) AllReadyH.nil
  obtain ⟨A1_, c1_, hv_⟩ := Kd.R_slice R_2.out
  subst hv_
  have hc_ := X_2.get 0 _ rfl
  have hf_ := X_2.fz 0
  go_simp
  refine hK.out _ _ trivial (fun H3_ => ?_)
  have X_3 := X_2.set 0 (.slice A1_ l2.length c1_)
  have R_3 := Aside0.mk (Kd.R_set R_2.out X_2 (by decide) 0 (.slice A1_ l2.length c1_))
  have K_3 := Aside0.mk (K_2.out.set 0 (.slice A1_ l2.length c1_))
  have B_3 := Aside0.mk (B_2.out.setCell (p := ⟨B, 0, none⟩) hb (.slice A1_ l2.length c1_))
  clear hK K hc_ hf_
  try simp only [Act.put, List.setIfInBounds_toArray, List.set_cons_zero, List.set_cons_succ]
  refine wpAnyH_done (by kernel_rfl) ?_ _
  refine NoPanic.normal ?_
  go_wp2
  exact bodyPost_end (results_none rfl _ _ _) rfl ⟨⟨_, rfl⟩, ⟨_, X_3, R_3.out⟩, K_3.out, B_3.out⟩
  -- END H
end Go.Proofs.Ytlgfekllkahfaaa.Pack
