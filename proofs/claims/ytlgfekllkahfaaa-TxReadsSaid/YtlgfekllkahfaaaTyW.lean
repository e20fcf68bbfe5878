/- A transaction's weight. -/
import Derived.Test.YtlgfekllkahfaaaTyT
import Derived.Test.YtlgfekllkahfaaaTxY
set_option linter.unusedVariables false
set_option linter.unusedSimpArgs false
namespace Go.Proofs.Ytlgfekllkahfaaa.Pack
open Go.RowKit Go.Proofs.YtlgfekllkahfaaaW.PrintWords Go.Proofs.YtlgfekllkahfaaaW.PrintMore Go.Proofs.Ytlgfekllkahfaaa Go.Proofs.Ytlgfekllkahfaaa.Bits Sha ArrK ShaW
open Go.Proofs.Ytlgfekllkahfaaa.InRound (op_at)
section
variable {t : Tr} {A1 A2 : Option Addr} {c1 c2 : Nat}
set_option maxRecDepth 100000 in
set_option maxHeartbeats 400000 in
theorem weight_calls (w : World) (h : TrOk w t A1 A2 c1 c2) : Calls Try.prog 21 #[trv t A1 A2 c1 c2] w fun e w' => e = .returned (.int .i64 ((3 * (enc false t).length + (enc true t).length : Nat) : Int)) ∧ Below w.heap.size w w' := by
  obtain ⟨V, hV⟩ : ∃ V, V = w.alloc (.cells (trc t A1 A2 c1 c2).toArray 25) := ⟨_, rfl⟩
  have hX : Blk V w.heap.size 25 (trc t A1 A2 c1 c2) := by rw [hV]; exact Blk.new w _ _
  have hB : Below w.heap.size w V := by rw [hV]; exact below_alloc (Below.refl _ _) _
  have h' := h.below hB
  have hBa : ∀ W, Below V.heap.size V W → Calls Try.prog 22 #[trv t A1 A2 c1 c2] W fun e w' => (∃ A c, e = .returned (.slice A (enc false t).length c)) ∧ Below W.heap.size W w' := fun W hW => (base_calls W (h'.below hW)).mono fun e w' ⟨v, e1, hR, hb⟩ => by
    obtain ⟨A, c, rfl⟩ := Kd.R_slice hR
    exact ⟨⟨A, c, e1⟩, hb⟩
  have hBy : ∀ W, Below V.heap.size V W → Calls Try.prog 20 #[trv t A1 A2 c1 c2] W fun e w' => (∃ A c, e = .returned (.slice A (enc true t).length c)) ∧ Below W.heap.size W w' := fun W hW => (bytesT_calls W (h'.below hW)).mono fun e w' ⟨v, e1, hR, hb⟩ => by
    obtain ⟨A, c, rfl⟩ := Kd.R_slice hR
    exact ⟨⟨A, c, e1⟩, hb⟩
  have l1 := enc_length false t h.spok h.n1 h.n2
  have l2 := enc_length true t h.spok h.n1 h.n2
  generalize (enc false t).length = n1 at *
  generalize (enc true t).length = n2 at *
  have e3 : IntKind.i64.wrap (3 * (n1 : Int)) = ((3 * n1 : Nat) : Int) := by rw [IntWalk.i64_in _ (by omega)]; omega
  have e4 : IntKind.i64.wrap (3 * (n1 : Int) + (n2 : Int)) = 3 * (n1 : Int) + (n2 : Int) := IntWalk.i64_in _ (by omega)
  have hVA := Aside0.mk hV; have hBA := Aside0.mk hB; have hBaA := Aside0.mk hBa; have hByA := Aside0.mk hBy; have hiA := Aside0.mk (info_tx t A1 A2 c1 c2)
  have hXA : Aside0 (∀ W, Below V.heap.size V W → ∀ (j : Nat) u, (trc t A1 A2 c1 c2)[j]? = some u → W.cell? ((⟨w.heap.size, 0, none⟩ : Addr).add j) = some u) := Aside0.mk (fun W hW => (hX.below hW).add)
  clear hV hX hB hBa hBy h h'
  go_enter Try.func21, Try.ntmps21
  go_wp2_with fail
  rw [show (w.alloc (.cells #[.slice A1 t.sp.length c1, .slice A2 t.co.length c2, .bool t.firm] 25)) = V from hVA.out.symm]
  refine wp_region_noPanic ?_
  have H0 : Below V.heap.size V V.drew := pw_below_drewN (Below.refl _ _) 1
  refine wp_region_held_drew (S := fun V1 => Below V.heap.size V V1) (by kernel_rfl) H0 (fun _ => ?_)
  generalize V.drew = V0 at *
  -- REGION A
  refine wpAnyH_take (i := 0) (v := .agg (trc t A1 A2 c1 c2).toArray) (op_at rfl) (by kernel_rfl) (by kernel_rfl) (by kernel_rfl) (fun _ _ _ h => h) (yieldsIf_load_any (by rfl) _ _ rfl ⟨w.heap.size, 0, none⟩ rfl _ _ (fun w_ hSw => hXA.out w_ hSw) Try.underlying25 rfl hiA.out) H0 ?_
  try simp only [Act.put, List.setIfInBounds_toArray, List.set_cons_zero, List.set_cons_succ]
  refine wpAnyH_take (i := 4) (v := .agg (trc t A1 A2 c1 c2).toArray) (op_at rfl) (by kernel_rfl) (by kernel_rfl) (by kernel_rfl) (fun _ _ _ h => h) (yieldsIf_load_any (by rfl) _ _ rfl ⟨w.heap.size, 0, none⟩ rfl _ _ (fun w_ hSw => hXA.out w_ hSw) Try.underlying25 rfl hiA.out) H0 ?_
  try simp only [Act.put, List.setIfInBounds_toArray, List.set_cons_zero, List.set_cons_succ]
  refine wpAnyH_ready (rs := [1]) (by kernel_rfl) (by simp) ?_
  refine AllReadyH.cons (op_at rfl) (fun K hK => ?_) AllReadyH.nil
  go_simp
  go_at_call 22
  with_reducible refine (hBaA.out V0 H0).mono ?_
  rintro e V1_ ⟨⟨A_, c_, rfl⟩, hb⟩
  go_wp2_with fail
  refine hK.out _ _ (below_then H0 H0.size hb) (fun H1_ => ?_)
  clear hK K hb
  try simp only [Act.put, List.setIfInBounds_toArray, List.set_cons_zero, List.set_cons_succ]
  refine wpAnyH_take (i := 2) (v := .int .i64 (n1 : Int)) (op_at rfl) (by kernel_rfl) (by kernel_rfl) (by kernel_rfl) (fun _ _ _ h => h) (Or.inl ⟨by rfl, fun w_ hSw => ?_⟩) H1_ ?_
  · skip; go_simp
  try simp only [Act.put, List.setIfInBounds_toArray, List.set_cons_zero, List.set_cons_succ]
  refine wpAnyH_take (i := 3) (v := .int .i64 ((3 * n1 : Nat) : Int)) (op_at rfl) (by kernel_rfl) (by kernel_rfl) (by kernel_rfl) (fun _ _ _ h => h) (Or.inl ⟨by rfl, fun w_ hSw => ?_⟩) H1_ ?_
  · have e_ := e3; go_simp
  try simp only [Act.put, List.setIfInBounds_toArray, List.set_cons_zero, List.set_cons_succ]
  refine wpAnyH_ready (rs := [5]) (by kernel_rfl) (by simp) ?_
  refine AllReadyH.cons (op_at rfl) (fun K hK => ?_) AllReadyH.nil
  go_simp
  go_at_call 20
  with_reducible refine (hByA.out V1_ H1_).mono ?_
  rintro e V2_ ⟨⟨A'_, c'_, rfl⟩, hb⟩
  go_wp2_with fail
  refine hK.out _ _ (below_then H1_ H1_.size hb) (fun H2_ => ?_)
  clear hK K hb
  try simp only [Act.put, List.setIfInBounds_toArray, List.set_cons_zero, List.set_cons_succ]
  refine wpAnyH_take (i := 6) (v := .int .i64 (n2 : Int)) (op_at rfl) (by kernel_rfl) (by kernel_rfl) (by kernel_rfl) (fun _ _ _ h => h) (Or.inl ⟨by rfl, fun w_ hSw => ?_⟩) H2_ ?_
  · skip; go_simp
  try simp only [Act.put, List.setIfInBounds_toArray, List.set_cons_zero, List.set_cons_succ]
  refine wpAnyH_take (i := 7) (v := .int .i64 ((3 * n1 + n2 : Nat) : Int)) (op_at rfl) (by kernel_rfl) (by kernel_rfl) (by kernel_rfl) (fun _ _ _ h => h) (Or.inl ⟨by rfl, fun w_ hSw => ?_⟩) H2_ ?_
  · have e_ := e4; go_simp
  try simp only [Act.put, List.setIfInBounds_toArray, List.set_cons_zero, List.set_cons_succ]
  refine wpAnyH_take (i := 8) (v := .int .i64 ((3 * n1 + n2 : Nat) : Int)) (op_at rfl) (by kernel_rfl) (by kernel_rfl) (by kernel_rfl) (fun _ _ _ h => h) (Or.inl ⟨by rfl, fun w_ hSw => ?_⟩) H2_ ?_
  · skip; go_simp
  try simp only [Act.put, List.setIfInBounds_toArray, List.set_cons_zero, List.set_cons_succ]
  refine wpAnyH_done (by kernel_rfl) ?_ _
  refine NoPanic.normal ?_
  have hHA := Aside0.mk H2_
  go_wp2
  go_ret
  exact ⟨rfl, below_then hBA.out hBA.out.size hHA.out⟩
  -- END A
end
end Go.Proofs.Ytlgfekllkahfaaa.Pack
