/- Chapter 11's example. -/
import Derived.Test.YthnfjbnebfjjfaaDoorLockC
set_option linter.unusedVariables false
set_option linter.unusedSimpArgs false
namespace Go.Proofs.YthnfjbnebfjjfaaDoor.ShaW
open Go.RowKit Go.Proofs.YthnfjbnebfjjfaaDoorW.PrintWords Go.Proofs.YthnfjbnebfjjfaaDoorW.PrintMore Go.Proofs.YthnfjbnebfjjfaaDoor Go.Proofs.YthnfjbnebfjjfaaDoor.Bits Sha ArrK
open Go.Proofs.YthnfjbnebfjjfaaDoor.InRound (op_at)
abbrev keyA : ByteArray := ⟨#[97]⟩
theorem seal_not : ¬ (0 = sl keyA zero32) := by decide +kernel
theorem opens_yes : opens ⟨zero32, 0, keyA, sl keyA zero32⟩ ⟨0, lk keyA⟩ zero32 = true := by
  unfold opens
  rw [decide_eq_true (rfl : lk keyA = lk keyA), decide_eq_true (rfl : sl keyA zero32 = sl keyA zero32)]; rfl
theorem opens_no : opens ⟨zero32, 0, keyA, 0⟩ ⟨0, lk keyA⟩ zero32 = false := by
  unfold opens
  rw [decide_eq_false seal_not, Bool.and_false]
theorem zero_bytes : Bytes zero32 := by intro x hx; simp at hx; omega
set_option maxRecDepth 100000 in
set_option maxHeartbeats 400000 in
theorem alive11_calls (w : World) (hK : Kst w) (hBg : Bst w) :
    Calls Tryd.prog 6 #[] w fun e w' => e = .returned (.bool true) ∧ Below w.heap.size w w' := by
  have hL := lock_calls keyA (by decide) w hK hBg
  have cs : ∀ V1, Below w.heap.size w V1 → Calls Tryd.prog 9 #[.string keyA, .agg #[.int .u8 0, .int .u8 0, .int .u8 0, .int .u8 0, .int .u8 0, .int .u8 0, .int .u8 0, .int .u8 0, .int .u8 0, .int .u8 0, .int .u8 0, .int .u8 0, .int .u8 0, .int .u8 0, .int .u8 0, .int .u8 0, .int .u8 0, .int .u8 0, .int .u8 0, .int .u8 0, .int .u8 0, .int .u8 0, .int .u8 0, .int .u8 0, .int .u8 0, .int .u8 0, .int .u8 0, .int .u8 0, .int .u8 0, .int .u8 0, .int .u8 0, .int .u8 0]] V1 fun e w' => e = .returned (.int .u64 (sl keyA zero32)) ∧ Below V1.heap.size V1 w' := fun V1 h => seal_calls keyA (by decide) zero32 rfl zero_bytes V1 (hK.below h) (hBg.below h)
  have c1 : ∀ V1, Below w.heap.size w V1 → Calls Tryd.prog 11 #[.agg #[.int .u8 0, .int .u8 0, .int .u8 0, .int .u8 0, .int .u8 0, .int .u8 0, .int .u8 0, .int .u8 0, .int .u8 0, .int .u8 0, .int .u8 0, .int .u8 0, .int .u8 0, .int .u8 0, .int .u8 0, .int .u8 0, .int .u8 0, .int .u8 0, .int .u8 0, .int .u8 0, .int .u8 0, .int .u8 0, .int .u8 0, .int .u8 0, .int .u8 0, .int .u8 0, .int .u8 0, .int .u8 0, .int .u8 0, .int .u8 0, .int .u8 0, .int .u8 0, .int .i64 0, .string keyA, .int .u64 (sl keyA zero32)], .agg #[.int .i64 0, .int .u64 (lk keyA)], .agg #[.int .u8 0, .int .u8 0, .int .u8 0, .int .u8 0, .int .u8 0, .int .u8 0, .int .u8 0, .int .u8 0, .int .u8 0, .int .u8 0, .int .u8 0, .int .u8 0, .int .u8 0, .int .u8 0, .int .u8 0, .int .u8 0, .int .u8 0, .int .u8 0, .int .u8 0, .int .u8 0, .int .u8 0, .int .u8 0, .int .u8 0, .int .u8 0, .int .u8 0, .int .u8 0, .int .u8 0, .int .u8 0, .int .u8 0, .int .u8 0, .int .u8 0, .int .u8 0]] V1 fun e w' => e = .returned (.bool true) ∧ Below V1.heap.size V1 w' := fun V1 h => by
    have := opens_calls ⟨zero32, 0, keyA, sl keyA zero32⟩ ⟨0, lk keyA⟩ zero32 (by decide) rfl rfl zero_bytes V1 (hK.below h) (hBg.below h)
    rw [opens_yes] at this
    exact this
  have c2 : ∀ V1, Below w.heap.size w V1 → Calls Tryd.prog 11 #[.agg #[.int .u8 0, .int .u8 0, .int .u8 0, .int .u8 0, .int .u8 0, .int .u8 0, .int .u8 0, .int .u8 0, .int .u8 0, .int .u8 0, .int .u8 0, .int .u8 0, .int .u8 0, .int .u8 0, .int .u8 0, .int .u8 0, .int .u8 0, .int .u8 0, .int .u8 0, .int .u8 0, .int .u8 0, .int .u8 0, .int .u8 0, .int .u8 0, .int .u8 0, .int .u8 0, .int .u8 0, .int .u8 0, .int .u8 0, .int .u8 0, .int .u8 0, .int .u8 0, .int .i64 0, .string keyA, .int .u64 0], .agg #[.int .i64 0, .int .u64 (lk keyA)], .agg #[.int .u8 0, .int .u8 0, .int .u8 0, .int .u8 0, .int .u8 0, .int .u8 0, .int .u8 0, .int .u8 0, .int .u8 0, .int .u8 0, .int .u8 0, .int .u8 0, .int .u8 0, .int .u8 0, .int .u8 0, .int .u8 0, .int .u8 0, .int .u8 0, .int .u8 0, .int .u8 0, .int .u8 0, .int .u8 0, .int .u8 0, .int .u8 0, .int .u8 0, .int .u8 0, .int .u8 0, .int .u8 0, .int .u8 0, .int .u8 0, .int .u8 0, .int .u8 0]] V1 fun e w' => e = .returned (.bool false) ∧ Below V1.heap.size V1 w' := fun V1 h => by
    have := opens_calls ⟨zero32, 0, keyA, 0⟩ ⟨0, lk keyA⟩ zero32 (by decide) rfl rfl zero_bytes V1 (hK.below h) (hBg.below h)
    rw [opens_no] at this
    exact this
  generalize lk keyA = X at *
  generalize sl keyA zero32 = Y at *
  have hLA := Aside0.mk hL; have csA := Aside0.mk cs; have c1A := Aside0.mk c1; have c2A := Aside0.mk c2
  clear hL cs c1 c2 hK hBg
  go_enter Tryd.func6, Tryd.ntmps6
  go_wp2_with (go_at_call 7; with_reducible refine hLA.out.mono ?_; rintro e w1 ⟨rfl, hb1⟩; have hb1A := Aside0.mk hb1; clear hb1)
  refine wp_region_noPanic ?_
  obtain ⟨V, hV⟩ : ∃ V, V = w1.alloc (.cells #[.int .i64 0, .int .u64 X] 30) := ⟨_, rfl⟩
  have hX : Blk V w1.heap.size 30 [.int .i64 0, .int .u64 X] := by rw [hV]; exact Blk.new w1 _ _
  have hVB : Below w.heap.size w V := by rw [hV]; exact below_then hb1A.out hb1A.out.size (below_alloc (Below.refl _ _) _)
  obtain ⟨b, hb⟩ : ∃ b, b = w1.heap.size := ⟨_, rfl⟩
  rw [← hV, ← hb]
  rw [← hb] at hX
  have g0 : ∀ V1, Below V.heap.size V V1 → V1.cell? ⟨b, 0, none⟩ = some (.int .i64 0) := fun V1 h => (hX.below h).get 0 _ rfl
  have g1 : ∀ V1, Below V.heap.size V V1 → V1.cell? ⟨b, 1, none⟩ = some (.int .u64 X) := fun V1 h => (hX.below h).get 1 _ rfl
  have g0A := Aside0.mk g0; have g1A := Aside0.mk g1; have hVA := Aside0.mk hVB
  clear g0 g1 hVB hX hV hb hb1A hLA
  have H0 : Below V.heap.size V V.drew := pw_below_drewN (Below.refl _ _) 1
  refine wp_region_held_drew (S := fun V1 => Below V.heap.size V V1) (by kernel_rfl) H0 (fun _ => ?_)
  generalize V.drew = V0 at *
  -- REGION A
  refine wpAnyH_take (i := 0) (v := .agg #[.int .u8 0, .int .u8 0, .int .u8 0, .int .u8 0, .int .u8 0, .int .u8 0, .int .u8 0, .int .u8 0, .int .u8 0, .int .u8 0, .int .u8 0, .int .u8 0, .int .u8 0, .int .u8 0, .int .u8 0, .int .u8 0, .int .u8 0, .int .u8 0, .int .u8 0, .int .u8 0, .int .u8 0, .int .u8 0, .int .u8 0, .int .u8 0, .int .u8 0, .int .u8 0, .int .u8 0, .int .u8 0, .int .u8 0, .int .u8 0, .int .u8 0, .int .u8 0]) (op_at rfl) (by kernel_rfl) (by kernel_rfl) (by kernel_rfl) (fun _ _ _ h => h) (Or.inl ⟨by rfl, fun w_ hSw => ?_⟩) H0 ?_
  · skip; go_simp
  try simp only [Act.put, List.setIfInBounds_toArray, List.set_cons_zero, List.set_cons_succ]
  refine wpAnyH_take (i := 3) (v := .agg #[.int .i64 0, .int .u64 X]) (op_at rfl) (by kernel_rfl) (by kernel_rfl) (by kernel_rfl) (fun _ _ _ h => h) (Or.inl ⟨by rfl, fun w_ hSw => ?_⟩) H0 ?_
  · have h1 := g0A.out w_ hSw; have h2 := g1A.out w_ hSw; go_simp
  try simp only [Act.put, List.setIfInBounds_toArray, List.set_cons_zero, List.set_cons_succ]
  refine wpAnyH_take (i := 4) (v := .agg #[.int .u8 0, .int .u8 0, .int .u8 0, .int .u8 0, .int .u8 0, .int .u8 0, .int .u8 0, .int .u8 0, .int .u8 0, .int .u8 0, .int .u8 0, .int .u8 0, .int .u8 0, .int .u8 0, .int .u8 0, .int .u8 0, .int .u8 0, .int .u8 0, .int .u8 0, .int .u8 0, .int .u8 0, .int .u8 0, .int .u8 0, .int .u8 0, .int .u8 0, .int .u8 0, .int .u8 0, .int .u8 0, .int .u8 0, .int .u8 0, .int .u8 0, .int .u8 0]) (op_at rfl) (by kernel_rfl) (by kernel_rfl) (by kernel_rfl) (fun _ _ _ h => h) (Or.inl ⟨by rfl, fun w_ hSw => ?_⟩) H0 ?_
  · skip; go_simp
  try simp only [Act.put, List.setIfInBounds_toArray, List.set_cons_zero, List.set_cons_succ]
  refine wpAnyH_ready (rs := [1]) (by kernel_rfl) (by simp) ?_
  refine AllReadyH.cons (op_at rfl) (fun K hK => ?_) AllReadyH.nil
  go_simp
  go_at_call 9
  with_reducible refine (csA.out V0 (below_then hVA.out hVA.out.size H0)).mono ?_
  rintro e V1_ ⟨rfl, hb⟩
  go_wp2_with fail
  refine hK.out _ _ (below_then H0 H0.size hb) (fun H1_ => ?_)
  clear hK K hb
  try simp only [Act.put, List.setIfInBounds_toArray, List.set_cons_zero, List.set_cons_succ]
  refine wpAnyH_take (i := 2) (v := .agg #[.int .u8 0, .int .u8 0, .int .u8 0, .int .u8 0, .int .u8 0, .int .u8 0, .int .u8 0, .int .u8 0, .int .u8 0, .int .u8 0, .int .u8 0, .int .u8 0, .int .u8 0, .int .u8 0, .int .u8 0, .int .u8 0, .int .u8 0, .int .u8 0, .int .u8 0, .int .u8 0, .int .u8 0, .int .u8 0, .int .u8 0, .int .u8 0, .int .u8 0, .int .u8 0, .int .u8 0, .int .u8 0, .int .u8 0, .int .u8 0, .int .u8 0, .int .u8 0, .int .i64 0, .string keyA, .int .u64 Y]) (op_at rfl) (by kernel_rfl) (by kernel_rfl) (by kernel_rfl) (fun _ _ _ h => h) (Or.inl ⟨by rfl, fun w_ hSw => ?_⟩) H1_ ?_
  · skip; go_simp
  try simp only [Act.put, List.setIfInBounds_toArray, List.set_cons_zero, List.set_cons_succ]
  refine wpAnyH_ready (rs := [5]) (by kernel_rfl) (by simp) ?_
  refine AllReadyH.cons (op_at rfl) (fun K hK => ?_) AllReadyH.nil
  go_simp
  go_at_call 11
  with_reducible refine (c1A.out V1_ (below_then hVA.out hVA.out.size H1_)).mono ?_
  rintro e V2_ ⟨rfl, hb⟩
  go_wp2_with fail
  refine hK.out _ _ (below_then H1_ H1_.size hb) (fun H2_ => ?_)
  clear hK K hb
  try simp only [Act.put, List.setIfInBounds_toArray, List.set_cons_zero, List.set_cons_succ]
  refine wpAnyH_take (i := 6) (v := .bool true) (op_at rfl) (by kernel_rfl) (by kernel_rfl) (by kernel_rfl) (fun _ _ _ h => h) (Or.inl ⟨by rfl, fun w_ hSw => ?_⟩) H2_ ?_
  · skip; go_simp
  try simp only [Act.put, List.setIfInBounds_toArray, List.set_cons_zero, List.set_cons_succ]
  refine wpAnyH_take (i := 7) (v := .agg #[.int .u8 0, .int .u8 0, .int .u8 0, .int .u8 0, .int .u8 0, .int .u8 0, .int .u8 0, .int .u8 0, .int .u8 0, .int .u8 0, .int .u8 0, .int .u8 0, .int .u8 0, .int .u8 0, .int .u8 0, .int .u8 0, .int .u8 0, .int .u8 0, .int .u8 0, .int .u8 0, .int .u8 0, .int .u8 0, .int .u8 0, .int .u8 0, .int .u8 0, .int .u8 0, .int .u8 0, .int .u8 0, .int .u8 0, .int .u8 0, .int .u8 0, .int .u8 0, .int .i64 0, .string keyA, .int .u64 0]) (op_at rfl) (by kernel_rfl) (by kernel_rfl) (by kernel_rfl) (fun _ _ _ h => h) (Or.inl ⟨by rfl, fun w_ hSw => ?_⟩) H2_ ?_
  · skip; go_simp
  try simp only [Act.put, List.setIfInBounds_toArray, List.set_cons_zero, List.set_cons_succ]
  refine wpAnyH_take (i := 8) (v := .agg #[.int .i64 0, .int .u64 X]) (op_at rfl) (by kernel_rfl) (by kernel_rfl) (by kernel_rfl) (fun _ _ _ h => h) (Or.inl ⟨by rfl, fun w_ hSw => ?_⟩) H2_ ?_
  · have h1 := g0A.out w_ hSw; have h2 := g1A.out w_ hSw; go_simp
  try simp only [Act.put, List.setIfInBounds_toArray, List.set_cons_zero, List.set_cons_succ]
  refine wpAnyH_take (i := 9) (v := .agg #[.int .u8 0, .int .u8 0, .int .u8 0, .int .u8 0, .int .u8 0, .int .u8 0, .int .u8 0, .int .u8 0, .int .u8 0, .int .u8 0, .int .u8 0, .int .u8 0, .int .u8 0, .int .u8 0, .int .u8 0, .int .u8 0, .int .u8 0, .int .u8 0, .int .u8 0, .int .u8 0, .int .u8 0, .int .u8 0, .int .u8 0, .int .u8 0, .int .u8 0, .int .u8 0, .int .u8 0, .int .u8 0, .int .u8 0, .int .u8 0, .int .u8 0, .int .u8 0]) (op_at rfl) (by kernel_rfl) (by kernel_rfl) (by kernel_rfl) (fun _ _ _ h => h) (Or.inl ⟨by rfl, fun w_ hSw => ?_⟩) H2_ ?_
  · skip; go_simp
  try simp only [Act.put, List.setIfInBounds_toArray, List.set_cons_zero, List.set_cons_succ]
  refine wpAnyH_ready (rs := [10]) (by kernel_rfl) (by simp) ?_
  refine AllReadyH.cons (op_at rfl) (fun K hK => ?_) AllReadyH.nil
  go_simp
  go_at_call 11
  with_reducible refine (c2A.out V2_ (below_then hVA.out hVA.out.size H2_)).mono ?_
  rintro e V3_ ⟨rfl, hb⟩
  go_wp2_with fail
  refine hK.out _ _ (below_then H2_ H2_.size hb) (fun H3_ => ?_)
  clear hK K hb
  try simp only [Act.put, List.setIfInBounds_toArray, List.set_cons_zero, List.set_cons_succ]
  refine wpAnyH_take (i := 11) (v := .bool true) (op_at rfl) (by kernel_rfl) (by kernel_rfl) (by kernel_rfl) (fun _ _ _ h => h) (Or.inl ⟨by rfl, fun w_ hSw => ?_⟩) H3_ ?_
  · skip; go_simp
  try simp only [Act.put, List.setIfInBounds_toArray, List.set_cons_zero, List.set_cons_succ]
  refine wpAnyH_take (i := 12) (v := .bool true) (op_at rfl) (by kernel_rfl) (by kernel_rfl) (by kernel_rfl) (fun _ _ _ h => h) (Or.inl ⟨by rfl, fun w_ hSw => ?_⟩) H3_ ?_
  · skip; go_simp
  try simp only [Act.put, List.setIfInBounds_toArray, List.set_cons_zero, List.set_cons_succ]
  refine wpAnyH_take (i := 13) (v := .bool true) (op_at rfl) (by kernel_rfl) (by kernel_rfl) (by kernel_rfl) (fun _ _ _ h => h) (Or.inl ⟨by rfl, fun w_ hSw => ?_⟩) H3_ ?_
  · skip; go_simp
  try simp only [Act.put, List.setIfInBounds_toArray, List.set_cons_zero, List.set_cons_succ]
  refine wpAnyH_done (by kernel_rfl) ?_ _
  refine NoPanic.normal ?_
  go_wp2
  go_ret
  exact ⟨rfl, below_then hVA.out hVA.out.size H3_⟩
  -- END A
/-- the three boxes of the law's parameters -/
theorem law_heads (s : Sp) (c : Co) (id : List Int) (ht : s.tx.length = 32) (w : World) :
    Below w.heap.size w (((w.alloc (.cells (spc s).toArray 28)).alloc (.cells (coc c).toArray 30)).alloc (.cells (nums .u8 id).toArray 23)) ∧
    Blk (((w.alloc (.cells (spc s).toArray 28)).alloc (.cells (coc c).toArray 30)).alloc (.cells (nums .u8 id).toArray 23)) w.heap.size 28 (spc s) ∧
    Blk (((w.alloc (.cells (spc s).toArray 28)).alloc (.cells (coc c).toArray 30)).alloc (.cells (nums .u8 id).toArray 23)) (w.heap.size + 1) 30 (coc c) ∧
    Blk (((w.alloc (.cells (spc s).toArray 28)).alloc (.cells (coc c).toArray 30)).alloc (.cells (nums .u8 id).toArray 23)) (w.heap.size + 1 + 1) 23 (nums .u8 id) := by
  refine ⟨below_alloc (below_alloc (below_alloc (Below.refl _ _) _) _) _, ((Blk.new w 28 (spc s)).alloc _).alloc _, ?_, ?_⟩
  · have := (Blk.new (w.alloc (.cells (spc s).toArray 28)) 30 (coc c)).alloc (.cells (nums .u8 id).toArray 23)
    rwa [World.size_alloc] at this
  · have := Blk.new ((w.alloc (.cells (spc s).toArray 28)).alloc (.cells (coc c).toArray 30)) 23 (nums .u8 id)
    rwa [World.size_alloc, World.size_alloc] at this
end Go.Proofs.YthnfjbnebfjjfaaDoor.ShaW
namespace Go.Proofs.YthnfjbnebfjjfaaDoor.Walk
open Go.RowKit Go.Proofs.YthnfjbnebfjjfaaDoorW.PrintWords Go.Proofs.YthnfjbnebfjjfaaDoorW.PrintMore Go.Proofs.YthnfjbnebfjjfaaDoor Go.Proofs.YthnfjbnebfjjfaaDoor.Bits Sha ArrK ShaW
open Go.Proofs.YthnfjbnebfjjfaaDoor.InRound (op_at)
set_option maxRecDepth 100000 in
set_option maxHeartbeats 1000000 in
theorem LockKeys (s : Sp) (c : Co) (id : List Int) (ht : s.tx.length = 32) (hid : id.length = 32) (hib : Bytes id) (w : World) (hK : Kst w) (hBg : Bst w) (hRs : Rst w) :
    Calls Tryd.prog 3 #[spv s, cov c, hv id] w fun e w' => e = .returned (.bool true) ∧ Below w.heap.size w w' := by
  obtain ⟨hB, h0, h1, h2⟩ := law_heads s c id ht w
  obtain ⟨V, hV⟩ : ∃ V, V = (((w.alloc (.cells (spc s).toArray 28)).alloc (.cells (coc c).toArray 30)).alloc (.cells (nums .u8 id).toArray 23)) := ⟨_, rfl⟩
  rw [← hV] at hB h0 h1 h2
  have kS := spc_key s ht
  have hAl := alive11_calls V (hK.below hB) (hBg.below hB)
  have hAlA := Aside0.mk hAl; have hVA := Aside0.mk hV; have hBA := Aside0.mk hB; have h0A := Aside0.mk h0; have h1A := Aside0.mk h1; have h2A := Aside0.mk h2
  have hKA := Aside0.mk hK; have hBgA := Aside0.mk hBg; have hRsA := Aside0.mk hRs; have hibA := Aside0.mk hib; have hidA := Aside0.mk hid; have htA := Aside0.mk ht
  have kSA := Aside0.mk kS
  clear hAl hV hB h0 h1 h2 hK hBg hRs hib hid ht kS
  by_cases h500 : s.key.size ≤ 500
  · have d1 : decide ((s.key.size : Int) > 500) = false := decide_eq_false (by omega)
    have d1' : ¬ (500 : Int) < (s.key.size : Int) := by omega
    go_enter Tryd.func3, Tryd.ntmps3
    go_wp2_with (go_at_call 6; rw [← hVA.out]; with_reducible refine hAlA.out.mono ?_; rintro e w1 ⟨rfl, hb1⟩; have kc := (h0A.out.below hb1).get 33 _ kSA.out; have hb1A := Aside0.mk hb1; clear hb1)
    have hX0 := h0A.out.below hb1A.out; have hX1 := h1A.out.below hb1A.out; have hX2 := h2A.out.below hb1A.out
    have hBw := below_then hBA.out hBA.out.size hb1A.out
    obtain ⟨W, hW⟩ : ∃ W, W = w1.drew := ⟨_, rfl⟩
    replace hX0 : Blk W w.heap.size 28 (spc s) := by rw [hW]; exact hX0
    replace hX1 : Blk W (w.heap.size + 1) 30 (coc c) := by rw [hW]; exact hX1
    replace hX2 : Blk W (w.heap.size + 1 + 1) 23 (nums .u8 id) := by rw [hW]; exact hX2
    replace hBw : Below w.heap.size w W := by rw [hW]; exact pw_below_drewN hBw 1
    have gk : ∀ V1, Below W.heap.size W V1 → V1.cell? ⟨w.heap.size, 33, none⟩ = some (.string s.key) := fun V1 h => (hX0.below h).get 33 _ kSA.out
    have gs : ∀ V1, Below W.heap.size W V1 → V1.rangeAt w.heap.size 0 (spc s) := fun V1 h j u hu => by rw [Nat.zero_add]; exact (hX0.below h).get j u hu
    have gc : ∀ V1, Below W.heap.size W V1 → V1.rangeAt (w.heap.size + 1) 0 (coc c) := fun V1 h j u hu => by rw [Nat.zero_add]; exact (hX1.below h).get j u hu
    have gi : ∀ V1, Below W.heap.size W V1 → V1.rangeAt (w.heap.size + 1 + 1) 0 (nums .u8 id) := fun V1 h j u hu => by rw [Nat.zero_add]; exact (hX2.below h).get j u hu
    have hi := info_hash id hidA.out
    have hu := Tryd.underlying23
    have his := info_spend s htA.out
    have hus := Tryd.underlying28
    have hic := info_coin c
    have huc := Tryd.underlying30
    have c1 := fun (V1 : World) (h : Below W.heap.size W V1) => lock_calls s.key (by omega) V1 (hKA.out.below (below_then hBw hBw.size h)) (hBgA.out.below (below_then hBw hBw.size h))
    have c2 := fun (V1 : World) (h : Below W.heap.size W V1) => rlock_calls s.key (by omega) V1 (hRsA.out.below (below_then hBw hBw.size h))
    have c3 := fun (V1 : World) (h : Below W.heap.size W V1) => seal_calls s.key (by omega) id hidA.out hibA.out V1 (hKA.out.below (below_then hBw hBw.size h)) (hBgA.out.below (below_then hBw hBw.size h))
    have c4 := fun (V1 : World) (h : Below W.heap.size W V1) => rseal_calls s.key (by omega) id hidA.out hibA.out V1 (hRsA.out.below (below_then hBw hBw.size h))
    have c5 := fun (V1 : World) (h : Below W.heap.size W V1) => opens_calls s c id (by omega) htA.out hidA.out hibA.out V1 (hKA.out.below (below_then hBw hBw.size h)) (hBgA.out.below (below_then hBw hBw.size h))
    have c6 := fun (V1 : World) (h : Below W.heap.size W V1) => ropens_calls s c id (by omega) htA.out hidA.out hibA.out V1 (hRsA.out.below (below_then hBw hBw.size h))
    generalize opens s c id = ob at *
    generalize lk s.key = X at *
    generalize sl s.key id = Y at *
    have c1A := Aside0.mk c1; have c2A := Aside0.mk c2; have c3A := Aside0.mk c3; have c4A := Aside0.mk c4; have c5A := Aside0.mk c5; have c6A := Aside0.mk c6; have hBwA := Aside0.mk hBw; have gkA := Aside0.mk gk
    clear c1 c2 c3 c4 c5 c6 hBw hX0 hX1 hX2 gk hAlA hVA hBA h0A h1A h2A hKA hBgA hRsA hibA hidA htA hb1A kSA kc
    refine wp_region_noPanic ?_
    rw [hW] at *
    have H0 : Below w1.drew.heap.size w1.drew w1.drew := Below.refl _ _
    refine wp_region_held_drew (S := fun V1 => Below w1.drew.heap.size w1.drew V1) (by kernel_rfl) H0 (fun _ => ?_)
    clear hW
    generalize w1.drew = W at *
    -- REGION B
    refine wpAnyH_take (i := 0) (v := .pointer (some ⟨w.heap.size, 33, none⟩)) (op_at rfl) (by kernel_rfl) (by kernel_rfl) (by kernel_rfl) (fun _ _ _ h => h) (Or.inl ⟨by rfl, fun w_ hSw => ?_⟩) H0 ?_
    · skip; go_simp
    try simp only [Act.put, List.setIfInBounds_toArray, List.set_cons_zero, List.set_cons_succ]
    refine wpAnyH_take (i := 1) (v := .string s.key) (op_at rfl) (by kernel_rfl) (by kernel_rfl) (by kernel_rfl) (fun _ _ _ h => h) (Or.inl ⟨by rfl, fun w_ hSw => ?_⟩) H0 ?_
    · have hc_ := gkA.out w_ hSw; go_simp
    try simp only [Act.put, List.setIfInBounds_toArray, List.set_cons_zero, List.set_cons_succ]
    refine wpAnyH_take (i := 3) (v := .pointer (some ⟨w.heap.size, 33, none⟩)) (op_at rfl) (by kernel_rfl) (by kernel_rfl) (by kernel_rfl) (fun _ _ _ h => h) (Or.inl ⟨by rfl, fun w_ hSw => ?_⟩) H0 ?_
    · skip; go_simp
    try simp only [Act.put, List.setIfInBounds_toArray, List.set_cons_zero, List.set_cons_succ]
    refine wpAnyH_take (i := 4) (v := .string s.key) (op_at rfl) (by kernel_rfl) (by kernel_rfl) (by kernel_rfl) (fun _ _ _ h => h) (Or.inl ⟨by rfl, fun w_ hSw => ?_⟩) H0 ?_
    · have hc_ := gkA.out w_ hSw; go_simp
    try simp only [Act.put, List.setIfInBounds_toArray, List.set_cons_zero, List.set_cons_succ]
    refine wpAnyH_ready (rs := [2]) (by kernel_rfl) (by simp) ?_
    refine AllReadyH.cons (op_at rfl) (fun K hK => ?_) AllReadyH.nil
    go_simp
    go_at_call 7
    with_reducible refine (c1A.out W H0).mono ?_
    rintro e V1_ ⟨rfl, hb⟩
    go_wp2_with fail
    refine hK.out _ _ (below_then H0 H0.size hb) (fun H1_ => ?_)
    clear hK K hb
    try simp only [Act.put, List.setIfInBounds_toArray, List.set_cons_zero, List.set_cons_succ]
    refine wpAnyH_ready (rs := [5]) (by kernel_rfl) (by simp) ?_
    refine AllReadyH.cons (op_at rfl) (fun K hK => ?_) AllReadyH.nil
    go_simp
    go_at_call 8
    with_reducible refine (c2A.out V1_ H1_).mono ?_
    rintro e V2_ ⟨rfl, hb⟩
    go_wp2_with fail
    refine hK.out _ _ (below_then H1_ H1_.size hb) (fun H2_ => ?_)
    clear hK K hb
    try simp only [Act.put, List.setIfInBounds_toArray, List.set_cons_zero, List.set_cons_succ]
    refine wpAnyH_take (i := 6) (v := .bool true) (op_at rfl) (by kernel_rfl) (by kernel_rfl) (by kernel_rfl) (fun _ _ _ h => h) (Or.inl ⟨by rfl, fun w_ hSw => ?_⟩) H2_ ?_
    · skip; go_simp
    try simp only [Act.put, List.setIfInBounds_toArray, List.set_cons_zero, List.set_cons_succ]
    refine wpAnyH_take (i := 7) (v := .bool true) (op_at rfl) (by kernel_rfl) (by kernel_rfl) (by kernel_rfl) (fun _ _ _ h => h) (Or.inl ⟨by rfl, fun w_ hSw => ?_⟩) H2_ ?_
    · skip; go_simp
    try simp only [Act.put, List.setIfInBounds_toArray, List.set_cons_zero, List.set_cons_succ]
    refine wpAnyH_take (i := 8) (v := .pointer (some ⟨w.heap.size, 33, none⟩)) (op_at rfl) (by kernel_rfl) (by kernel_rfl) (by kernel_rfl) (fun _ _ _ h => h) (Or.inl ⟨by rfl, fun w_ hSw => ?_⟩) H2_ ?_
    · skip; go_simp
    try simp only [Act.put, List.setIfInBounds_toArray, List.set_cons_zero, List.set_cons_succ]
    refine wpAnyH_take (i := 9) (v := .string s.key) (op_at rfl) (by kernel_rfl) (by kernel_rfl) (by kernel_rfl) (fun _ _ _ h => h) (Or.inl ⟨by rfl, fun w_ hSw => ?_⟩) H2_ ?_
    · have hc_ := gkA.out w_ hSw; go_simp
    try simp only [Act.put, List.setIfInBounds_toArray, List.set_cons_zero, List.set_cons_succ]
    refine wpAnyH_take (i := 10) (v := hv id) (op_at rfl) (by kernel_rfl) (by kernel_rfl) (by kernel_rfl) (fun _ _ _ h => h) (yieldsIf_load_mid (by rfl) _ _ rfl (w.heap.size + 1 + 1) 0 rfl _ _ (fun w_ hSw => gi w_ hSw) hu rfl hi) H2_ ?_
    try simp only [Act.put, List.setIfInBounds_toArray, List.set_cons_zero, List.set_cons_succ]
    refine wpAnyH_take (i := 12) (v := .pointer (some ⟨w.heap.size, 33, none⟩)) (op_at rfl) (by kernel_rfl) (by kernel_rfl) (by kernel_rfl) (fun _ _ _ h => h) (Or.inl ⟨by rfl, fun w_ hSw => ?_⟩) H2_ ?_
    · skip; go_simp
    try simp only [Act.put, List.setIfInBounds_toArray, List.set_cons_zero, List.set_cons_succ]
    refine wpAnyH_take (i := 13) (v := .string s.key) (op_at rfl) (by kernel_rfl) (by kernel_rfl) (by kernel_rfl) (fun _ _ _ h => h) (Or.inl ⟨by rfl, fun w_ hSw => ?_⟩) H2_ ?_
    · have hc_ := gkA.out w_ hSw; go_simp
    try simp only [Act.put, List.setIfInBounds_toArray, List.set_cons_zero, List.set_cons_succ]
    refine wpAnyH_take (i := 14) (v := hv id) (op_at rfl) (by kernel_rfl) (by kernel_rfl) (by kernel_rfl) (fun _ _ _ h => h) (yieldsIf_load_mid (by rfl) _ _ rfl (w.heap.size + 1 + 1) 0 rfl _ _ (fun w_ hSw => gi w_ hSw) hu rfl hi) H2_ ?_
    try simp only [Act.put, List.setIfInBounds_toArray, List.set_cons_zero, List.set_cons_succ]
    refine wpAnyH_ready (rs := [11]) (by kernel_rfl) (by simp) ?_
    refine AllReadyH.cons (op_at rfl) (fun K hK => ?_) AllReadyH.nil
    go_simp
    go_at_call 9
    with_reducible refine (c3A.out V2_ H2_).mono ?_
    rintro e V3_ ⟨rfl, hb⟩
    go_wp2_with fail
    refine hK.out _ _ (below_then H2_ H2_.size hb) (fun H3_ => ?_)
    clear hK K hb
    try simp only [Act.put, List.setIfInBounds_toArray, List.set_cons_zero, List.set_cons_succ]
    refine wpAnyH_ready (rs := [15]) (by kernel_rfl) (by simp) ?_
    refine AllReadyH.cons (op_at rfl) (fun K hK => ?_) AllReadyH.nil
    go_simp
    go_at_call 10
    with_reducible refine (c4A.out V3_ H3_).mono ?_
    rintro e V4_ ⟨rfl, hb⟩
    go_wp2_with fail
    refine hK.out _ _ (below_then H3_ H3_.size hb) (fun H4_ => ?_)
    clear hK K hb
    try simp only [Act.put, List.setIfInBounds_toArray, List.set_cons_zero, List.set_cons_succ]
    refine wpAnyH_take (i := 16) (v := .bool true) (op_at rfl) (by kernel_rfl) (by kernel_rfl) (by kernel_rfl) (fun _ _ _ h => h) (Or.inl ⟨by rfl, fun w_ hSw => ?_⟩) H4_ ?_
    · skip; go_simp
    try simp only [Act.put, List.setIfInBounds_toArray, List.set_cons_zero, List.set_cons_succ]
    refine wpAnyH_take (i := 17) (v := .bool true) (op_at rfl) (by kernel_rfl) (by kernel_rfl) (by kernel_rfl) (fun _ _ _ h => h) (Or.inl ⟨by rfl, fun w_ hSw => ?_⟩) H4_ ?_
    · skip; go_simp
    try simp only [Act.put, List.setIfInBounds_toArray, List.set_cons_zero, List.set_cons_succ]
    refine wpAnyH_take (i := 18) (v := .bool true) (op_at rfl) (by kernel_rfl) (by kernel_rfl) (by kernel_rfl) (fun _ _ _ h => h) (Or.inl ⟨by rfl, fun w_ hSw => ?_⟩) H4_ ?_
    · skip; go_simp
    try simp only [Act.put, List.setIfInBounds_toArray, List.set_cons_zero, List.set_cons_succ]
    refine wpAnyH_take (i := 19) (v := spv s) (op_at rfl) (by kernel_rfl) (by kernel_rfl) (by kernel_rfl) (fun _ _ _ h => h) (yieldsIf_load_mid (by rfl) _ _ rfl w.heap.size 0 rfl _ _ (fun w_ hSw => gs w_ hSw) hus rfl his) H4_ ?_
    try simp only [Act.put, List.setIfInBounds_toArray, List.set_cons_zero, List.set_cons_succ]
    refine wpAnyH_take (i := 20) (v := cov c) (op_at rfl) (by kernel_rfl) (by kernel_rfl) (by kernel_rfl) (fun _ _ _ h => h) (yieldsIf_load_mid (by rfl) _ _ rfl (w.heap.size + 1) 0 rfl _ _ (fun w_ hSw => gc w_ hSw) huc rfl hic) H4_ ?_
    try simp only [Act.put, List.setIfInBounds_toArray, List.set_cons_zero, List.set_cons_succ]
    refine wpAnyH_take (i := 21) (v := hv id) (op_at rfl) (by kernel_rfl) (by kernel_rfl) (by kernel_rfl) (fun _ _ _ h => h) (yieldsIf_load_mid (by rfl) _ _ rfl (w.heap.size + 1 + 1) 0 rfl _ _ (fun w_ hSw => gi w_ hSw) hu rfl hi) H4_ ?_
    try simp only [Act.put, List.setIfInBounds_toArray, List.set_cons_zero, List.set_cons_succ]
    refine wpAnyH_take (i := 23) (v := spv s) (op_at rfl) (by kernel_rfl) (by kernel_rfl) (by kernel_rfl) (fun _ _ _ h => h) (yieldsIf_load_mid (by rfl) _ _ rfl w.heap.size 0 rfl _ _ (fun w_ hSw => gs w_ hSw) hus rfl his) H4_ ?_
    try simp only [Act.put, List.setIfInBounds_toArray, List.set_cons_zero, List.set_cons_succ]
    refine wpAnyH_take (i := 24) (v := cov c) (op_at rfl) (by kernel_rfl) (by kernel_rfl) (by kernel_rfl) (fun _ _ _ h => h) (yieldsIf_load_mid (by rfl) _ _ rfl (w.heap.size + 1) 0 rfl _ _ (fun w_ hSw => gc w_ hSw) huc rfl hic) H4_ ?_
    try simp only [Act.put, List.setIfInBounds_toArray, List.set_cons_zero, List.set_cons_succ]
    refine wpAnyH_take (i := 25) (v := hv id) (op_at rfl) (by kernel_rfl) (by kernel_rfl) (by kernel_rfl) (fun _ _ _ h => h) (yieldsIf_load_mid (by rfl) _ _ rfl (w.heap.size + 1 + 1) 0 rfl _ _ (fun w_ hSw => gi w_ hSw) hu rfl hi) H4_ ?_
    try simp only [Act.put, List.setIfInBounds_toArray, List.set_cons_zero, List.set_cons_succ]
    refine wpAnyH_ready (rs := [22]) (by kernel_rfl) (by simp) ?_
    refine AllReadyH.cons (op_at rfl) (fun K hK => ?_) AllReadyH.nil
    go_simp
    go_at_call 11
    with_reducible refine (c5A.out V4_ H4_).mono ?_
    rintro e V5_ ⟨rfl, hb⟩
    go_wp2_with fail
    refine hK.out _ _ (below_then H4_ H4_.size hb) (fun H5_ => ?_)
    clear hK K hb
    try simp only [Act.put, List.setIfInBounds_toArray, List.set_cons_zero, List.set_cons_succ]
    refine wpAnyH_ready (rs := [26]) (by kernel_rfl) (by simp) ?_
    refine AllReadyH.cons (op_at rfl) (fun K hK => ?_) AllReadyH.nil
    go_simp
    go_at_call 12
    with_reducible refine (c6A.out V5_ H5_).mono ?_
    rintro e V6_ ⟨rfl, hb⟩
    go_wp2_with fail
    refine hK.out _ _ (below_then H5_ H5_.size hb) (fun H6_ => ?_)
    clear hK K hb
    try simp only [Act.put, List.setIfInBounds_toArray, List.set_cons_zero, List.set_cons_succ]
    refine wpAnyH_take (i := 27) (v := .bool true) (op_at rfl) (by kernel_rfl) (by kernel_rfl) (by kernel_rfl) (fun _ _ _ h => h) (Or.inl ⟨by rfl, fun w_ hSw => ?_⟩) H6_ ?_
    · skip; go_simp
    try simp only [Act.put, List.setIfInBounds_toArray, List.set_cons_zero, List.set_cons_succ]
    refine wpAnyH_take (i := 28) (v := .bool true) (op_at rfl) (by kernel_rfl) (by kernel_rfl) (by kernel_rfl) (fun _ _ _ h => h) (Or.inl ⟨by rfl, fun w_ hSw => ?_⟩) H6_ ?_
    · skip; go_simp
    try simp only [Act.put, List.setIfInBounds_toArray, List.set_cons_zero, List.set_cons_succ]
    refine wpAnyH_take (i := 29) (v := .bool true) (op_at rfl) (by kernel_rfl) (by kernel_rfl) (by kernel_rfl) (fun _ _ _ h => h) (Or.inl ⟨by rfl, fun w_ hSw => ?_⟩) H6_ ?_
    · skip; go_simp
    try simp only [Act.put, List.setIfInBounds_toArray, List.set_cons_zero, List.set_cons_succ]
    refine wpAnyH_done (by kernel_rfl) ?_ _
    refine NoPanic.normal ?_
    go_wp2
    go_ret
    exact ⟨rfl, below_then hBwA.out hBwA.out.size H6_⟩
    -- END B
  · have d1 : decide ((s.key.size : Int) > 500) = true := decide_eq_true (by omega)
    have d1' : (500 : Int) < (s.key.size : Int) := by omega
    go_enter Tryd.func3, Tryd.ntmps3
    go_wp2_with (go_at_call 6; rw [← hVA.out]; with_reducible refine hAlA.out.mono ?_; rintro e w1 ⟨rfl, hb1⟩; have kc := (h0A.out.below hb1).get 33 _ kSA.out; have hb1A := Aside0.mk hb1; clear hb1)
    go_ret
    exact ⟨rfl, below_then hBA.out hBA.out.size hb1A.out⟩
end Go.Proofs.YthnfjbnebfjjfaaDoor.Walk
